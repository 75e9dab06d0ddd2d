/- Several texts of the abstract machine, one behind the other. -/
import Derived.WalkKit
import Derived.Laws.Entries
import Derived.ProofKit
import Derived.Deep.Draws
import Derived.Maps.AppendAt
import Derived.Lib.AppendStr
import Derived.Lib.AppendZeros
import Derived.MapKept
import Derived.Maps.RangeRun
set_option linter.unusedSimpArgs false
set_option linter.unusedVariables false
set_option linter.unnecessarySimpa false
set_option linter.unusedSectionVars false
namespace Go.Proofs.YthiclaihlpkinaaGreat
open Go.RowKit
/-- Abstract values. 'rp' and 'rs' are memory that nobody writes: what stands there. 'op', 'ep', 'os', 'mp' point into the call's own blocks; 'ow' is a window on an own slice of n elements, from lo to hi; 'ent' is the handle of a map's entry, 'it' an iterator over a map. -/
inductive AV where
  | any
  | und
  | int (k : IntKind) (n : Int)
  | bool (b : Bool)
  | str (s : ByteArray)
  | nilp | nils | nilf | nilm
  | yl (l : Nat)
  | nilc
  | rp (row : List AV)
  | rs (rows : List (List AV))
  | op (id off : Nat)
  | ep (id n i off : Nat)
  | os (id n : Nat)
  | ow (id n lo hi : Nat)
  | agg (cells : List AV)
  | tup (vs : List AV)
  | fn (f : Nat) (caps : List AV)
  | mp (id : Nat)
  | ent (id i : Nat)
  | it (id : Nat)
  | fb (f : Nat) (first : List AV)
  | nec
mutual
/-- Does a value hold memory of the call's own? -/
def owns : AV → Bool
  | .op .. | .ep .. | .os .. | .ow .. | .mp _ | .ent .. | .it _ => true
  | .agg l => ownsL l
  | .tup l => ownsL l
  | .fn _ l => ownsL l
  | _ => false
def ownsL : List AV → Bool
  | [] => false
  | x :: r => owns x || ownsL r
end
/-- What is known of package variables: the memory of some of them, which nobody writes. -/
class Glob where
  row : Nat → Option (List AV)
  exact : Nat → Option (Array Value) := fun _ => none
variable [Glob]
/-- The call's own blocks: one variable, a row of elements (nb: it may be that there is none as yet, the slice being nil), a map, an iterator over a map (the entries that were seen). -/
inductive Blk where
  | box (t : TypeId) (cells : List AV)
  | row (e : TypeId) (nb : Bool) (rows : List (List AV))
  | map (es : List (AV × AV))
  | gone
  | iter (m : Option Nat) (n : Nat) (seen : List Nat)
structure St where
  T : List (Nat × AV)
  H : List Blk
def tget : List (Nat × AV) → Nat → AV
  | [], _ => .any
  | (j, v) :: r, k => if j = k then v else tget r k
def tput : List (Nat × AV) → Nat → AV → List (Nat × AV)
  | [], k, v => [(k, v)]
  | (j, u) :: r, k, v => if j = k then (k, v) :: r else (j, u) :: tput r k v
def tputD (T : List (Nat × AV)) : Option Nat → AV → List (Nat × AV)
  | none, _ => T
  | some d, v => tput T d v
/-- One cell of a constant. -/
def ofCell : Value → AV
  | .int k n => .int k n
  | .bool b => .bool b
  | .string s => .str s
  | .pointer none => .nilp
  | .slice none 0 0 => .nils
  | .nilFunc => .nilf
  | .map none => .nilm
  | _ => .any
def ofV : Value → AV
  | .agg cs => if cs.all (·.oneCell') then .agg (cs.toList.map ofCell) else .any
  | v => ofCell v
def ev (T : List (Nat × AV)) : Operand → AV
  | .tmp t => tget T t
  | .const v => ofV v
  | .func f => .fn f []
  | .global g => match Glob.row g with | some r => .rp r | none => .any
/-- What is needed of a type. -/
structure Ty where
  sz : Nat
  ag : Bool
  zero : List AV
  sl : Bool
  elem : Nat
  arr : Option Nat
  flds : List (Nat × Nat)
  int : Option IntKind
  str : Bool
  pls : List (Nat × Nat)
  esz : Nat
def descTy (d : TypeDesc) (sz : Nat) (z : List AV) (pls : List (Nat × Nat)) (esz : Nat) : Ty :=
  match d with
  | .struct fs => ⟨sz, true, z, false, 0, none, fs.toList.map fun f => (f.offset, f.type), none, false, pls, esz⟩
  | .array n e => ⟨sz, true, z, false, e, some n, [], none, false, pls, esz⟩
  | .slice e => ⟨sz, false, z, true, e, none, [], none, false, pls, esz⟩
  | .int k => ⟨sz, false, z, false, 0, none, [], some k, false, pls, esz⟩
  | .string => ⟨sz, false, z, false, 0, none, [], none, true, pls, esz⟩
  | _ => ⟨sz, false, z, false, 0, none, [], none, false, pls, esz⟩
/-- Where the fields of a struct stand, and how large they are; and the size of an array's elements. -/
def inner (P : Program) (d : TypeDesc) : Option (List (Nat × Nat) × Nat) :=
  match d with
  | .struct fs => match fs.toList.mapM fun f => (P.info? f.type).map fun i => (f.offset, i.size) with | some l => some (l, 0) | none => none
  | .array _ e => match P.info? e with | some i => some ([], i.size) | none => none
  | _ => some ([], 0)
def ty (P : Program) (t : TypeId) : Option Ty :=
  match P.info? t, P.underlying t with
  | some i, some d => match i.zero, inner P d with
    | some z, some (pls, esz) => if z.cells.size = i.size ∧ 0 < i.size ∧ z.cells.all (·.oneCell') = true ∧ i.bytes ≤ 4096 then some (descTy d i.size (z.cells.toList.map ofCell) pls esz) else none
    | _, _ => none
  | _, _ => none
/-- A part of a value's cells. -/
def part (i : Ty) (cs : List AV) (off : Nat) : Option AV :=
  if off + i.sz ≤ cs.length then
    if i.ag then some (.agg ((cs.drop off).take i.sz)) else (cs.drop off).head?
  else none
def cellsOf : AV → Option (List AV)
  | .agg cs => some cs
  | .any => none
  | .und => none
  | .tup _ => none
  | v => some [v]
/-- The cells of a value of a type of this size. -/
def cellsN (n : Nat) (v : AV) : Option (List AV) := match cellsOf v with | some cs => if cs.length = n then some cs else none | none => none
/-- What an operation does to the blocks. -/
inductive Upd where
  | no
  | new (b : Blk)
  | set (id : Nat) (b : Blk)
def upd (H : List Blk) : Upd → List Blk
  | .no => H
  | .new b => H ++ [b]
  | .set id b => H.set id b
/-- The cells from a place on. -/
def rd (H : List Blk) : AV → Option (List AV)
  | .rp row => some row
  | .op id o => match H[id]? with | some (.box _ cs) => some (cs.drop o) | _ => none
  | .ep id n i o => match H[id]? with | some (.row _ _ rows) => if rows.length = n then match rows[i]? with | some row => some (row.drop o) | none => none else none | _ => none
  | _ => none
def over (cs : List AV) (o : Nat) (new : List AV) : Option (List AV) :=
  if o + new.length ≤ cs.length then some (cs.take o ++ new ++ cs.drop (o + new.length)) else none
def wr (H : List Blk) (p : AV) (new : List AV) : Option Upd :=
  match p with
  | .op id o => match H[id]? with
    | some (.box t cs) => match over cs o new with | some c => some (.set id (.box t c)) | none => none
    | _ => none
  | .ep id n i o => match H[id]? with
    | some (.row e nb rows) => if rows.length = n then match rows[i]? with
      | some row => match over row o new with | some c => some (.set id (.row e nb (rows.set i c))) | none => none
      | none => none else none
    | _ => none
  | _ => none
def allLen (n : Nat) (rows : List (List AV)) : Bool := rows.all fun r => r.length == n
/-- The elements that a slice reads as, each of so many cells. -/
def elems (H : List Blk) (sz : Nat) : AV → Option (List (List AV))
  | .rs rows => if sz = 0 ∨ allLen sz rows = true then some rows else none
  | .nils => some []
  | .nilc => some []
  | .nec => some []
  | .os id n => match H[id]? with | some (.row _ _ rows) => if rows.length = n ∧ (sz = 0 ∨ allLen sz rows = true) then some rows else none | _ => none
  | .ow id n lo hi => match H[id]? with | some (.row _ _ rows) => if rows.length = n ∧ (sz = 0 ∨ allLen sz rows = true) then some ((rows.take hi).drop lo) else none | _ => none
  | _ => none
/-- Elements put over others. -/
def putR (rows : List (List AV)) (k : Nat) (ys : List (List AV)) : List (List AV) := rows.take k ++ ys ++ rows.drop (k + ys.length)
def shift (H : List Blk) (p : AV) (k : Nat) : Option AV :=
  match p with
  | .rp row => some (.rp (row.drop k))
  | .op id o => match H[id]? with | some (.box _ _) => some (.op id (o + k)) | _ => none
  | .ep id n i o => match H[id]? with | some (.row _ _ rows) => if rows.length = n then some (.ep id n i (o + k)) else none | _ => none
  | _ => none
def elemAt (H : List Blk) (sz : Nat) (e : TypeId) (x : AV) (i : Int) : Option AV :=
  match x with
  | .rs rows => if 0 ≤ i then match rows[i.toNat]? with | some row => if row.length = sz then some (.rp row) else none | none => none else none
  | .os id n => match H[id]? with | some (.row e' _ rows) => if 0 ≤ i ∧ i.toNat < n ∧ rows.length = n ∧ e' = e then some (.ep id n i.toNat 0) else none | _ => none
  | .ow id n lo hi => match H[id]? with | some (.row e' _ rows) => if 0 ≤ i ∧ lo + i.toNat < hi ∧ rows.length = n ∧ e' = e then some (.ep id n (lo + i.toNat) 0) else none | _ => none
  | _ => none
/-- The remainder of a number in so many bits, sealed: so that the kernel does not reckon it where two of them are held side by side. -/
inductive IsWrap (k : IntKind) (n : Int) : Int → Prop
  | mk : IsWrap k n (k.wrap n)
noncomputable def wrapI (k : IntKind) (n : Int) : Int := Classical.choose (show ∃ m, IsWrap k n m from ⟨_, .mk⟩)
theorem wrapI_eq (k : IntKind) (n : Int) : wrapI k n = k.wrap n := by
  have h : IsWrap k n (wrapI k n) := Classical.choose_spec (show ∃ m, IsWrap k n m from ⟨_, .mk⟩)
  generalize wrapI k n = m at h
  cases h; rfl
/-- How far a number of this kind may be shifted here. -/
def shW : IntKind → Int
  | .i64 => 64
  | .u64 => 64
  | _ => 8
/-- Operations bit by bit, sealed likewise. -/
inductive IsBits (op : BinOp) (k : IntKind) (a b : Int) : Int → Prop
  | mk : IsBits op k a b (bits op k a b)
noncomputable def bitI (op : BinOp) (k : IntKind) (a b : Int) : Int := Classical.choose (show ∃ m, IsBits op k a b m from ⟨_, .mk⟩)
theorem bitI_eq (op : BinOp) (k : IntKind) (a b : Int) : bitI op k a b = bits op k a b := by
  have h : IsBits op k a b (bitI op k a b) := Classical.choose_spec (show ∃ m, IsBits op k a b m from ⟨_, .mk⟩)
  generalize bitI op k a b = m at h
  cases h; rfl
noncomputable def ebinS (op : BinOp) (k : IntKind) (a b : Int) : Option AV :=
  match op with
  | .shr => if 0 ≤ b ∧ b ≤ shW k then some (.int k (a / 2 ^ b.toNat)) else none
  | .shl => if 0 ≤ b ∧ b ≤ shW k then some (.int k (wrapI k (a * 2 ^ b.toNat))) else none
  | _ => none
noncomputable def ebin (op : BinOp) (x y : AV) : Option AV :=
  match x, y with
  | .int k a, .int k' b =>
    if k = k' then
      match op with
      | .add => some (.int k (wrapI k (a + b)))
      | .sub => some (.int k (wrapI k (a - b)))
      | .mul => some (.int k (wrapI k (a * b)))
      | .quo => if b = 0 then none else some (.int k (wrapI k (a.tdiv b)))
      | .rem => if b = 0 then none else some (.int k (a.tmod b))
      | .shr => if 0 ≤ b ∧ b ≤ shW k then some (.int k (a / 2 ^ b.toNat)) else none
      | .shl => if 0 ≤ b ∧ b ≤ shW k then some (.int k (wrapI k (a * 2 ^ b.toNat))) else none
      | .and => some (.int k (bitI .and k a b))
      | .or => some (.int k (bitI .or k a b))
      | .xor => some (.int k (bitI .xor k a b))
      | .eql => some (.bool (a == b))
      | .neq => some (.bool (a != b))
      | .lss => some (.bool (decide (a < b)))
      | .leq => some (.bool (decide (a ≤ b)))
      | .gtr => some (.bool (decide (a > b)))
      | .geq => some (.bool (decide (a ≥ b)))
      | _ => none
    else ebinS op k a b
  | .str a, .str b =>
    match op with
    | .add => if a.size + b.size ≤ 1073741824 then some (.str (a ++ b)) else none
    | .eql => some (.bool (a.toList == b.toList))
    | .neq => some (.bool (!(a.toList == b.toList)))
    | .lss => some (.bool (Op.bytesLess a.toList b.toList))
    | .leq => some (.bool (Op.bytesLess a.toList b.toList || a.toList == b.toList))
    | .gtr => some (.bool (!(Op.bytesLess a.toList b.toList || a.toList == b.toList)))
    | .geq => some (.bool (!Op.bytesLess a.toList b.toList))
    | _ => none
  | _, _ => none
noncomputable def eun (op : UnOp) (x : AV) : Option AV :=
  match op, x with
  | .neg, .int k n => some (.int k (wrapI k (0 - n)))
  | .not, .bool b => some (.bool !b)
  | _, _ => none
def fillA (place : Nat → Option (Nat × Nat)) (cells : List AV) : List (Nat × AV) → Option (List AV)
  | [] => some cells
  | (i, v) :: rest =>
    match place i with
    | none => none
    | some (off, size) => match cellsN size v with
      | some vs => match over cells off vs with | some c => fillA place c rest | none => none
      | none => none
def subStr (s : ByteArray) (lo hi : Int) : Option AV := if 0 ≤ lo ∧ lo ≤ hi ∧ hi ≤ s.size then some (.str (s.extract lo.toNat hi.toNat)) else none
def subSl (sz : Nat) (rows : List (List AV)) (lo hi : Int) : Option AV := if 0 ≤ lo ∧ lo ≤ hi ∧ hi ≤ rows.length ∧ allLen sz rows = true then some (.rs ((rows.drop lo.toNat).take (hi.toNat - lo.toNat))) else none
/-- Bytes in a slice. -/
def bytesRows (b : ByteArray) : List (List AV) := b.data.toList.map fun c => [.int .u8 c.toNat]
def unbytes : List (List AV) → Option (List UInt8)
  | [] => some []
  | r :: l => match r, unbytes l with | [.int .u8 n], some q => some (UInt8.ofNat n.toNat :: q) | _, _ => none
def bound (T : List (Nat × AV)) (d : Int) : Option Operand → Option Int
  | none => some d
  | some x => match ev T x with | .int _ n => some n | _ => none
def foldA (f : Int → Int → Int) : AV → List AV → Option AV
  | x, [] => some x
  | .int k a, .int _ b :: r => foldA f (.int k (f a b)) r
  | _, _ => none
section
variable (P : Program)
/-- The size of a field, for 'build'. -/
def place (i : Ty) (k : Nat) : Option (Nat × Nat) :=
  match i.arr with
  | some _ => some (k * i.esz, i.esz)
  | none => i.pls[k]?
/-- The kinds of the fields of a struct whose values are compared field by field. -/
def skind (t : TypeId) : Option Nat := match P.underlying t with | some (.int _) => some 0 | some .bool => some 1 | some .string => some 2 | _ => none
def eqKinds (t : TypeId) : Option (List Nat) :=
  match P.underlying t with
  | some (.struct fs) => if P.stoodInHeld t = false ∧ P.eqGuardType P.depth t = false ∧ fs.toList.map (·.offset) = List.range' 0 fs.toList.length then fs.toList.mapM fun f => if f.name ≠ "_" then skind P f.type else none else none
  | _ => none
/-- The same, where fields may be such structs themselves. -/
def deepF : List Field → Nat → Option (List Nat)
  | [], _ => some []
  | f :: r, k => if f.name ≠ "_" ∧ f.offset = k then
      (match skind P f.type with
      | some n => (match deepF r (k + 1) with | some ks => some (n :: ks) | none => none)
      | none => match eqKinds P f.type, ty P f.type with
        | some ks1, some i => if i.ag = true ∧ i.sz = ks1.length then (match deepF r (k + ks1.length) with | some ks => some (ks1 ++ ks) | none => none) else none
        | _, _ => none)
    else none
def eqKindsN (t : TypeId) : Option (List Nat) :=
  match eqKinds P t with
  | some ks => some ks
  | none => match P.underlying t with
    | some (.struct fs) => if P.stoodInHeld t = false ∧ P.eqGuardType P.depth t = false then deepF P fs.toList 0 else none
    | some (.array n e) => if P.eqGuardType P.depth t = false ∧ skind P e = some 0 ∧ P.cellsOf e = 1 ∧ (P.info? e).isSome = true then some (List.replicate n 0) else none
    | _ => none
def eqCs : List Nat → List AV → List AV → Option Bool
  | [], [], [] => some true
  | 0 :: ks, .int k a :: r, .int k' b :: r' => if k = k' then (match eqCs ks r r' with | some e => some ((a == b) && e) | none => none) else none
  | 1 :: ks, .bool a :: r, .bool b :: r' => (match eqCs ks r r' with | some e => some ((a == b) && e) | none => none)
  | 2 :: ks, .str a :: r, .str b :: r' => (match eqCs ks r r' with | some e => some ((a.toList == b.toList) && e) | none => none)
  | _, _, _ => none
def eqAgg (ks : Option (List Nat)) (op : BinOp) (xs ys : List AV) : Option AV :=
  match ks with
  | some ks => match eqCs ks xs ys with
    | some b => match op with | .eql => some (.bool b) | .neq => some (.bool !b) | _ => none
    | none => none
  | none => none
/-- How the keys of a map are compared: field by field (true), or at once. -/
def keyKs (t : TypeId) : Option (Bool × List Nat) := match skind P t with | some n => some (false, [n]) | none => match eqKinds P t with | some ks => some (true, ks) | none => none
def keq (ks : Bool × List Nat) (x y : AV) : Option Bool :=
  match ks with
  | (false, ks) => eqCs ks [x] [y]
  | (true, ks) => match x, y with | .agg xs, .agg ys => eqCs ks xs ys | _, _ => none
def mfind (ks : Bool × List Nat) (k : AV) : List (AV × AV) → Nat → Option (Option (Nat × AV))
  | [], _ => some none
  | e :: r, i => match keq ks k e.1 with | some true => some (some (i, e.2)) | some false => mfind ks k r (i + 1) | none => none
/-- What a map without the key hands back, and how its keys are compared. -/
def mapTy (t : TypeId) : Option (AV × Bool × List Nat) :=
  match P.underlying t with
  | some (.map kt et) => match keyKs P kt, (P.info? et).bind (·.zero) with | some ks, some z => some (ofV z, ks) | _, _ => none
  | _ => none
def mval (z : AV) (r : Option (Nat × AV)) : AV := match r with | some e => e.2 | none => z
def mplace (es : List (AV × AV)) (r : Option (Nat × AV)) : Nat := match r with | some e => e.1 | none => es.length
def mput (es : List (AV × AV)) (r : Option (Nat × AV)) (k x : AV) : List (AV × AV) := match r with | some e => es.set e.1 (k, x) | none => es ++ [(k, x)]
/-- What is appended: the elements of a slice, or a string's bytes. -/
def srcE (H : List Blk) (t t' : TypeId) (e : Ty) (y : AV) : Option (List (List AV)) :=
  if t' = t then elems H e.sz y else match y with
    | .str b => match ty P t' with | some i => if i.str = true ∧ e.int = some .u8 ∧ e.sz = 1 then some (bytesRows b) else none | none => none
    | _ => none
/-- The builtin functions. -/
def ebi (s : St) (b : Builtin) (ts : List TypeId) (args : List AV) : Option (AV × Upd) :=
  match b, ts, args with
  | .len, [t], [x] => match ty P t with
    | some i => match x with
      | .os id n => match s.H[id]? with | some (.row _ _ rows) => if rows.length = n ∧ i.sl = true then some (.int .i64 n, .no) else none | _ => none
      | .ow id n lo hi => match s.H[id]? with | some (.row _ _ rows) => if rows.length = n ∧ i.sl = true then some (.int .i64 (hi - lo : Nat), .no) else none | _ => none
      | .rs rows => if i.sl then some (.int .i64 rows.length, .no) else none
      | .nils => if i.sl then some (.int .i64 0, .no) else none
      | .nilc => if i.sl then some (.int .i64 0, .no) else none
      | .nec => if i.sl then some (.int .i64 0, .no) else none
      | .str b => if i.str then some (.int .i64 b.size, .no) else none
      | .mp id => match s.H[id]? with | some (.map es) => if (mapTy P t).isSome then some (.int .i64 es.length, .no) else none | _ => none
      | _ => none
    | none => none
  | .cap, [t], [x] => match ty P t with
    | some i => if i.sl = true then match x with
      | .nils => some (.int .i64 0, .no)
      | .nilc => some (.int .i64 0, .no)
      | .nec => some (.int .i64 0, .no)
      | _ => none
      else none
    | none => none
  | .clear, [t], [x] => match ty P t with
    | some i => if i.sl = true then match ty P i.elem with
      | some e => match x with
        | .os id n => match s.H[id]? with
          | some (.row e' nb rows) => if rows.length = n ∧ e' = i.elem then some (.tup [], .set id (.row e' nb (putR rows 0 (List.replicate n e.zero)))) else none
          | _ => none
        | .ow id n lo hi => match s.H[id]? with
          | some (.row e' nb rows) => if rows.length = n ∧ e' = i.elem then some (.tup [], .set id (.row e' nb (putR rows lo (List.replicate (hi - lo) e.zero)))) else none
          | _ => none
        | .nils => some (.tup [], .no)
        | _ => none
      | none => none else none
    | none => none
  | .copy, [t, t'], [x, y] => match ty P t with
    | some i => if i.sl = true ∧ t' = t then match ty P i.elem with
      | some e => match elems s.H e.sz y with
        | some ys => match x with
          | .os id n => match s.H[id]? with
            | some (.row e' nb rows) => if rows.length = n ∧ e' = i.elem then some (.int .i64 (min ys.length n : Nat), .set id (.row e' nb (putR rows 0 (ys.take n)))) else none
            | _ => none
          | .ow id n lo hi => match s.H[id]? with
            | some (.row e' nb rows) => if rows.length = n ∧ e' = i.elem then some (.int .i64 (min ys.length (hi - lo) : Nat), .set id (.row e' nb (putR rows lo (ys.take (hi - lo))))) else none
            | _ => none
          | _ => none
        | none => none
      | none => none else none
    | none => none
  | .append, [t, t'], [x, .int k m] => match ty P t, ty P t' with
    | some i, some i' => if i.sl = true ∧ i'.int = some k ∧ k = .i64 ∧ 0 < m ∧ m ≤ 1073741824 then match ty P i.elem with
      | some e => match x with
        | .nils => some (.os s.H.length m.toNat, .new (.row i.elem false (List.replicate m.toNat e.zero)))
        | _ => none
      | none => none else none
    | _, _ => none
  | .append, [t, t'], [x, y] => match ty P t with
    | some i => if i.sl = true then match ty P i.elem with
      | some e => match srcE P s.H t t' e y with
        | some ys => match x with
          | .nils => if ys.isEmpty then some (.nils, .no) else if ys.length ≤ 1073741824 then some (.os s.H.length ys.length, .new (.row i.elem false ys)) else none
          | .nilc => if ys.isEmpty then some (.nilc, .no) else if ys.length ≤ 1073741824 then some (.os s.H.length ys.length, .new (.row i.elem false ys)) else none
          | .nec => if ys.isEmpty then some (.nec, .no) else if ys.length ≤ 1073741824 then some (.os s.H.length ys.length, .new (.row i.elem false ys)) else none
          | .os id n => match s.H[id]? with
            | some (.row e' nb rows) => if rows.length = n ∧ n + ys.length ≤ 1073741824 ∧ e' = i.elem then some (.os id (n + ys.length), .set id (.row e' nb (rows ++ ys))) else none
            | _ => none
          | .ow id n lo hi => match s.H[id]? with
            | some (.row e' nb rows) => if rows.length = n ∧ hi + ys.length ≤ n ∧ e' = i.elem ∧ t' = t then some (.ow id n lo (hi + ys.length), .set id (.row e' nb (putR rows hi ys))) else none
            | _ => none
          | _ => none
        | none => none
      | none => none else none
    | none => none
  | .min, _, x :: r => match foldA (fun a b => if b < a then b else a) x r with | some v => some (v, .no) | none => none
  | .max, _, x :: r => match foldA (fun a b => if b > a then b else a) x r with | some v => some (v, .no) | none => none
  | _, _, _ => none
noncomputable def ebinT (op : BinOp) (t : TypeId) (x y : AV) : Option AV :=
  match x, y with
  | .agg xs, .agg ys => eqAgg (eqKindsN P t) op xs ys
  | .bool a, .bool b => match skind P t with
    | some 1 => (match op with | .eql => some (.bool (a == b)) | .neq => some (.bool (!(a == b))) | _ => none)
    | _ => none
  | x, y => ebin op x y
/-- A slice is compared with nil. -/
def isNilS : Operand → Bool
  | .const (.slice none 0 0) => true
  | _ => false
def nilCmp (H : List Blk) (op : BinOp) (x : AV) : Option AV :=
  match x with
  | .rs rows => if rows.isEmpty then none else match op with | .eql => some (.bool false) | .neq => some (.bool true) | _ => none
  | .nils => match op with | .eql => some (.bool true) | .neq => some (.bool false) | _ => none
  | .nec => match op with | .eql => some (.bool false) | .neq => some (.bool true) | _ => none
  | .os id n => match H[id]? with | some (.row _ nb rows) => if rows.length = n ∧ (nb = false ∨ 0 < n) then (match op with | .eql => some (.bool false) | .neq => some (.bool true) | _ => none) else none | _ => none
  | _ => none
/-- A map is compared with nil. -/
def isNilM : Operand → Bool
  | .const (.map none) => true
  | _ => false
def nilCmpM (H : List Blk) (op : BinOp) (x : AV) : Option AV :=
  match x with
  | .nilm => match op with | .eql => some (.bool true) | .neq => some (.bool false) | _ => none
  | .mp id => match H[id]? with | some (.map _) => (match op with | .eql => some (.bool false) | .neq => some (.bool true) | _ => none) | _ => none
  | _ => none
/-- Does what an operation yields hang on the blocks? -/
def sens : Op → Bool
  | .binOp _ _ _ (.const (.map none)) _ => true
  | .binOp _ _ _ (.const (.slice none 0 0)) _ => true
  | .move _ | .assign _ | .pick .. | .alloc _ | .box .. | .build .. | .buildSlice .. | .binOp .. | .unOp .. | .makeFunc .. | .makeSlice .. | .field .. | .index .. | .extract .. => false
  | .call { callee := .builtin .min, .. } | .call { callee := .builtin .max, .. } => false
  | _ => true
def same (o : Option AV) : Option (AV × Upd) := match o with | some v => some (v, .no) | none => none
/-- A slice that is not the call's own. -/
def roS : AV → Bool
  | .rs _ => true
  | .nils => true
  | _ => false
/-- An operation that calls no function. -/
noncomputable def eop (o : Oper) (s : St) : Option (AV × Upd) :=
  match o.op with
  | .move x => some (ev s.T x, .no)
  | .assign x => some (ev s.T x, .no)
  | .pick c a b => match ev s.T c with | .bool c => some (if c then ev s.T a else ev s.T b, .no) | _ => none
  | .alloc t => match ty P t with | some i => some (.op s.H.length 0, .new (.box t i.zero)) | none => none
  | .box t x => match ty P t with | some i => (match cellsN i.sz (ev s.T x) with | some cs => some (.op s.H.length 0, .new (.box t cs)) | none => none) | none => none
  | .build t parts => match ty P t with
    | some i => if i.ag then match fillA (place i) i.zero (parts.toList.map fun (p : Nat × Operand) => (p.1, ev s.T p.2)) with | some c => some (.agg c, .no) | none => none else none
    | none => none
  | .buildSlice t len parts => match ty P t with
    | some i => if i.sl then match ty P i.elem with
      | some e => match parts.toList.mapM (fun (p : Nat × Operand) => cellsN e.sz (ev s.T p.2)) with
        | some rows => if parts.toList.map (fun (p : Nat × Operand) => p.1) = List.range len ∧ len ≤ 1000 ∧ e.sz ≤ 1000 then (if len = 0 then some (.nec, .no) else if e.sl = true ∧ (rows.all fun r => r.all roS) = true then some (.rs rows, .no) else some (.os s.H.length len, .new (.row i.elem false rows))) else none
        | none => none
      | none => none else none
    | none => none
  | .load t a => match ty P t, rd s.H (ev s.T a) with | some i, some cs => same (part i cs 0) | _, _ => none
  | .store t a x => match ty P t with
    | some i => match cellsN i.sz (ev s.T x) with
      | some cs => match wr s.H (ev s.T a) cs with | some u => some (.any, u) | none => none
      | none => none
    | none => none
  | .nilCheck x => match rd s.H (ev s.T x) with | some _ => some (ev s.T x, .no) | none => none
  | .binOp op t x y _ => if isNilS y then (match ty P t with | some i => if i.sl then same (nilCmp s.H op (ev s.T x)) else none | none => none) else if isNilM y then (match mapTy P t with | some _ => same (nilCmpM s.H op (ev s.T x)) | none => none) else same (ebinT P op t (ev s.T x) (ev s.T y))
  | .unOp op _ x => same (eun op (ev s.T x))
  | .convert src dst x => match ty P src, ty P dst, ev s.T x with
    | some _, some d, .int _ n => match d.int with | some k => some (.int k (wrapI k n), .no) | none => if d.str then some (.str (Utf8.encode n), .no) else none
    | some _, some d, .str b => if d.str then some (.str b, .no) else if d.sl then match ty P d.elem with | some e => if e.int = some .u8 ∧ e.sz = 1 then some (.rs (bytesRows b), .no) else none | none => none else none
    | some i, some d, x => if i.sl ∧ d.str then match ty P i.elem, elems s.H 1 x with | some e, some rows => if e.int = some .u8 ∧ e.sz = 1 then match unbytes rows with | some q => some (.str ⟨q.toArray⟩, .no) | none => none else none | _, _ => none else none
    | _, _, _ => none
  | .makeFunc (.func f) first caps => if first.size = 0 then some (.fn f (caps.toList.map (ev s.T)), .no) else if caps.size = 0 ∧ ownsL (first.toList.map (ev s.T)) = false then some (.fb f (first.toList.map (ev s.T)), .no) else none
  | .makeSlice t l c => match ty P t, ev s.T l, ev s.T c with
    | some i, .int .i64 n, .int .i64 m => if i.sl then match ty P i.elem with
      | some e => if 0 ≤ n ∧ n = m ∧ n ≤ 1073741824 then some (.os s.H.length n.toNat, .new (.row i.elem false (List.replicate n.toNat e.zero))) else none
      | none => none else none
    | _, _, _ => none
  | .slice t x lo hi (some mx) => match ty P t with
    | some i => if i.sl then match bound s.T 0 lo, bound s.T 1 hi, bound s.T 1 (some mx) with
      | some 0, some 0, some 0 => (match elems s.H 0 (ev s.T x), ty P i.elem with | some _, some _ => some (.nilc, .no) | _, _ => none)
      | some l, some h, some m => (match ev s.T x, ty P i.elem with
        | .os id n, some _ => (match s.H[id]? with | some (.row _ _ rows) => if rows.length = n ∧ 0 ≤ l ∧ l ≤ h ∧ h ≤ m ∧ m ≤ n ∧ hi.isSome = true then some (.any, .no) else none | _ => none)
        | _, _ => none)
      | _, _, _ => none
      else none
    | none => none
  | .slice t x lo hi none => match ty P t with
    | some i => match ev s.T x with
      | .str b => if i.str then match bound s.T 0 lo, bound s.T b.size hi with | some l, some h => same (subStr b l h) | _, _ => none else none
      | .rs rows => if i.sl then match ty P i.elem with
        | some e => match bound s.T 0 lo, bound s.T rows.length hi with | some l, some h => same (subSl e.sz rows l h) | _, _ => none
        | none => none else none
      | .nils => if i.sl then match ty P i.elem, bound s.T 0 lo, bound s.T 0 hi with | some _, some 0, some 0 => some (.nils, .no) | _, _, _ => none else none
      | .os id n => if i.sl then match ty P i.elem, s.H[id]?, bound s.T 0 lo, bound s.T n hi with
        | some _, some (.row e' _ rows), some l, some h => if 0 < n ∧ rows.length = n ∧ e' = i.elem ∧ 0 ≤ l ∧ l ≤ h ∧ h ≤ n then some (.ow id n l.toNat h.toNat, .no) else none
        | _, _, _, _ => none else none
      | .ow id n a b => if i.sl then match ty P i.elem, s.H[id]?, bound s.T 0 lo, bound s.T (b - a : Nat) hi with
        | some _, some (.row e' _ rows), some l, some h => if 0 < n ∧ rows.length = n ∧ e' = i.elem ∧ 0 ≤ l ∧ l ≤ h ∧ h ≤ (n - a : Nat) then some (.ow id n (a + l.toNat) (a + h.toNat), .no) else none
        | _, _, _, _ => none else none
      | .rp row => match i.arr, lo, hi, ty P i.elem with
        | some n, none, none, some e => if e.sz = 1 ∧ row.length = n ∧ 0 < n then some (.rs (row.map fun c => [c]), .no) else none
        | _, _, _, _ => none
      | _ => none
    | none => none
  | .fieldAddr t x f => match ty P t with
    | some i => match i.flds[f]? with
      | some (off, ft) => match ty P ft with | some _ => same (shift s.H (ev s.T x) off) | none => none
      | none => none
    | none => none
  | .field t x f => match ty P t with
    | some i => match i.flds[f]?, ev s.T x with
      | some (off, ft), .agg cs => match ty P ft with | some fi => same (part fi cs off) | none => none
      | _, _ => none
    | none => none
  | .indexAddr t x i => match ty P t, ev s.T i with
    | some ti, .int _ n => match ty P ti.elem with
      | some e => if ti.sl then same (elemAt s.H e.sz ti.elem (ev s.T x) n)
        else match ti.arr with | some l => if 0 ≤ n ∧ n < l then same (shift s.H (ev s.T x) (n.toNat * e.sz)) else none | none => none
      | none => none
    | _, _ => none
  | .index t x i => match ty P t, ev s.T i, ev s.T x with
    | some ti, .int _ n, .str b => if ti.str ∧ 0 ≤ n then match b.data[n.toNat]? with | some c => some (.int .u8 c.toNat, .no) | none => none else none
    | some ti, .int _ n, .agg cs => match ti.arr, ty P ti.elem with
      | some l, some e => if 0 ≤ n ∧ n < l then same (part e cs (n.toNat * e.sz)) else none
      | _, _ => none
    | _, _, _ => none
  | .makeMap t none => match mapTy P t with | some _ => some (.mp s.H.length, .new (.map [])) | none => none
  | .lookup t m k ok => match mapTy P t, ev s.T m with
    | some (z, ks), .mp id => match s.H[id]? with
      | some (.map es) => match keq ks (ev s.T k) (ev s.T k), mfind ks (ev s.T k) es 0 with
        | some _, some r => some (if ok then .tup [mval z r, .bool r.isSome] else mval z r, .no)
        | _, _ => none
      | _ => none
    | _, _ => none
  | .mapUpdate t m k x => match mapTy P t, ev s.T m with
    | some (_, ks), .mp id => match s.H[id]? with
      | some (.map es) => match keq ks (ev s.T k) (ev s.T k), mfind ks (ev s.T k) es 0 with
        | some _, some r => some (.any, .set id (.map (mput es r (ev s.T k) (ev s.T x))))
        | _, _ => none
      | _ => none
    | _, _ => none
  | .mapEntry t m k => match mapTy P t, ev s.T m with
    | some (z, ks), .mp id => match s.H[id]? with
      | some (.map es) => match keq ks (ev s.T k) (ev s.T k), mfind ks (ev s.T k) es 0 with
        | some _, some r => some (.tup [mval z r, .ent id (mplace es r)], .set id (.map (mput es r (ev s.T k) (mval z r))))
        | _, _ => none
      | _ => none
    | _, _ => none
  | .entryStore t m k x => match ev s.T m, ev s.T k with
    | .mp id, .ent id' i => if id' = id then match s.H[id]? with
      | some (.map es) => match es[i]? with
        | some e => some (.any, .set id (.map (es.set i (e.1, ev s.T x))))
        | none => none
      | _ => none else none
    | _, _ => none
  | .entry x => match ev s.T x with
    | .it id => match s.H[id]? with
      | some (.iter (some mid) n seen) => match seen.getLast?, s.H[mid]? with
        | some i, some (.map es) => if es.length = n then (match es[i]? with | some (key, y) => some (.tup [key, y], .no) | none => none) else none
        | _, _ => none
      | _ => none
    | _ => none
  | .range t x => match mapTy P t with
    | some _ => match ev s.T x with
      | .mp id => match s.H[id]? with | some (.map es) => some (.it s.H.length, .new (.iter (some id) es.length [])) | _ => none
      | .nilm => some (.it s.H.length, .new (.iter none 0 []))
      | _ => none
    | _ => none
  | .extract t i => match ev s.T t with | .tup l => same l[i]? | _ => none
  | .call { callee := .builtin b, args, argTypes } => ebi P s b argTypes.toList (args.toList.map (ev s.T))
  | _ => none
end
/-- A value without the call's own memory in it. -/
def reify (H : List Blk) : Nat → AV → Option AV
  | 0, _ => none
  | n + 1, v => match v with
    | .op id o => match H[id]? with | some (.box _ cs) => ((cs.drop o).mapM (reify H n)).map .rp | _ => none
    | .ep id m i o => match H[id]? with | some (.row _ _ rows) => if rows.length = m then (rows[i]?).bind fun row => ((row.drop o).mapM (reify H n)).map .rp else none | _ => none
    | .os id m => match H[id]? with | some (.row _ _ rows) => if rows.length = m then (rows.mapM fun (row : List AV) => row.mapM (reify H n)).map .rs else none | _ => none
    | .ow id m lo hi => match H[id]? with | some (.row _ _ rows) => if rows.length = m then (((rows.take hi).drop lo).mapM fun (row : List AV) => row.mapM (reify H n)).map .rs else none | _ => none
    | .agg cs => (cs.mapM (reify H n)).map .agg
    | .fn f cs => (cs.mapM (reify H n)).map (.fn f)
    | .tup cs => (cs.mapM (reify H n)).map .tup
    | .mp _ => none
    | .ent .. => none
    | .it _ => none
    | .nils => some (.rs [])
    | .nilc => some (.rs [])
    | v => some v
mutual
/-- A value without memory. -/
def flat : AV → Bool
  | .int .. | .bool _ | .str _ | .nilp | .nils | .nilf | .nilm | .nilc | .nec => true
  | .rs rows => rows.isEmpty
  | .agg l => flatL l
  | .tup l => flatL l
  | _ => false
def flatL : List AV → Bool
  | [] => true
  | x :: r => flat x && flatL r
end
end Go.Proofs.YthiclaihlpkinaaGreat
namespace Go.Proofs.YthiclaihlpkinaaGreat
open Go.RowKit
variable [Glob]
/-- Memory outside of the blocks X reads as this. -/
inductive RO (w : World) (X : Nat → Prop) : AV → Value → Prop
  | any {v : Value} : RO w X .any v
  | und : RO w X .und undef
  | int {k : IntKind} {n : Int} : RO w X (.int k n) (.int k n)
  | bool {b : Bool} : RO w X (.bool b) (.bool b)
  | str {s : ByteArray} : RO w X (.str s) (.string s)
  | nilp : RO w X .nilp (.pointer none)
  | nils : RO w X .nils (.slice none 0 0)
  | nilc {A : Option Addr} : RO w X .nilc (.slice A 0 0)
  | nec {a : Addr} : RO w X .nec (.slice (some a) 0 0)
  | nilf : RO w X .nilf .nilFunc
  | nilm : RO w X .nilm (.map none)
  | yl {l : Nat} : RO w X (.yl l) (.func (.yield l) #[] #[])
  | rp {row : List AV} {a : Addr} (f : Nat → Value) (hb : a.block < w.heap.size) (hx : ¬ X a.block) (hc : ∀ (j : Nat) x, row[j]? = some x → w.cell? (a.add j) = some (f j) ∧ (f j).oneCell' = true) (h : ∀ (j : Nat) x, row[j]? = some x → RO w X x (f j)) : RO w X (.rp row) (.pointer (some a))
  | rs {rows : List (List AV)} {A : Option Addr} {n cap : Nat} (sz : Nat) (f : Nat → Nat → Value) (hn : rows.length = n) (hcap : n ≤ cap) (hA : ∀ (i : Nat) row, rows[i]? = some row → row.length = sz ∧ ∃ a, A = some a ∧ a.block < w.heap.size ∧ ¬ X a.block ∧ ∀ j, j < sz → w.cell? (a.add (i * sz + j)) = some (f i j) ∧ (f i j).oneCell' = true)
      (h : ∀ (i j : Nat) row x, rows[i]? = some row → row[j]? = some x → RO w X x (f i j)) : RO w X (.rs rows) (.slice A n cap)
  | agg {cs : List AV} {vs : Array Value} (hl : cs.length = vs.size) (h1 : ∀ v ∈ vs.toList, v.oneCell' = true) (h : ∀ (j : Nat) x v, cs[j]? = some x → vs[j]? = some v → RO w X x v) : RO w X (.agg cs) (.agg vs)
  | tup {cs : List AV} {vs : Array Value} (hl : cs.length = vs.size) (h : ∀ (j : Nat) x v, cs[j]? = some x → vs[j]? = some v → RO w X x v) : RO w X (.tup cs) (.tuple vs)
  | fn {g : Nat} {cs : List AV} {vs : Array Value} (hl : cs.length = vs.size) (h : ∀ (j : Nat) x v, cs[j]? = some x → vs[j]? = some v → RO w X x v) : RO w X (.fn g cs) (.func (.func g) #[] vs)
  | fb {g : Nat} {cs : List AV} {vs : Array Value} (hl : cs.length = vs.size) (h : ∀ (j : Nat) x v, cs[j]? = some x → vs[j]? = some v → RO w X x v) : RO w X (.fb g cs) (.func (.func g) vs #[])
theorem cell_of_heap {w w' : World} {a : Addr} (h : w'.heap[a.block]? = w.heap[a.block]?) : w'.cell? a = w.cell? a := by simp [World.cell?, h]
theorem add_block (a : Addr) (k : Nat) : (a.add k).block = a.block := by unfold Addr.add; split <;> rfl
theorem RO.mono {w w' : World} {X X' : Nat → Prop} (hs : w.heap.size ≤ w'.heap.size) (hx : ∀ b, ¬ X b → b < w.heap.size → w'.heap[b]? = w.heap[b]? ∧ ¬ X' b) {x : AV} {v : Value} (h : RO w X x v) : RO w' X' x v := by
  induction h with
  | any => exact .any
  | und => exact .und
  | int => exact .int
  | bool => exact .bool
  | str => exact .str
  | nilp => exact .nilp
  | nils => exact .nils
  | nilc => exact .nilc
  | nec => exact .nec
  | nilf => exact .nilf
  | nilm => exact .nilm
  | yl => exact .yl
  | @rp row a f hb hxa hc _ ih =>
    obtain ⟨h1, h2⟩ := hx _ hxa hb
    exact .rp f (by omega) h2 (fun j x hj => ⟨(cell_of_heap (a := a.add j) (by rw [add_block]; exact h1)).trans (hc j x hj).1, (hc j x hj).2⟩) ih
  | rs sz f hn hcap hA _ ih =>
    refine .rs sz f hn hcap (fun i row hi => ?_) ih
    obtain ⟨h0, a, rfl, hb, hxa, hc⟩ := hA i row hi
    obtain ⟨h1, h2⟩ := hx _ hxa hb
    exact ⟨h0, a, rfl, by omega, h2, fun j hj => ⟨(cell_of_heap (a := a.add (i * sz + j)) (by rw [add_block]; exact h1)).trans (hc j hj).1, (hc j hj).2⟩⟩
  | agg hl h1 _ ih => exact .agg hl h1 ih
  | tup hl _ ih => exact .tup hl ih
  | fn hl _ ih => exact .fn hl ih
  | fb hl _ ih => exact .fb hl ih
/-- Numbers, strings, and the like read the same everywhere. -/
theorem RO.of_flat {w w' : World} {X X' : Nat → Prop} {x : AV} {v : Value} (h : RO w X x v) (hf : flat x = true) : RO w' X' x v := by
  have flatL_get : ∀ (l : List AV), flatL l = true → ∀ (j : Nat) x, l[j]? = some x → flat x = true := by
    intro l; induction l with
    | nil => intro _ j x h; simp at h
    | cons y l ih =>
      intro h j x hj
      simp only [flatL, Bool.and_eq_true] at h
      cases j with
      | zero => simp at hj; rw [← hj]; exact h.1
      | succ j => simp at hj; exact ih h.2 j x hj
  induction h with
  | any => exact .any
  | und => simp [flat] at hf
  | int => exact .int
  | bool => exact .bool
  | str => exact .str
  | nilp => exact .nilp
  | nils => exact .nils
  | nilc => exact .nilc
  | nec => exact .nec
  | nilf => exact .nilf
  | nilm => exact .nilm
  | yl => exact .yl
  | rp => simp [flat] at hf
  | rs sz f hn hcap hA h _ =>
    simp [flat] at hf
    subst hf
    exact .rs sz f hn hcap (fun i row hi => by simp at hi) (fun i j row x hi _ => by simp at hi)
  | agg hl h1 _ ih => simp only [flat] at hf; exact .agg hl h1 fun j x v h1 h2 => ih j x v h1 h2 (flatL_get _ hf j x h1)
  | tup hl _ ih => simp only [flat] at hf; exact .tup hl fun j x v h1 h2 => ih j x v h1 h2 (flatL_get _ hf j x h1)
  | fn => simp [flat] at hf
  | fb => simp [flat] at hf
/-- The package variables read as they are known. -/
def VarsOk (w : World) (X : Nat → Prop) : Prop := (∀ g row, Glob.row g = some row → RO w X (.rp row) (.pointer (some ⟨g, 0, none⟩))) ∧ ∀ g cs, Glob.exact g = some cs → g < w.heap.size ∧ ¬ X g ∧ ∃ t f, w.heap[g]? = some (.cells cs t f)
theorem VarsOk.more {w : World} {X Z : Nat → Prop} (h : VarsOk w X) (hZ : ∀ b, b < w.heap.size → Z b → X b) : VarsOk w Z :=
  ⟨fun g row hg => (h.1 g row hg).mono (Nat.le_refl _) fun b hb hl => ⟨rfl, fun hz => hb (hZ b hl hz)⟩, fun g cs hg => ⟨(h.2 g cs hg).1, fun hz => (h.2 g cs hg).2.1 (hZ g (h.2 g cs hg).1 hz), (h.2 g cs hg).2.2⟩⟩
section
variable (P : Program)
/-- Abstract values and the model's, where the call has blocks of its own: number id is block φ id. -/
inductive RV (w : World) (X : Nat → Prop) (φ : Nat → Option Nat) (H : List Blk) : AV → Value → Prop
  | ro {x : AV} {v : Value} (h : RO w (fun b => X b ∨ ∃ id, φ id = some b) x v) : RV w X φ H x v
  | op {id o : Nat} {v : Value} (h0 : v.oneCell' = true) (hid : id < H.length) (h : ∀ t cs, H[id]? = some (.box t cs) → ∃ c, φ id = some c ∧ v = .pointer (some ⟨c, o, none⟩)) : RV w X φ H (.op id o) v
  | ep {id n i o : Nat} {v : Value} (h0 : v.oneCell' = true) (hid : id < H.length) (h : ∀ e nb rows, H[id]? = some (.row e nb rows) → n ≤ rows.length ∧ (n = rows.length → ∃ c, φ id = some c ∧ v = .pointer (some ⟨c, i * P.cellsOf e + o, none⟩))) : RV w X φ H (.ep id n i o) v
  | os {id n : Nat} {v : Value} (h0 : v.oneCell' = true) (hid : id < H.length) (h : ∀ e nb rows, H[id]? = some (.row e nb rows) → n ≤ rows.length ∧ (n = rows.length →
      (nb = true ∧ φ id = none ∧ (∃ A, v = .slice A 0 0) ∧ n = 0) ∨ ∃ c cap cur, φ id = some c ∧ v = .slice (some ⟨c, 0, none⟩) n cap ∧ w.heap[c]? = some (.cells cur e (0, 0)) ∧ cur.size = cap * P.cellsOf e ∧ cap ≤ maxLen ∧ n ≤ cap)) : RV w X φ H (.os id n) v
  | ow {id n lo hi : Nat} {v : Value} (h0 : v.oneCell' = true) (hid : id < H.length) (h : ∀ e nb rows, H[id]? = some (.row e nb rows) → n ≤ rows.length ∧ (n = rows.length →
      ∃ A c cap cur, φ id = some c ∧ v = .slice A (hi - lo) (cap - lo) ∧ (lo < cap → A = some ⟨c, lo * P.cellsOf e, none⟩) ∧ w.heap[c]? = some (.cells cur e (0, 0)) ∧ cur.size = cap * P.cellsOf e ∧ cap ≤ maxLen ∧ n ≤ cap ∧ lo ≤ hi ∧ hi ≤ n)) : RV w X φ H (.ow id n lo hi) v
  | mp {id : Nat} {v : Value} (h0 : v.oneCell' = true) (hid : id < H.length) (h : ∀ es, H[id]? = some (.map es) → ∃ c, φ id = some c ∧ v = .map (some c)) : RV w X φ H (.mp id) v
  | ent {id i : Nat} {v : Value} (h0 : v.oneCell' = true) (hid : id < H.length) (h : ∀ es, H[id]? = some (.map es) → ∃ c ents clock ent, φ id = some c ∧ w.heap[c]? = some (.map ents clock) ∧ (ents : Array MapEntry)[i]? = some ent ∧ v = .int .i64 (ent.born : Nat)) : RV w X φ H (.ent id i) v
  | it {id : Nat} {v : Value} (h0 : v.oneCell' = true) (hid : id < H.length) (h : ∀ m n s, H[id]? = some (.iter m n s) → ∃ c, φ id = some c ∧ v = .pointer (some ⟨c, 0, none⟩)) : RV w X φ H (.it id) v
  | agg {cs : List AV} {vs : Array Value} (hl : cs.length = vs.size) (h1 : ∀ v ∈ vs.toList, v.oneCell' = true) (h : ∀ (j : Nat) x v, cs[j]? = some x → vs[j]? = some v → RV w X φ H x v) : RV w X φ H (.agg cs) (.agg vs)
  | tup {cs : List AV} {vs : Array Value} (hl : cs.length = vs.size) (h : ∀ (j : Nat) x v, cs[j]? = some x → vs[j]? = some v → RV w X φ H x v) : RV w X φ H (.tup cs) (.tuple vs)
  | fn {g : Nat} {cs : List AV} {vs : Array Value} (hl : cs.length = vs.size) (h : ∀ (j : Nat) x v, cs[j]? = some x → vs[j]? = some v → RV w X φ H x v) : RV w X φ H (.fn g cs) (.func (.func g) #[] vs)
/-- A block of the call's own holds this. -/
def BlkOk (w : World) (X : Nat → Prop) (φ : Nat → Option Nat) (H : List Blk) (c : Nat) : Blk → Prop
  | .box t cs => ∃ cur, w.heap[c]? = some (.cells cur t (0, 0)) ∧ cur.size = cs.length ∧ ∀ (j : Nat) x v, cs[j]? = some x → cur[j]? = some v → RV P w X φ H x v ∧ v.oneCell' = true
  | .row e _ rows => ∃ cur, w.heap[c]? = some (.cells cur e (0, 0)) ∧ (∀ row ∈ rows, row.length = P.cellsOf e) ∧ rows.length * P.cellsOf e ≤ cur.size ∧
      ∀ (i j : Nat) row x v, rows[i]? = some row → row[j]? = some x → cur[i * P.cellsOf e + j]? = some v → RV P w X φ H x v ∧ v.oneCell' = true
  | .map es => ∃ (ents : Array MapEntry) (clock : Nat), w.heap[c]? = some (.map ents clock) ∧ ents.size = es.length ∧ (∀ e ∈ ents.toList, e.born < clock) ∧ (ents.toList.map (·.born)).Nodup ∧
      ∀ (i : Nat) k x ent, es[i]? = some (k, x) → ents[i]? = some ent → RV P w X φ H k ent.key ∧ RV P w X φ H x ent.val
  | .gone => True
  | .iter m n seen => match m with
    | none => ∃ since seenA stepped, w.heap[c]? = some (.mapIter none since seenA stepped)
    | some mid => ∃ d since seenA stepped, ∃ B : List Nat, w.heap[c]? = some (.mapIter (some d) since seenA stepped) ∧ B.length = n ∧ seenA.toList = seen.map (fun i => B.getD i 0) ∧ (∀ i ∈ seen, i < n) ∧ (∀ b ∈ B, b < since) ∧ (seen ≠ [] → ∀ b ∈ B, b < stepped) ∧
      mid < H.length ∧ ∀ es, H[mid]? = some (.map es) → φ mid = some d ∧ ∃ (ents : Array MapEntry) (clock : Nat), w.heap[d]? = some (.map ents clock) ∧ (∀ (i b : Nat), B[i]? = some b → ∃ ent, ents[i]? = some ent ∧ ent.born = b) ∧ (seen ≠ [] → ents.size = n → clock = stepped)
/-- A map's entries stay where they are; where there are no new ones, its clock stands. -/
def BornE (ents ents' : Array MapEntry) (clock clock' : Nat) : Prop := (∀ (i : Nat) ent, ents[i]? = some ent → ∃ ent', ents'[i]? = some ent' ∧ ent'.born = ent.born) ∧ ents.size ≤ ents'.size ∧ (ents'.size = ents.size → clock' = clock)
def BornK (w w' : World) (c : Nat) : Prop := ∀ (ents : Array MapEntry) clock, w.heap[c]? = some (.map ents clock) → ∃ (ents' : Array MapEntry) (clock' : Nat), w'.heap[c]? = some (.map ents' clock') ∧ BornE ents ents' clock clock'
omit [Glob] in
theorem bornK_same {w w' : World} {c : Nat} (h : w'.heap[c]? = w.heap[c]?) : BornK w w' c := fun ents clock h1 => ⟨ents, clock, by rw [h]; exact h1, fun i ent hi => ⟨ent, hi, rfl⟩, Nat.le_refl _, fun _ => rfl⟩
omit [Glob] in
theorem BornK.trans {w w' w'' : World} {c : Nat} (h : BornK w w' c) (k : BornK w' w'' c) : BornK w w'' c := fun ents clock h1 => by
  obtain ⟨e2, k2, h2, h3, s1, s2⟩ := h ents clock h1
  obtain ⟨e3, k3, h4, h5, s3, s4⟩ := k e2 k2 h2
  refine ⟨e3, k3, h4, fun i ent hi => ?_, Nat.le_trans s1 s3, fun e => by rw [s4 (by omega), s2 (by omega)]⟩
  obtain ⟨ent', q1, q2⟩ := h3 i ent hi
  obtain ⟨ent'', q3, q4⟩ := h5 i ent' q1
  exact ⟨ent'', q3, q4.trans q2⟩
structure HR (w0 : World) (X : Nat → Prop) (w : World) (φ : Nat → Option Nat) (H : List Blk) : Prop where
  vo : VarsOk w0 X
  fr : Below w0.heap.size w0 w
  ext : ∀ b, X b → b < w.heap.size ∧ ∀ id, φ id ≠ some b
  own : ∀ id c, φ id = some c → w0.heap.size ≤ c ∧ c < w.heap.size ∧ id < H.length
  inj : ∀ id id' c, φ id = some c → φ id' = some c → id = id'
  blk : ∀ id b c, H[id]? = some b → φ id = some c → BlkOk P w X φ H c b
/-- How the blocks may turn so that all that is held reads as before. -/
structure Turn (w : World) (φ : Nat → Option Nat) (H : List Blk) (w' : World) (φ' : Nat → Option Nat) (H' : List Blk) : Prop where
  size : w.heap.size ≤ w'.heap.size
  len : H.length ≤ H'.length
  old : ∀ b, (∀ id, φ id ≠ some b) → b < w.heap.size → w'.heap[b]? = w.heap[b]? ∧ ∀ id, φ' id ≠ some b
  box : ∀ id t cs', id < H.length → H'[id]? = some (.box t cs') → ∃ cs, H[id]? = some (.box t cs) ∧ ∀ c, φ id = some c → φ' id = some c
  row : ∀ id e nb rows', id < H.length → H'[id]? = some (.row e nb rows') → ∃ rows, H[id]? = some (.row e nb rows) ∧ rows.length ≤ rows'.length ∧
    (rows.length = rows'.length → (nb = true → φ id = none → φ' id = none) ∧ ∀ c, φ id = some c → φ' id = some c ∧ ∀ cur, w.heap[c]? = some (.cells cur e (0, 0)) → ∃ cur', w'.heap[c]? = some (.cells cur' e (0, 0)) ∧ cur'.size = cur.size)
  map : ∀ id es', id < H.length → H'[id]? = some (.map es') → ∃ es, H[id]? = some (.map es) ∧ ∀ c, φ id = some c → φ' id = some c ∧ BornK w w' c
  iter : ∀ id m n s', id < H.length → H'[id]? = some (.iter m n s') → ∃ m0 n0 s, H[id]? = some (.iter m0 n0 s) ∧ ∀ c, φ id = some c → φ' id = some c
variable {P}
theorem ext_turn {w0 w w' : World} {X : Nat → Prop} {φ φ' : Nat → Option Nat} {H H' : List Blk} (hr : HR P w0 X w φ H) (hT : Turn w φ H w' φ' H') : ∀ b, X b → b < w'.heap.size ∧ ∀ id, φ' id ≠ some b := fun b hb => ⟨Nat.lt_of_lt_of_le (hr.ext b hb).1 hT.size, (hT.old b (hr.ext b hb).2 (hr.ext b hb).1).2⟩
theorem HR.all {w0 w : World} {X : Nat → Prop} {φ : Nat → Option Nat} {H : List Blk} (hr : HR P w0 X w φ H) : VarsOk w (fun b => X b ∨ ∃ id, φ id = some b) :=
  ⟨fun g row hg => (hr.vo.1 g row hg).mono hr.fr.size fun b hb hl => ⟨hr.fr.block b hl, fun h => h.elim hb fun ⟨id, h⟩ => by have := (hr.own id b h).1; omega⟩,
   fun g cs hg => by
    obtain ⟨h1, h2, t, f, h3⟩ := hr.vo.2 g cs hg
    exact ⟨Nat.lt_of_lt_of_le h1 hr.fr.size, fun h => h.elim h2 fun ⟨id, h⟩ => by have := (hr.own id g h).1; omega, t, f, by rw [hr.fr.block g h1]; exact h3⟩⟩
theorem HR.now {w0 w : World} {X : Nat → Prop} {φ : Nat → Option Nat} {H : List Blk} (hr : HR P w0 X w φ H) : VarsOk w X := hr.all.more fun b _ h => .inl h
theorem HR.glob {w0 w : World} {X : Nat → Prop} {φ : Nat → Option Nat} {H : List Blk} (hr : HR P w0 X w φ H) {T : List (Nat × AV)} {a : Act} (g : Nat) : RV P w X φ H (ev T (.global g)) (a.eval (.global g)) := by
  simp only [ev]
  split
  · rename_i r h; exact .ro (hr.all.1 g r h)
  · exact .ro .any
theorem RV.turn {w w' : World} {X : Nat → Prop} {φ φ' : Nat → Option Nat} {H H' : List Blk} (hT : Turn w φ H w' φ' H') {x : AV} {v : Value} (h : RV P w X φ H x v) : RV P w' X φ' H' x v := by
  induction h with
  | ro h =>
    refine .ro (h.mono hT.size fun b hb hl => ?_)
    have hb1 : ∀ id, φ id ≠ some b := fun id e => hb (.inr ⟨id, e⟩)
    obtain ⟨h1, h2⟩ := hT.old b hb1 hl
    exact ⟨h1, fun h => h.elim (fun h => hb (.inl h)) fun ⟨id, e⟩ => h2 id e⟩
  | @op id o v h0 hid h =>
    refine .op h0 (Nat.lt_of_lt_of_le hid hT.len) fun t cs' h1 => ?_
    obtain ⟨cs, h2, h3⟩ := hT.box id t cs' hid h1
    obtain ⟨c, h4, h5⟩ := h t cs h2
    exact ⟨c, h3 c h4, h5⟩
  | @ep id n i o v h0 hid h =>
    refine .ep h0 (Nat.lt_of_lt_of_le hid hT.len) fun e nb rows' h1 => ?_
    obtain ⟨rows, h2, h3, h4⟩ := hT.row id e nb rows' hid h1
    obtain ⟨h5, h6⟩ := h e nb rows h2
    refine ⟨by omega, fun hn => ?_⟩
    have hn2 : n = rows.length := by omega
    obtain ⟨c, h7, h8⟩ := h6 hn2
    exact ⟨c, ((h4 (by omega)).2 c h7).1, h8⟩
  | @os id n v h0 hid h =>
    refine .os h0 (Nat.lt_of_lt_of_le hid hT.len) fun e nb rows' h1 => ?_
    obtain ⟨rows, h2, h3, h4⟩ := hT.row id e nb rows' hid h1
    obtain ⟨h5, h6⟩ := h e nb rows h2
    refine ⟨by omega, fun hn => ?_⟩
    have hn2 : n = rows.length := by omega
    rcases h6 hn2 with ⟨h7, h8, h9, h10⟩ | ⟨c, cap, cur, h7, h8, h9, h10, h11, h12⟩
    · exact .inl ⟨h7, (h4 (by omega)).1 h7 h8, h9, h10⟩
    · obtain ⟨h13, h14⟩ := (h4 (by omega)).2 c h7
      obtain ⟨cur', h15, h16⟩ := h14 cur h9
      exact .inr ⟨c, cap, cur', h13, h8, h15, by rw [h16]; exact h10, h11, h12⟩
  | @ow id n lo hi v h0 hid h =>
    refine .ow h0 (Nat.lt_of_lt_of_le hid hT.len) fun e nb rows' h1 => ?_
    obtain ⟨rows, h2, h3, h4⟩ := hT.row id e nb rows' hid h1
    obtain ⟨h5, h6⟩ := h e nb rows h2
    refine ⟨by omega, fun hn => ?_⟩
    have hn2 : n = rows.length := by omega
    obtain ⟨A, c, cap, cur, h7, h8, hA, h9, h10, h11⟩ := h6 hn2
    obtain ⟨h13, h14⟩ := (h4 (by omega)).2 c h7
    obtain ⟨cur', h15, h16⟩ := h14 cur h9
    exact ⟨A, c, cap, cur', h13, h8, hA, h15, by rw [h16]; exact h10, h11⟩
  | @mp id v h0 hid h =>
    refine .mp h0 (Nat.lt_of_lt_of_le hid hT.len) fun es' h1 => ?_
    obtain ⟨es, h2, h3⟩ := hT.map id es' hid h1
    obtain ⟨c, h4, h5⟩ := h es h2
    exact ⟨c, (h3 c h4).1, h5⟩
  | @ent id i v h0 hid h =>
    refine .ent h0 (Nat.lt_of_lt_of_le hid hT.len) fun es' h1 => ?_
    obtain ⟨es, h2, h3⟩ := hT.map id es' hid h1
    obtain ⟨c, ents, clock, ent, h4, h5, h6, h7⟩ := h es h2
    obtain ⟨h8, h9⟩ := h3 c h4
    obtain ⟨ents', clock', k1, k2, _⟩ := h9 ents clock h5
    obtain ⟨ent', k3, k4⟩ := k2 i ent h6
    exact ⟨c, ents', clock', ent', h8, k1, k3, by rw [k4]; exact h7⟩
  | @it id v h0 hid h =>
    refine .it h0 (Nat.lt_of_lt_of_le hid hT.len) fun m n s' h1 => ?_
    obtain ⟨m0, n0, s, h2, h3⟩ := hT.iter id m n s' hid h1
    obtain ⟨c, h4, h5⟩ := h m0 n0 s h2
    exact ⟨c, h3 c h4, h5⟩
  | agg hl h1 _ ih => exact .agg hl h1 ih
  | tup hl _ ih => exact .tup hl ih
  | fn hl _ ih => exact .fn hl ih
end
end Go.Proofs.YthiclaihlpkinaaGreat
namespace Go.Proofs.YthiclaihlpkinaaGreat
open Go.RowKit
variable [Glob]
theorem descTy_sz (d : TypeDesc) (n : Nat) (z : List AV) (pl : List (Nat × Nat)) (es : Nat) : (descTy d n z pl es).sz = n := by unfold descTy; split <;> rfl
theorem descTy_zero (d : TypeDesc) (n : Nat) (z : List AV) (pl : List (Nat × Nat)) (es : Nat) : (descTy d n z pl es).zero = z := by unfold descTy; split <;> rfl
section
variable {P : Program}
/-- What is known of a type. -/
structure TyIs (P : Program) (t : TypeId) (i : Ty) : Prop where
  ex : ∃ inf z d pl es, P.info? t = some inf ∧ P.underlying t = some d ∧ inf.zero = some z ∧ z.cells.size = inf.size ∧ 0 < inf.size ∧ z.cells.all (·.oneCell') = true ∧ inf.bytes ≤ 4096 ∧ inner P d = some (pl, es) ∧ i = descTy d inf.size (z.cells.toList.map ofCell) pl es
theorem ty_is {t : TypeId} {i : Ty} (h : ty P t = some i) : TyIs P t i := by
  unfold ty at h
  split at h
  · rename_i inf d h1 h2
    split at h
    · rename_i z pl es h3 h4
      split at h
      · rename_i hc
        simp at h
        exact ⟨inf, z, d, pl, es, h1, h2, h3, hc.1, hc.2.1, hc.2.2.1, hc.2.2.2, h4, h.symm⟩
      · simp at h
    · simp at h
  · simp at h
theorem ty_cells {t : TypeId} {i : Ty} (h : ty P t = some i) : P.cellsOf t = i.sz := by
  obtain ⟨inf, z, d, pl, es, h1, h2, h3, h4, h5, h6, h7, h8, rfl⟩ := (ty_is h).ex
  simp [Program.cellsOf, h1, descTy_sz]
theorem ty_pos {t : TypeId} {i : Ty} (h : ty P t = some i) : 0 < i.sz := by
  obtain ⟨inf, z, d, pl, es, h1, h2, h3, h4, h5, h6, h7, h8, rfl⟩ := (ty_is h).ex
  simpa [descTy_sz] using h5
theorem ty_zlen {t : TypeId} {i : Ty} (h : ty P t = some i) : i.zero.length = i.sz := by
  obtain ⟨inf, z, d, pl, es, h1, h2, h3, h4, h5, h6, h7, h8, rfl⟩ := (ty_is h).ex
  simp [descTy_sz, descTy_zero, h4]
theorem run_sizeOf_ty {t : TypeId} {i : Ty} (h : ty P t = some i) (w : World) : (sizeOf t).run P w = .ok i.sz w := by
  obtain ⟨inf, z, d, pl, es, h1, h2, h3, h4, h5, h6, h7, h8, rfl⟩ := (ty_is h).ex
  simp [sizeOf, typeInfo, h1, descTy_sz]
theorem run_isAgg_ty {t : TypeId} {i : Ty} (h : ty P t = some i) (w : World) : (isAgg t).run P w = .ok i.ag w := by
  obtain ⟨inf, z, d, pl, es, h1, h2, h3, h4, h5, h6, h7, h8, rfl⟩ := (ty_is h).ex
  simp only [isAgg, Sem.run_bind, run_underlying h2, Result.andThen_ok]
  cases d <;> rfl
theorem ty_sl {t : TypeId} {i : Ty} (h : ty P t = some i) (hs : i.sl = true) : P.underlying t = some (.slice i.elem) := by
  obtain ⟨inf, z, d, pl, es, h1, h2, h3, h4, h5, h6, h7, h8, rfl⟩ := (ty_is h).ex
  cases d <;> simp [descTy] at hs ⊢
  exact h2
theorem ty_str {t : TypeId} {i : Ty} (h : ty P t = some i) (hs : i.str = true) : P.underlying t = some .string := by
  obtain ⟨inf, z, d, pl, es, h1, h2, h3, h4, h5, h6, h7, h8, rfl⟩ := (ty_is h).ex
  cases d <;> simp [descTy] at hs ⊢
  exact h2
theorem ty_int {t : TypeId} {i : Ty} {k : IntKind} (h : ty P t = some i) (hs : i.int = some k) : P.underlying t = some (.int k) := by
  obtain ⟨inf, z, d, pl, es, h1, h2, h3, h4, h5, h6, h7, h8, rfl⟩ := (ty_is h).ex
  cases d <;> simp [descTy] at hs ⊢
  subst hs; exact h2
theorem ty_arr {t : TypeId} {i : Ty} {n : Nat} (h : ty P t = some i) (hs : i.arr = some n) : P.underlying t = some (.array n i.elem) := by
  obtain ⟨inf, z, d, pl, es, h1, h2, h3, h4, h5, h6, h7, h8, rfl⟩ := (ty_is h).ex
  cases d <;> simp [descTy] at hs ⊢
  subst hs; exact h2
theorem ty_fld {t : TypeId} {i : Ty} {k off ft : Nat} (h : ty P t = some i) (hs : i.flds[k]? = some (off, ft)) :
    ∃ fs f, P.underlying t = some (.struct fs) ∧ fs[k]? = some f ∧ f.offset = off ∧ f.type = ft := by
  obtain ⟨inf, z, d, pl, es, h1, h2, h3, h4, h5, h6, h7, h8, rfl⟩ := (ty_is h).ex
  cases d <;> simp [descTy] at hs
  rename_i fs
  obtain ⟨f, h9, h10, h11⟩ := hs
  exact ⟨fs, f, h2, by simpa using h9, h10, h11⟩
section
variable {w : World} {X : Nat → Prop} {φ : Nat → Option Nat} {H : List Blk} {v : Value}
theorem RV.und_inv (h : RV P w X φ H .und v) : v = undef := by cases h with | ro h => cases h; rfl
theorem RV.int_inv {k : IntKind} {n : Int} (h : RV P w X φ H (.int k n) v) : v = .int k n := by cases h with | ro h => cases h; rfl
theorem RV.bool_inv {b : Bool} (h : RV P w X φ H (.bool b) v) : v = .bool b := by cases h with | ro h => cases h; rfl
theorem RV.str_inv {s : ByteArray} (h : RV P w X φ H (.str s) v) : v = .string s := by cases h with | ro h => cases h; rfl
theorem RV.nils_inv (h : RV P w X φ H .nils v) : v = .slice none 0 0 := by cases h with | ro h => cases h; rfl
theorem RV.nec_inv (h : RV P w X φ H .nec v) : ∃ a, v = .slice (some a) 0 0 := by cases h with | ro h => cases h; exact ⟨_, rfl⟩
theorem RV.nilc_inv (h : RV P w X φ H .nilc v) : ∃ A, v = .slice A 0 0 := by cases h with | ro h => cases h; exact ⟨_, rfl⟩
theorem RV.agg_inv {cs : List AV} (h : RV P w X φ H (.agg cs) v) : ∃ vs : Array Value, v = .agg vs ∧ cs.length = vs.size ∧ (∀ u ∈ vs.toList, u.oneCell' = true) ∧ ∀ (j : Nat) x u, cs[j]? = some x → vs[j]? = some u → RV P w X φ H x u := by
  cases h with
  | ro h => cases h with | agg hl h1 h => exact ⟨_, rfl, hl, h1, fun j x u h2 h3 => .ro (h j x u h2 h3)⟩
  | agg hl h1 h => exact ⟨_, rfl, hl, h1, h⟩
theorem RV.tup_inv {cs : List AV} (h : RV P w X φ H (.tup cs) v) : ∃ vs : Array Value, v = .tuple vs ∧ cs.length = vs.size ∧ ∀ (j : Nat) x u, cs[j]? = some x → vs[j]? = some u → RV P w X φ H x u := by
  cases h with
  | ro h => cases h with | tup hl h => exact ⟨_, rfl, hl, fun j x u h2 h3 => .ro (h j x u h2 h3)⟩
  | tup hl h => exact ⟨_, rfl, hl, h⟩
theorem RV.fn_inv {g : Nat} {cs : List AV} (h : RV P w X φ H (.fn g cs) v) : ∃ vs : Array Value, v = .func (.func g) #[] vs ∧ cs.length = vs.size ∧ ∀ (j : Nat) x u, cs[j]? = some x → vs[j]? = some u → RV P w X φ H x u := by
  cases h with
  | ro h => cases h with | fn hl h => exact ⟨_, rfl, hl, fun j x u h2 h3 => .ro (h j x u h2 h3)⟩
  | fn hl h => exact ⟨_, rfl, hl, h⟩
theorem RV.fb_inv {g : Nat} {cs : List AV} (h : RV P w X φ H (.fb g cs) v) : ∃ vs : Array Value, v = .func (.func g) vs #[] ∧ cs.length = vs.size ∧ ∀ (j : Nat) x u, cs[j]? = some x → vs[j]? = some u → RV P w X φ H x u := by
  cases h with
  | ro h => cases h with | fb hl h => exact ⟨_, rfl, hl, fun j x u h2 h3 => .ro (h j x u h2 h3)⟩
theorem ownsL_get {l : List AV} (h : ownsL l = false) : ∀ (j : Nat) x, l[j]? = some x → owns x = false := by
  induction l with
  | nil => intro j x h; simp at h
  | cons y l ih =>
    intro j x hj
    simp only [ownsL, Bool.or_eq_false_iff] at h
    cases j with
    | zero => simp at hj; rw [← hj]; exact h.1
    | succ j => exact ih h.2 j x (by simpa using hj)
theorem RV.ro_of {x : AV} {v : Value} (h : RV P w X φ H x v) (ho : owns x = false) : RO w (fun b => X b ∨ ∃ id, φ id = some b) x v := by
  induction h with
  | ro h => exact h
  | op => simp [owns] at ho
  | ep => simp [owns] at ho
  | os => simp [owns] at ho
  | ow => simp [owns] at ho
  | mp => simp [owns] at ho
  | ent => simp [owns] at ho
  | it => simp [owns] at ho
  | agg hl h1 _ ih => simp only [owns] at ho; exact .agg hl h1 fun j x v h2 h3 => ih j x v h2 h3 (ownsL_get ho j x h2)
  | tup hl _ ih => simp only [owns] at ho; exact .tup hl fun j x v h2 h3 => ih j x v h2 h3 (ownsL_get ho j x h2)
  | fn hl _ ih => simp only [owns] at ho; exact .fn hl fun j x v h2 h3 => ih j x v h2 h3 (ownsL_get ho j x h2)
/-- The cells of a value. -/
theorem RV.cells {x : AV} {cs : List AV} (h : RV P w X φ H x v) (hc : cellsOf x = some cs) :
    v.cells.size = cs.length ∧ (∀ u ∈ v.cells.toList, u.oneCell' = true) ∧ ∀ (j : Nat) y u, cs[j]? = some y → v.cells[j]? = some u → RV P w X φ H y u := by
  have one : ∀ {x : AV}, v.oneCell' = true → RV P w X φ H x v → cs = [x] → v.cells.size = cs.length ∧ (∀ u ∈ v.cells.toList, u.oneCell' = true) ∧ ∀ (j : Nat) y u, cs[j]? = some y → v.cells[j]? = some u → RV P w X φ H y u := by
    intro x ho h e
    have hv : v.cells = #[v] := by cases v <;> first | rfl | simp [Value.oneCell'] at ho
    rw [e, hv]
    refine ⟨rfl, by simpa using ho, fun j y u h1 h2 => ?_⟩
    cases j with
    | zero => simp at h1 h2; rw [← h1, ← h2]; exact h
    | succ j => simp at h1
  cases x with
  | agg l =>
    simp [cellsOf] at hc
    subst hc
    obtain ⟨vs, rfl, h1, h2, h3⟩ := h.agg_inv
    exact ⟨h1.symm, h2, h3⟩
  | any => simp [cellsOf] at hc
  | und => simp [cellsOf] at hc
  | tup => simp [cellsOf] at hc
  | int => simp [cellsOf] at hc; exact one (by rw [h.int_inv]; rfl) h hc.symm
  | bool => simp [cellsOf] at hc; exact one (by rw [h.bool_inv]; rfl) h hc.symm
  | str => simp [cellsOf] at hc; exact one (by rw [h.str_inv]; rfl) h hc.symm
  | fn => simp [cellsOf] at hc; exact one (by obtain ⟨_, rfl, _⟩ := h.fn_inv; rfl) h hc.symm
  | nilp => simp [cellsOf] at hc; exact one (by cases h with | ro h => cases h; rfl) h hc.symm
  | nils => simp [cellsOf] at hc; exact one (by cases h with | ro h => cases h; rfl) h hc.symm
  | nec => simp [cellsOf] at hc; exact one (by cases h with | ro h => cases h; rfl) h hc.symm
  | nilc => simp [cellsOf] at hc; exact one (by cases h with | ro h => cases h; rfl) h hc.symm
  | nilf => simp [cellsOf] at hc; exact one (by cases h with | ro h => cases h; rfl) h hc.symm
  | nilm => simp [cellsOf] at hc; exact one (by cases h with | ro h => cases h; rfl) h hc.symm
  | fb => simp [cellsOf] at hc; exact one (by cases h with | ro h => cases h; rfl) h hc.symm
  | yl => simp [cellsOf] at hc; exact one (by cases h with | ro h => cases h; rfl) h hc.symm
  | rp => simp [cellsOf] at hc; exact one (by cases h with | ro h => cases h; rfl) h hc.symm
  | rs => simp [cellsOf] at hc; exact one (by cases h with | ro h => cases h; rfl) h hc.symm
  | op => simp [cellsOf] at hc; exact one (by cases h with | ro h => cases h | op h0 => exact h0) h hc.symm
  | ep => simp [cellsOf] at hc; exact one (by cases h with | ro h => cases h | ep h0 => exact h0) h hc.symm
  | os => simp [cellsOf] at hc; exact one (by cases h with | ro h => cases h | os h0 => exact h0) h hc.symm
  | ow => simp [cellsOf] at hc; exact one (by cases h with | ro h => cases h | ow h0 => exact h0) h hc.symm
  | mp => simp [cellsOf] at hc; exact one (by cases h with | ro h => cases h | mp h0 => exact h0) h hc.symm
  | ent => simp [cellsOf] at hc; exact one (by cases h with | ro h => cases h | ent h0 => exact h0) h hc.symm
  | it => simp [cellsOf] at hc; exact one (by cases h with | ro h => cases h | it h0 => exact h0) h hc.symm
/-- Where a value points to. -/
def PtsTo (P : Program) (w : World) (X : Nat → Prop) (φ : Nat → Option Nat) (H : List Blk) (a : Addr) (cs : List AV) : Prop :=
  ∀ (j : Nat) x, cs[j]? = some x → ∃ u, w.cell? (a.add j) = some u ∧ u.oneCell' = true ∧ RV P w X φ H x u
theorem add_noneA (b off k : Nat) : (Addr.mk b off none).add k = ⟨b, off + k, none⟩ := by
  unfold Addr.add
  split
  · subst_vars; rfl
  · rfl
theorem cell_row {w : World} {g j : Nat} {cs : Array Value} {t : TypeId} {fr : Nat × Nat} (hg : w.heap[g]? = some (.cells cs t fr)) : w.cell? ⟨g, j, none⟩ = cs[j]? := cell_of_row w g j cs t fr hg
theorem mul_lt {i n j s : Nat} (hi : i < n) (hj : j < s) : i * s + j < n * s := by
  have : (i + 1) * s ≤ n * s := Nat.mul_le_mul_right s hi
  rw [Nat.add_mul] at this; omega
theorem rd_sound {w0 w : World} {X : Nat → Prop} {φ : Nat → Option Nat} {H : List Blk} (hr : HR P w0 X w φ H) {p : AV} {cs : List AV} {v : Value} (h : rd H p = some cs) (hv : RV P w X φ H p v) :
    ∃ a, v = .pointer (some a) ∧ (0 < cs.length → PtsTo P w X φ H a cs) := by
  cases p with
  | rp row =>
    simp [rd] at h
    subst h
    cases hv with
    | ro h =>
      cases h with
      | rp f hb hx hc h => exact ⟨_, rfl, fun _ j x hj => ⟨f j, (hc j x hj).1, (hc j x hj).2, .ro (h j x hj)⟩⟩
  | op id o =>
    simp only [rd] at h
    split at h
    · rename_i t bcs hb
      simp at h
      subst h
      cases hv with
      | ro h => cases h
      | op h0 hid h =>
        obtain ⟨c, hc, rfl⟩ := h t bcs hb
        refine ⟨_, rfl, fun _ j x hj => ?_⟩
        obtain ⟨cur, h1, h2, h3⟩ := hr.blk id _ c hb hc
        rw [List.getElem?_drop] at hj
        have hlt : o + j < cur.size := by rw [h2]; exact (List.getElem?_eq_some_iff.1 hj).1
        obtain ⟨h4, h5⟩ := h3 (o + j) x cur[o + j] hj (by simp [hlt])
        exact ⟨cur[o + j], by rw [add_noneA, cell_row h1]; simp [hlt], h5, h4⟩
    · simp at h
  | ep id n i o =>
    simp only [rd] at h
    split at h
    · rename_i e nb rows hb
      split at h
      · rename_i hn
        split at h
        · rename_i row hrow
          simp at h
          subst h
          cases hv with
          | ro h => cases h
          | ep h0 hid h =>
            obtain ⟨c, hc, rfl⟩ := (h e nb rows hb).2 hn.symm
            refine ⟨_, rfl, fun _ j x hj => ?_⟩
            obtain ⟨cur, h1, h2, h3, h4⟩ := hr.blk id _ c hb hc
            rw [List.getElem?_drop] at hj
            have hl : row.length = P.cellsOf e := h2 row (List.mem_of_getElem? hrow)
            have hi : i < rows.length := (List.getElem?_eq_some_iff.1 hrow).1
            have hj' : o + j < P.cellsOf e := by rw [← hl]; exact (List.getElem?_eq_some_iff.1 hj).1
            have hlt : i * P.cellsOf e + (o + j) < cur.size := Nat.lt_of_lt_of_le (mul_lt hi hj') h3
            obtain ⟨h5, h6⟩ := h4 i (o + j) row x cur[i * P.cellsOf e + (o + j)] hrow hj (by simp [hlt])
            exact ⟨cur[i * P.cellsOf e + (o + j)], by rw [add_noneA, cell_row h1]; simp [hlt, Nat.add_assoc], h6, h5⟩
        · simp at h
      · simp at h
    · simp at h
  | _ => simp [rd] at h
theorem load_sound {w : World} {X : Nat → Prop} {φ : Nat → Option Nat} {H : List Blk} {a : Addr} {cs : List AV} {t : TypeId} {i : Ty} {v : AV} (ht : ty P t = some i) (hp : 0 < cs.length → PtsTo P w X φ H a cs) (h : part i cs 0 = some v) :
    ∃ u, (loadVar t a).run P w = .ok u w ∧ RV P w X φ H v u := by
  unfold part at h
  split at h
  · rename_i hl
    have hpos := ty_pos ht
    have hp := hp (by omega)
    have hex : ∀ j, j < cs.length → ∃ u, w.cell? (a.add j) = some u ∧ u.oneCell' = true ∧ RV P w X φ H (cs.getD j .any) u := fun j hj => by
      have := hp j cs[j] (by simp [hj])
      simpa [List.getD, hj] using this
    simp only [loadVar, Sem.run_bind, run_isAgg_ty ht, Result.andThen_ok]
    split at h
    · rename_i hag
      simp at h
      subst h
      let f : Nat → Value := fun j => if hj : j < cs.length then Classical.choose (hex j hj) else undef
      have hf : ∀ j, j < cs.length → w.cell? (a.add j) = some (f j) ∧ (f j).oneCell' = true ∧ RV P w X φ H (cs.getD j .any) (f j) := fun j hj => by
        simp only [f, hj, dif_pos]; exact Classical.choose_spec (hex j hj)
      have hrun := run_loadCells (P := P) w a i.sz f (fun j hj => (hf j (by omega)).1)
      refine ⟨.agg ((List.range i.sz).map f).toArray, ?_, .agg ?_ ?_ ?_⟩
      · rw [hag]; simp [run_sizeOf_ty ht, hrun]
      · simp; omega
      · intro u hu
        simp at hu
        obtain ⟨j, hj, rfl⟩ := hu
        exact (hf j (by omega)).2.1
      · intro j x u hj hu
        have hjs : j < i.sz := by
          have := (List.getElem?_eq_some_iff.1 hj).1
          simp at this; omega
        simp [hjs] at hj hu
        subst hu
        have := (hf j (by omega)).2.2
        rw [List.getD, hj] at this
        exact this
    · rename_i hag
      have hag : i.ag = false := by simpa using hag
      obtain ⟨u, h1, h2, h3⟩ := hex 0 (by omega)
      have ha : a.add 0 = a := by simp [Addr.add]
      rw [ha] at h1
      refine ⟨u, by rw [hag]; simp [h1], ?_⟩
      cases cs with
      | nil => simp at h
      | cons y r => simp at h; subst h; simpa using h3
  · simp at h
end
end
end Go.Proofs.YthiclaihlpkinaaGreat
namespace Go.Proofs.YthiclaihlpkinaaGreat
open Go.RowKit
variable [Glob]
section
variable {P : Program}
def updG (G : List Blk) : Upd → List Blk
  | .set id b => G.set id b
  | _ => G
/-- An operation yields a value that reads as v, and turns the blocks as u says; nid: the number for a new block. -/
def Eff (P : Program) (w0 : World) (X : Nat → Prop) (φ : Nat → Option Nat) (G : List Blk) (w : World) (u : Upd) (nid : Nat) (v : AV) (r : Result Next) : Prop :=
  ∃ x w' φ', (r = .ok (.value x) w' ∨ (r = .ok .skip w' ∧ x = undef)) ∧ HR P w0 X w' φ' (updG G u) ∧ Turn w φ G w' φ' (updG G u) ∧ RV P w' X φ' (updG G u) v x ∧
    ∀ id, φ id = none → (∀ b, u = .new b → id ≠ nid) → (∀ e rows, G[id]? ≠ some (.row e true rows)) → φ' id = none ∧ (updG G u)[id]? = G[id]?
theorem Turn.refl (w : World) (φ : Nat → Option Nat) (G : List Blk) : Turn w φ G w φ G where
  size := Nat.le_refl _
  len := Nat.le_refl _
  old := fun b h _ => ⟨rfl, h⟩
  box := fun _ _ cs _ h => ⟨cs, h, fun _ h => h⟩
  row := fun _ _ _ rows _ h => ⟨rows, h, Nat.le_refl _, fun _ => ⟨fun _ h => h, fun c hc => ⟨hc, fun cur h => ⟨cur, h, rfl⟩⟩⟩⟩
  map := fun _ es _ h => ⟨es, h, fun _ h => ⟨h, bornK_same rfl⟩⟩
  iter := fun _ m n s _ h => ⟨m, n, s, h, fun _ h => h⟩
theorem eff_pure {w0 w : World} {X : Nat → Prop} {φ : Nat → Option Nat} {G : List Blk} {nid : Nat} {v : AV} {x : Value} {r : Result Next} (hr : HR P w0 X w φ G) (hx : r = .ok (.value x) w) (hv : RV P w X φ G v x) : Eff P w0 X φ G w .no nid v r :=
  ⟨x, w, φ, .inl hx, hr, Turn.refl _ _ _, hv, fun _ h _ _ => ⟨h, rfl⟩⟩
theorem BlkOk.turn {w w' : World} {X : Nat → Prop} {φ φ' : Nat → Option Nat} {H H' : List Blk} {c : Nat} {b : Blk} (hT : Turn w φ H w' φ' H') (he : w'.heap[c]? = w.heap[c]?) (h : BlkOk P w X φ H c b) : BlkOk P w' X φ' H' c b := by
  cases b with
  | box t cs =>
    obtain ⟨cur, h1, h2, h3⟩ := h
    exact ⟨cur, by rw [he]; exact h1, h2, fun j x v hx hv => ⟨(h3 j x v hx hv).1.turn hT, (h3 j x v hx hv).2⟩⟩
  | row e nb rows =>
    obtain ⟨cur, h1, h2, h3, h4⟩ := h
    exact ⟨cur, by rw [he]; exact h1, h2, h3, fun i j row x v hr hx hv => ⟨(h4 i j row x v hr hx hv).1.turn hT, (h4 i j row x v hr hx hv).2⟩⟩
  | map es =>
    obtain ⟨ents, clock, h1, h2, h3, h4, h5⟩ := h
    exact ⟨ents, clock, by rw [he]; exact h1, h2, h3, h4, fun i k x ent h6 h7 => ⟨(h5 i k x ent h6 h7).1.turn hT, (h5 i k x ent h6 h7).2.turn hT⟩⟩
  | gone => trivial
  | iter m n seen =>
    cases m with
    | none => obtain ⟨since, seenA, stepped, h1⟩ := h; exact ⟨since, seenA, stepped, by rw [he]; exact h1⟩
    | some mid =>
      obtain ⟨d, since, seenA, stepped, B, h1, h2, h3, h4, h5, h6, h7, h8⟩ := h
      refine ⟨d, since, seenA, stepped, B, by rw [he]; exact h1, h2, h3, h4, h5, h6, Nat.lt_of_lt_of_le h7 hT.len, fun es' hes' => ?_⟩
      obtain ⟨es, k1, k2⟩ := hT.map mid es' h7 hes'
      obtain ⟨k3, ents, clock, k4, k5, k10⟩ := h8 es k1
      obtain ⟨k6, k7⟩ := k2 d k3
      obtain ⟨ents', clock', k8, k9, s1, s2⟩ := k7 ents clock k4
      refine ⟨k6, ents', clock', k8, fun i b hb => ?_, fun hs hn => ?_⟩
      rotate_left
      · have hB : B.length ≤ ents.size := by
          rcases Nat.eq_zero_or_pos B.length with h0 | h0
          · omega
          · obtain ⟨ent, q1, _⟩ := k5 (B.length - 1) B[B.length - 1] (by simp [show B.length - 1 < B.length by omega])
            have := (Array.getElem?_eq_some_iff.1 q1).1
            omega
        rw [s2 (by omega)]
        exact k10 hs (by omega)
      obtain ⟨ent, q1, q2⟩ := k5 i b hb
      obtain ⟨ent', q3, q4⟩ := k9 i ent q1
      exact ⟨ent', q3, q4.trans q2⟩
def setφ (φ : Nat → Option Nat) (id c : Nat) : Nat → Option Nat := fun i => if i = id then some c else φ i
theorem heap_alloc (w : World) (o : Obj) (k : Nat) (h : k < w.heap.size) : (w.alloc o).heap[k]? = w.heap[k]? := Below.heap_alloc w o k h
theorem turn_alloc {w0 w : World} {X : Nat → Prop} {φ : Nat → Option Nat} {G : List Blk} (hr : HR P w0 X w φ G) {id : Nat} {b : Blk} (hb : G[id]? = some b) (hφ : φ id = none) (hnb : ∀ e rows, b ≠ .row e true rows) (o : Obj) :
    Turn w φ G (w.alloc o) (setφ φ id w.heap.size) G where
  size := by simp
  len := Nat.le_refl _
  old := fun b h hl => ⟨heap_alloc w o b hl, fun i e => by
    unfold setφ at e
    split at e
    · simp at e; omega
    · exact h i e⟩
  box := fun i t cs _ h => ⟨cs, h, fun c hc => by
    unfold setφ; split
    · rename_i e; rw [e, hφ] at hc; simp at hc
    · exact hc⟩
  row := fun i e nb rows _ h => ⟨rows, h, Nat.le_refl _, fun _ => ⟨fun hn hi => by
    unfold setφ; split
    · rename_i e'; subst e'; rw [hb] at h; simp at h; subst hn; exact absurd h (hnb _ _)
    · exact hi, fun c hc => ⟨by
      unfold setφ; split
      · rename_i e'; rw [e', hφ] at hc; simp at hc
      · exact hc, fun cur hcur => ⟨cur, by rw [heap_alloc w o c (hr.own i c hc).2.1]; exact hcur, rfl⟩⟩⟩⟩
  map := fun i es _ h => ⟨es, h, fun c hc => ⟨by
    unfold setφ; split
    · rename_i e; rw [e, hφ] at hc; simp at hc
    · exact hc, bornK_same (heap_alloc w o c (hr.own i c hc).2.1)⟩⟩
  iter := fun i m n s _ h => ⟨m, n, s, h, fun c hc => by
    unfold setφ; split
    · rename_i e; rw [e, hφ] at hc; simp at hc
    · exact hc⟩
theorem hr_alloc {w0 w : World} {X : Nat → Prop} {φ : Nat → Option Nat} {G : List Blk} (hr : HR P w0 X w φ G) {id : Nat} {b : Blk} (hb : G[id]? = some b) (hφ : φ id = none) (hnb : ∀ e rows, b ≠ .row e true rows) (o : Obj)
    (hok : BlkOk P (w.alloc o) X (setφ φ id w.heap.size) G w.heap.size b) : HR P w0 X (w.alloc o) (setφ φ id w.heap.size) G := by
  have hT := turn_alloc hr hb hφ hnb o
  refine ⟨hr.vo, hr.fr.alloc hr.fr.size _, ext_turn hr hT, fun i c hc => ?_, fun i j c hi hj => ?_, fun i b' c hi hc => ?_⟩
  · unfold setφ at hc
    split at hc
    · rename_i e
      simp at hc
      subst hc e
      have := hr.fr.size
      exact ⟨this, by simp, (List.getElem?_eq_some_iff.1 hb).1⟩
    · have := hr.own i c hc
      simp; omega
  · unfold setφ at hi hj
    split at hi <;> split at hj
    · subst_vars; rfl
    · rename_i e1 e2; simp at hi; subst hi; have := (hr.own j _ hj).2.1; omega
    · rename_i e1 e2; simp at hj; subst hj; have := (hr.own i _ hi).2.1; omega
    · exact hr.inj i j c hi hj
  · by_cases e : i = id
    · subst e
      rw [hb] at hi
      simp at hi
      subst hi
      simp [setφ] at hc
      subst hc
      exact hok
    · simp [setφ, e] at hc
      exact (hr.blk i b' c hi hc).turn hT (heap_alloc w o c (hr.own i c hc).2.1)
/-- A store into a block of the call's own. -/
structure Shape (b b' : Blk) : Prop where
  box : ∀ t cs', b' = .box t cs' → ∃ cs, b = .box t cs
  row : ∀ e nb rows', b' = .row e nb rows' → ∃ rows, b = .row e nb rows ∧ rows.length = rows'.length
  map : ∀ es', b' = .map es' → ∃ es, b = .map es
theorem heap_setRow (w : World) (g : Nat) (cs : Array Value) (k : Nat) (h : k ≠ g) : (w.setRow g cs).heap[k]? = w.heap[k]? := by
  simp only [World.setRow, Array.getElem?_modify]
  rw [if_neg (fun e => h e.symm)]
theorem turn_setRow {w0 w : World} {X : Nat → Prop} {φ : Nat → Option Nat} {G : List Blk} (hr : HR P w0 X w φ G) {id c : Nat} {b b' : Blk} (hb : G[id]? = some b) (hφ : φ id = some c) (hs : Shape b b') {cur cur' : Array Value} {t : TypeId}
    (hc : w.heap[c]? = some (.cells cur t (0, 0))) (hsz : cur'.size = cur.size) (hit : ∀ m n s, b' ≠ .iter m n s := by intro _ _ _ h; cases h) : Turn w φ G (w.setRow c cur') φ (G.set id b') where
  size := by simp
  len := by simp
  old := fun k h hl => ⟨heap_setRow w c cur' k (fun e => h id (by rw [e]; exact hφ)), h⟩
  box := fun i t cs' _ h => by
    by_cases e : id = i
    · subst e
      rw [List.getElem?_set] at h
      simp at h
      obtain ⟨cs, h1⟩ := hs.box t cs' h.2
      exact ⟨cs, by rw [hb, h1], fun _ h => h⟩
    · rw [List.getElem?_set_ne e] at h
      exact ⟨cs', h, fun _ h => h⟩
  row := fun i e' nb rows' _ h => by
    have hcur : ∀ c', φ i = some c' → ∀ cur1, w.heap[c']? = some (.cells cur1 e' (0, 0)) → ∃ cur2, (w.setRow c cur').heap[c']? = some (.cells cur2 e' (0, 0)) ∧ cur2.size = cur1.size := fun c' h' cur1 h1 => by
      by_cases e : c' = c
      · subst e
        rw [h1] at hc
        simp at hc
        obtain ⟨rfl, rfl⟩ := hc
        exact ⟨cur', setRow_heap w c' _ _ _ _ h1, hsz⟩
      · exact ⟨cur1, by rw [heap_setRow w c cur' c' e]; exact h1, rfl⟩
    by_cases e : id = i
    · subst e
      rw [List.getElem?_set] at h
      simp at h
      obtain ⟨rows, h1, h2⟩ := hs.row e' nb rows' h.2
      exact ⟨rows, by rw [hb, h1], by omega, fun _ => ⟨fun _ h => h, fun c' h' => ⟨h', hcur c' h'⟩⟩⟩
    · rw [List.getElem?_set_ne e] at h
      exact ⟨rows', h, Nat.le_refl _, fun _ => ⟨fun _ h => h, fun c' h' => ⟨h', hcur c' h'⟩⟩⟩
  map := fun i es' _ h => by
    by_cases e : id = i
    · subst e
      rw [List.getElem?_set] at h
      simp at h
      obtain ⟨es, h1⟩ := hs.map es' h.2
      exact ⟨es, by rw [hb, h1], fun c' h' => ⟨h', fun ents clock h2 => by rw [hφ] at h'; cases h'; rw [hc] at h2; cases h2⟩⟩
    · rw [List.getElem?_set_ne e] at h
      exact ⟨es', h, fun c' h' => ⟨h', bornK_same (heap_setRow w c cur' c' fun e2 => e (hr.inj id i c hφ (by rw [← e2]; exact h')))⟩⟩
  iter := fun i m n s' _ h => by
    by_cases e : id = i
    · subst e
      rw [List.getElem?_set] at h
      simp at h
      exact absurd h.2 (hit m n s')
    · rw [List.getElem?_set_ne e] at h
      exact ⟨m, n, s', h, fun _ h => h⟩
theorem below_setRow {B : Nat} {a w : World} (h : Below B a w) {g : Nat} (hg : B ≤ g) (cs : Array Value) : Below B a (w.setRow g cs) :=
  h.trans ⟨rfl, rfl, rfl, by simp, fun k hk => heap_setRow w g cs k (by omega)⟩
theorem hr_setRow {w0 w : World} {X : Nat → Prop} {φ : Nat → Option Nat} {G : List Blk} (hr : HR P w0 X w φ G) {id c : Nat} {b b' : Blk} (hb : G[id]? = some b) (hφ : φ id = some c) (hs : Shape b b') {cur cur' : Array Value} {t : TypeId}
    (hc : w.heap[c]? = some (.cells cur t (0, 0))) (hsz : cur'.size = cur.size) (hok : BlkOk P (w.setRow c cur') X φ (G.set id b') c b') (hit : ∀ m n s, b' ≠ .iter m n s := by intro _ _ _ h; cases h) : HR P w0 X (w.setRow c cur') φ (G.set id b') := by
  have hT := turn_setRow hr hb hφ hs hc hsz hit
  refine ⟨hr.vo, below_setRow hr.fr (hr.own id c hφ).1 _, ext_turn hr hT, fun i c' hc' => ?_, hr.inj, fun i b2 c' hi hc' => ?_⟩
  · have := hr.own i c' hc'
    simpa using this
  · by_cases e : id = i
    · subst e
      rw [List.getElem?_set] at hi
      simp at hi
      obtain ⟨_, rfl⟩ := hi
      rw [hφ] at hc'
      simp at hc'
      subst hc'
      exact hok
    · rw [List.getElem?_set_ne e] at hi
      exact (hr.blk i b2 c' hi hc').turn hT (heap_setRow w c cur' c' fun e2 => e (hr.inj id i c hφ (by rw [← e2]; exact hc')))
/-- A draw. -/
theorem turn_drew (w : World) (φ : Nat → Option Nat) (G : List Blk) : Turn w φ G w.drew φ G := ⟨(Turn.refl w φ G).size, (Turn.refl w φ G).len, (Turn.refl w φ G).old, (Turn.refl w φ G).box, (Turn.refl w φ G).row, (Turn.refl w φ G).map, (Turn.refl w φ G).iter⟩
theorem hr_drew {w0 w : World} {X : Nat → Prop} {φ : Nat → Option Nat} {G : List Blk} (hr : HR P w0 X w φ G) : HR P w0 X w.drew φ G :=
  ⟨hr.vo, hr.fr.drew, hr.ext, hr.own, hr.inj, fun i b c hi hc => (hr.blk i b c hi hc).turn (turn_drew w φ G) rfl⟩
theorem Turn.trans {w1 w2 w3 : World} {φ1 φ2 φ3 : Nat → Option Nat} {G1 G2 G3 : List Blk} (h : Turn w1 φ1 G1 w2 φ2 G2) (k : Turn w2 φ2 G2 w3 φ3 G3) : Turn w1 φ1 G1 w3 φ3 G3 where
  size := Nat.le_trans h.size k.size
  len := Nat.le_trans h.len k.len
  old := fun b hb hl => by
    obtain ⟨h1, h2⟩ := h.old b hb hl
    obtain ⟨h3, h4⟩ := k.old b h2 (Nat.lt_of_lt_of_le hl h.size)
    exact ⟨h3.trans h1, h4⟩
  box := fun i t cs hi h1 => by
    obtain ⟨cs2, h2, h3⟩ := k.box i t cs (Nat.lt_of_lt_of_le hi h.len) h1
    obtain ⟨cs3, h4, h5⟩ := h.box i t cs2 hi h2
    exact ⟨cs3, h4, fun c hc => h3 c (h5 c hc)⟩
  row := fun i e nb rows hi h1 => by
    obtain ⟨r2, h2, h3, h4⟩ := k.row i e nb rows (Nat.lt_of_lt_of_le hi h.len) h1
    obtain ⟨r3, h5, h6, h7⟩ := h.row i e nb r2 hi h2
    refine ⟨r3, h5, by omega, fun hl => ?_⟩
    obtain ⟨a1, a2⟩ := h4 (by omega)
    obtain ⟨b1, b2⟩ := h7 (by omega)
    refine ⟨fun hn hp => a1 hn (b1 hn hp), fun c hc => ?_⟩
    obtain ⟨d1, d2⟩ := b2 c hc
    obtain ⟨e1, e2⟩ := a2 c d1
    refine ⟨e1, fun cur hcur => ?_⟩
    obtain ⟨cur2, f1, f2⟩ := d2 cur hcur
    obtain ⟨cur3, g1, g2⟩ := e2 cur2 f1
    exact ⟨cur3, g1, by omega⟩
  map := fun i es hi h1 => by
    obtain ⟨es2, h2, h3⟩ := k.map i es (Nat.lt_of_lt_of_le hi h.len) h1
    obtain ⟨es3, h4, h5⟩ := h.map i es2 hi h2
    exact ⟨es3, h4, fun c hc => ⟨(h3 c (h5 c hc).1).1, (h5 c hc).2.trans (h3 c (h5 c hc).1).2⟩⟩
  iter := fun i m n s hi h1 => by
    obtain ⟨m2, n2, s2, h2, h3⟩ := k.iter i m n s (Nat.lt_of_lt_of_le hi h.len) h1
    obtain ⟨m3, n3, s3, h4, h5⟩ := h.iter i m2 n2 s2 hi h2
    exact ⟨m3, n3, s3, h4, fun c hc => h3 c (h5 c hc)⟩
theorem turn_below {w0 w w' : World} {X : Nat → Prop} {φ : Nat → Option Nat} {G : List Blk} (hr : HR P w0 X w φ G) (hb : Below w.heap.size w w') : Turn w φ G w' φ G where
  size := hb.size
  len := Nat.le_refl _
  old := fun b h hl => ⟨hb.block b hl, h⟩
  box := fun _ _ cs _ h => ⟨cs, h, fun _ h => h⟩
  row := fun _ _ _ rows _ h => ⟨rows, h, Nat.le_refl _, fun _ => ⟨fun _ h => h, fun c hc => ⟨hc, fun cur hcur => ⟨cur, by rw [hb.block c (hr.own _ c hc).2.1]; exact hcur, rfl⟩⟩⟩⟩
  map := fun i es _ h => ⟨es, h, fun c hc => ⟨hc, bornK_same (hb.block c (hr.own i c hc).2.1)⟩⟩
  iter := fun _ m n s _ h => ⟨m, n, s, h, fun _ h => h⟩
theorem hr_below {w0 w w' : World} {X : Nat → Prop} {φ : Nat → Option Nat} {G : List Blk} (hr : HR P w0 X w φ G) (hb : Below w.heap.size w w') : HR P w0 X w' φ G :=
  ⟨hr.vo, hr.fr.trans (hb.mono hr.fr.size), ext_turn hr (turn_below hr hb), fun i c hc => ⟨(hr.own i c hc).1, Nat.lt_of_lt_of_le (hr.own i c hc).2.1 hb.size, (hr.own i c hc).2.2⟩, hr.inj,
    fun i b c hi hc => (hr.blk i b c hi hc).turn (turn_below hr hb) (hb.block c (hr.own i c hc).2.1)⟩
end
end Go.Proofs.YthiclaihlpkinaaGreat
namespace Go.Proofs.YthiclaihlpkinaaGreat
open Go.RowKit
variable [Glob]
section
variable {P : Program}
theorem all_mem {cs : Array Value} {p : Value → Bool} (h : cs.all p = true) : ∀ u ∈ cs.toList, p u = true := fun u hu => by
  rw [Array.all_eq_true_iff_forall_mem] at h
  exact h u (by simpa using hu)
theorem ofCell_ro (w : World) (X : Nat → Prop) (v : Value) : RO w X (ofCell v) v := by
  unfold ofCell
  split <;> constructor
theorem ofV_ro (w : World) (X : Nat → Prop) (v : Value) : RO w X (ofV v) v := by
  unfold ofV
  split
  · rename_i cs
    split
    · rename_i h
      refine .agg (by simp) (all_mem h) fun j x u h1 h2 => ?_
      simp at h1
      obtain ⟨y, h3, rfl⟩ := h1
      rw [h2] at h3
      simp at h3
      subst h3
      exact ofCell_ro w X u
    · exact .any
  · exact ofCell_ro w X v
/-- The cells of a type's zero. -/
theorem zero_sound {t : TypeId} {i : Ty} (h : ty P t = some i) (w : World) : ∃ z, (zeroValue t).run P w = .ok z w ∧ z.cells.size = i.sz ∧ (∀ u ∈ z.cells.toList, u.oneCell' = true) ∧
    ∀ (w' : World) X φ H (j : Nat) x u, i.zero[j]? = some x → z.cells[j]? = some u → RV P w' X φ H x u := by
  obtain ⟨inf, z, d, pl, es, h1, h2, h3, h4, h5, h6, h7, h8, rfl⟩ := (ty_is h).ex
  refine ⟨z, by simp [zeroValue, typeInfo, h1, h3], by rw [descTy_sz]; exact h4, all_mem h6, fun w' X φ H j x u hx hu => ?_⟩
  rw [descTy_zero] at hx
  simp at hx
  obtain ⟨y, h9, rfl⟩ := hx
  rw [hu] at h9
  simp at h9
  subst h9
  exact .ro (ofCell_ro _ _ _)
theorem cellsN_spec {n : Nat} {x : AV} {cs : List AV} (h : cellsN n x = some cs) : cellsOf x = some cs ∧ cs.length = n := by
  unfold cellsN at h
  split at h
  · rename_i c hc
    split at h
    · simp at h; subst h; exact ⟨hc, by assumption⟩
    · simp at h
  · simp at h
section
variable {w0 w : World} {X : Nat → Prop} {φ : Nat → Option Nat} {G : List Blk}
/-- A new variable. -/
theorem newVar_sound (hr : HR P w0 X w φ G) {t : TypeId} {v : Value} {cs : List AV} {nid : Nat} (hl : v.cells.size = cs.length) (h1 : ∀ u ∈ v.cells.toList, u.oneCell' = true)
    (h : ∀ (j : Nat) x u, cs[j]? = some x → v.cells[j]? = some u → RV P w X φ G x u) (hb : G[nid]? = some (.box t cs)) (hφ : φ nid = none) {r : Result Next}
    (hrun : r = .ok (.value (.pointer (some ⟨w.heap.size, 0, none⟩))) (w.alloc (.cells v.cells t))) : Eff P w0 X φ G w (.new (.box t cs)) nid (.op nid 0) r := by
  have hT := turn_alloc hr hb hφ (fun _ _ e => by cases e) (.cells v.cells t)
  have hid := (List.getElem?_eq_some_iff.1 hb).1
  refine ⟨_, _, _, .inl hrun, hr_alloc hr hb hφ (fun _ _ e => by cases e) _ ⟨v.cells, heap_alloc_new w _, hl, fun j x u hx hu => ⟨(h j x u hx hu).turn hT, ?_⟩⟩, hT, .op rfl hid fun t' cs' h' => ?_, fun id hi hne _ => ?_⟩
  · exact h1 u (List.mem_of_getElem? (by simpa using hu))
  · exact ⟨_, by simp [setφ], rfl⟩
  · have := hne _ rfl
    exact ⟨by simp [setφ, this, hi], rfl⟩
/-- A new row. -/
theorem newRow_sound (hr : HR P w0 X w φ G) {e : TypeId} {cur : Array Value} {rows : List (List AV)} {nid cap : Nat} (hrow : ∀ row ∈ rows, row.length = P.cellsOf e) (hsz : cur.size = cap * P.cellsOf e) (hcap : rows.length ≤ cap) (hcap2 : cap ≤ maxLen)
    (h : ∀ (i j : Nat) row x u, rows[i]? = some row → row[j]? = some x → cur[i * P.cellsOf e + j]? = some u → RV P w X φ G x u ∧ u.oneCell' = true) (hb : G[nid]? = some (.row e false rows)) (hφ : φ nid = none) {r : Result Next}
    (hrun : r = .ok (.value (.slice (some ⟨w.heap.size, 0, none⟩) rows.length cap)) (w.alloc (.cells cur e))) : Eff P w0 X φ G w (.new (.row e false rows)) nid (.os nid rows.length) r := by
  have hT := turn_alloc hr hb hφ (fun _ _ e => by cases e) (.cells cur e)
  have hid := (List.getElem?_eq_some_iff.1 hb).1
  refine ⟨_, _, _, .inl hrun, hr_alloc hr hb hφ (fun _ _ e => by cases e) _ ⟨cur, heap_alloc_new w _, hrow, by rw [hsz]; exact Nat.mul_le_mul_right _ hcap, fun i j row x u h1 h2 h3 => ⟨(h i j row x u h1 h2 h3).1.turn hT, (h i j row x u h1 h2 h3).2⟩⟩, hT, .os rfl hid fun e' nb' rows' h' => ?_, fun id hi hne _ => ?_⟩
  · rw [show updG G (.new (.row e false rows)) = G from rfl, hb] at h'
    simp at h'
    obtain ⟨rfl, rfl, rfl⟩ := h'
    exact ⟨Nat.le_refl _, fun _ => .inr ⟨_, _, _, by simp [setφ], rfl, heap_alloc_new w _, hsz, hcap2, hcap⟩⟩
  · have := hne _ rfl
    exact ⟨by simp [setφ, this, hi], rfl⟩
theorem over_spec {cs new c : List AV} {o : Nat} (h : over cs o new = some c) : o + new.length ≤ cs.length ∧ c.length = cs.length ∧
    ∀ (j : Nat) x, c[j]? = some x → (j < o ∧ cs[j]? = some x) ∨ (o ≤ j ∧ j < o + new.length ∧ new[j - o]? = some x) ∨ (o + new.length ≤ j ∧ cs[j]? = some x) := by
  unfold over at h
  split at h
  · rename_i hl
    simp at h
    subst h
    refine ⟨hl, by simp; omega, fun j x hx => ?_⟩
    try simp only [List.append_assoc] at hx
    by_cases h1 : j < o
    · rw [List.getElem?_append_left (by simp; omega)] at hx
      rw [List.getElem?_take] at hx
      simp [h1] at hx
      exact .inl ⟨h1, by simpa using hx⟩
    · rw [List.getElem?_append_right (by simp; omega)] at hx
      have ho : min o cs.length = o := by omega
      simp only [List.length_take, ho] at hx
      by_cases h2 : j < o + new.length
      · rw [List.getElem?_append_left (by omega)] at hx
        exact .inr (.inl ⟨by omega, h2, hx⟩)
      · rw [List.getElem?_append_right (by omega)] at hx
        rw [List.getElem?_drop] at hx
        exact .inr (.inr ⟨by omega, by rw [← hx]; congr 1; omega⟩)
  · simp at h
/-- What stands in an array after a piece of it was overwritten. -/
theorem overA {cur : Array Value} {o : Nat} {vs : List Value} (hl : o + vs.length ≤ cur.size) {j : Nat} {u : Value}
    (h : (cur.toList.take o ++ vs ++ cur.toList.drop (o + vs.length)).toArray[j]? = some u) :
    (j < o ∧ cur[j]? = some u) ∨ (o ≤ j ∧ j < o + vs.length ∧ vs[j - o]? = some u) ∨ (o + vs.length ≤ j ∧ cur[j]? = some u) := by
  simp only [List.getElem?_toArray, List.append_assoc] at h
  have hlen : (cur.toList.take o).length = o := by simp; omega
  by_cases h1 : j < o
  · rw [List.getElem?_append_left (by omega), List.getElem?_take] at h
    simp [h1] at h
    exact .inl ⟨h1, by simpa using h⟩
  · rw [List.getElem?_append_right (by omega), hlen] at h
    by_cases h2 : j < o + vs.length
    · rw [List.getElem?_append_left (by omega)] at h
      exact .inr (.inl ⟨by omega, h2, h⟩)
    · rw [List.getElem?_append_right (by omega), List.getElem?_drop] at h
      refine .inr (.inr ⟨by omega, ?_⟩)
      rw [show o + vs.length + (j - o - vs.length) = j by omega] at h
      simpa using h
/-- A store. -/
theorem store_sound (hr : HR P w0 X w φ G) {p : AV} {cs : List AV} {u : Upd} {t : TypeId} {i : Ty} {pv v : Value} {nid : Nat} (ht : ty P t = some i) (hwr : wr G p cs = some u) (hp : RV P w X φ G p pv) (hn : cs.length = i.sz)
    (hl : v.cells.size = cs.length) (h1 : ∀ u ∈ v.cells.toList, u.oneCell' = true) (h : ∀ (j : Nat) x u, cs[j]? = some x → v.cells[j]? = some u → RV P w X φ G x u) {r : Result Next}
    (hrun : ∀ a w', pv = .pointer (some a) → (storeVar t a v).run P w = .ok () w' → r = .ok .skip w') : Eff P w0 X φ G w u nid .any r := by
  have key : ∀ a, (storeVar t a v).run P w = (storeCells a v.cells.toList).run P w := fun a => by
    simp [storeVar, run_sizeOf_ty ht, hl, hn]
  cases p with
  | op id o =>
    simp only [wr] at hwr
    split at hwr
    · rename_i bt bcs hb
      split at hwr
      · rename_i c hc
        simp at hwr
        subst hwr
        cases hp with
        | ro h => cases h
        | op h0 hid hp =>
          obtain ⟨g, hφ, rfl⟩ := hp bt bcs hb
          obtain ⟨cur, hg, hsz, hcur⟩ := hr.blk id _ g hb hφ
          obtain ⟨o1, o2, o3⟩ := over_spec hc
          have hst := run_storeCells_at P g o bt v.cells.toList 0 cur w hg (by simp; omega) h1
          have hlen : v.cells.toList.length = cs.length := by simpa using hl
          simp only [Nat.add_zero] at hst
          have hT := turn_setRow hr (b' := .box bt c) (cur' := (cur.toList.take o ++ v.cells.toList ++ cur.toList.drop (o + v.cells.toList.length)).toArray) hb hφ ⟨fun t' cs' e => (by cases e; exact ⟨bcs, rfl⟩), fun _ _ _ e => (by cases e), fun _ e => (by cases e)⟩ hg (by simp; omega)
          refine ⟨undef, _, φ, .inr ⟨hrun _ _ rfl ((key _).trans hst), rfl⟩, hr_setRow hr hb hφ ⟨fun t' cs' e => (by cases e; exact ⟨bcs, rfl⟩), fun _ _ _ e => (by cases e), fun _ e => (by cases e)⟩ hg (by simp; omega) ⟨_, setRow_heap w g _ _ _ _ hg, by simp; omega, fun j x u hx hu => ?_⟩, hT, .ro .any, fun id' hi _ _ => ⟨hi, List.getElem?_set_ne (fun e => by rw [e, hi] at hφ; simp at hφ)⟩⟩
          have hA := overA (by rw [hlen]; omega) hu
          rcases o3 j x hx with ⟨q1, q2⟩ | ⟨q1, q2, q3⟩ | ⟨q1, q2⟩
          · rcases hA with ⟨_, s2⟩ | ⟨s1, _⟩ | ⟨s1, _⟩
            · exact ⟨(hcur j x u q2 s2).1.turn hT, (hcur j x u q2 s2).2⟩
            · omega
            · omega
          · rcases hA with ⟨s1, _⟩ | ⟨_, _, s2⟩ | ⟨s1, _⟩
            · omega
            · exact ⟨(h _ x u q3 (by simpa using s2)).turn hT, h1 u (List.mem_of_getElem? s2)⟩
            · omega
          · rcases hA with ⟨s1, _⟩ | ⟨_, s1, _⟩ | ⟨_, s2⟩
            · omega
            · omega
            · exact ⟨(hcur j x u q2 s2).1.turn hT, (hcur j x u q2 s2).2⟩
      · simp at hwr
    · simp at hwr
  | ep id n k o =>
    simp only [wr] at hwr
    split at hwr
    · rename_i e nb rows hb
      split at hwr
      · rename_i hn2
        split at hwr
        · rename_i row hrow
          split at hwr
          · rename_i c hc
            simp at hwr
            subst hwr
            cases hp with
            | ro h => cases h
            | ep h0 hid hp =>
              obtain ⟨g, hφ, rfl⟩ := (hp e nb rows hb).2 hn2.symm
              obtain ⟨cur, hg, hall, hsz, hcur⟩ := hr.blk id _ g hb hφ
              obtain ⟨o1, o2, o3⟩ := over_spec hc
              have hk : k < rows.length := (List.getElem?_eq_some_iff.1 hrow).1
              have hrl : row.length = P.cellsOf e := hall row (List.mem_of_getElem? hrow)
              have hlen : v.cells.toList.length = cs.length := by simpa using hl
              have hin : k * P.cellsOf e + o + cs.length ≤ cur.size := by
                have : (k + 1) * P.cellsOf e ≤ rows.length * P.cellsOf e := Nat.mul_le_mul_right _ hk
                rw [Nat.add_mul] at this; omega
              have hst := run_storeCells_at P g (k * P.cellsOf e + o) e v.cells.toList 0 cur w hg (by simp; omega) h1
              simp only [Nat.add_zero] at hst
              have hsh : Shape (.row e nb rows) (.row e nb (rows.set k c)) := ⟨fun _ _ e => (by cases e), fun e' nb' rows' e2 => (by cases e2; exact ⟨rows, rfl, by simp⟩), fun _ e => (by cases e)⟩
              have hT := turn_setRow hr (b' := .row e nb (rows.set k c)) (cur' := (cur.toList.take (k * P.cellsOf e + o) ++ v.cells.toList ++ cur.toList.drop (k * P.cellsOf e + o + v.cells.toList.length)).toArray) hb hφ hsh hg (by simp; omega)
              refine ⟨undef, _, φ, .inr ⟨hrun _ _ rfl ((key _).trans hst), rfl⟩, hr_setRow hr hb hφ hsh hg (by simp; omega) ⟨_, setRow_heap w g _ _ _ _ hg, ?_, by simp; omega, fun i j row' x u hr' hx hu => ?_⟩, hT, .ro .any, fun id' hi _ _ => ⟨hi, List.getElem?_set_ne (fun e => by rw [e, hi] at hφ; simp at hφ)⟩⟩
              · intro row' hm
                rcases List.mem_or_eq_of_mem_set hm with hm | rfl
                · exact hall row' hm
                · rw [o2]; exact hrl
              · have hA := overA (by rw [hlen]; omega) hu
                have hi' : i < rows.length := by have := (List.getElem?_eq_some_iff.1 hr').1; simpa using this
                by_cases hik : k = i
                · subst hik
                  rw [List.getElem?_set] at hr'
                  simp [hk] at hr'
                  subst hr'
                  rcases o3 j x hx with ⟨q1, q2⟩ | ⟨q1, q2, q3⟩ | ⟨q1, q2⟩
                  · rcases hA with ⟨_, s2⟩ | ⟨s1, _⟩ | ⟨s1, _⟩
                    · exact ⟨(hcur k j row x u hrow q2 s2).1.turn hT, (hcur k j row x u hrow q2 s2).2⟩
                    · omega
                    · omega
                  · rcases hA with ⟨s1, _⟩ | ⟨_, _, s2⟩ | ⟨s1, _⟩
                    · omega
                    · rw [show k * P.cellsOf e + j - (k * P.cellsOf e + o) = j - o by omega] at s2
                      exact ⟨(h _ x u q3 (by simpa using s2)).turn hT, h1 u (List.mem_of_getElem? s2)⟩
                    · omega
                  · rcases hA with ⟨s1, _⟩ | ⟨_, s1, _⟩ | ⟨_, s2⟩
                    · omega
                    · omega
                    · exact ⟨(hcur k j row x u hrow q2 s2).1.turn hT, (hcur k j row x u hrow q2 s2).2⟩
                · rw [List.getElem?_set_ne hik] at hr'
                  have hj : j < P.cellsOf e := by rw [← hall row' (List.mem_of_getElem? hr')]; exact (List.getElem?_eq_some_iff.1 hx).1
                  have hout : i * P.cellsOf e + j < k * P.cellsOf e + o ∨ k * P.cellsOf e + o + cs.length ≤ i * P.cellsOf e + j := by
                    rcases Nat.lt_or_gt_of_ne hik with hlt | hgt
                    · right
                      have : (k + 1) * P.cellsOf e ≤ i * P.cellsOf e := Nat.mul_le_mul_right _ hlt
                      rw [Nat.add_mul] at this; omega
                    · left
                      have := mul_lt (s := P.cellsOf e) hgt hj
                      omega
                  rcases hA with ⟨_, s2⟩ | ⟨s1, s2, _⟩ | ⟨_, s2⟩
                  · exact ⟨(hcur i j row' x u hr' hx s2).1.turn hT, (hcur i j row' x u hr' hx s2).2⟩
                  · omega
                  · exact ⟨(hcur i j row' x u hr' hx s2).1.turn hT, (hcur i j row' x u hr' hx s2).2⟩
          · simp at hwr
        · simp at hwr
      · simp at hwr
    · simp at hwr
  | _ => simp [wr] at hwr
end
end
end Go.Proofs.YthiclaihlpkinaaGreat
namespace Go.Proofs.YthiclaihlpkinaaGreat
open Go.RowKit
variable [Glob]
section
variable {P : Program} {w0 w : World} {X : Nat → Prop} {φ : Nat → Option Nat} {G H : List Blk}
theorem rd_mono (hG : ∀ (id : Nat) b, H[id]? = some b → G[id]? = some b) {p : AV} {cs : List AV} (h : rd H p = some cs) : rd G p = some cs := by
  cases p <;> simp only [rd] at h ⊢ <;> try (exact h)
  all_goals
    split at h
    · rename_i hb
      rw [hG _ _ hb]
      exact h
    · simp at h
theorem wr_mono (hG : ∀ (id : Nat) b, H[id]? = some b → G[id]? = some b) {p : AV} {cs : List AV} {u : Upd} (h : wr H p cs = some u) : wr G p cs = some u := by
  cases p <;> simp only [wr] at h ⊢ <;> try (exact h)
  all_goals
    split at h
    · rename_i hb
      rw [hG _ _ hb]
      exact h
    · simp at h
theorem shift_mono (hG : ∀ (id : Nat) b, H[id]? = some b → G[id]? = some b) {p x : AV} {k : Nat} (h : shift H p k = some x) : shift G p k = some x := by
  cases p <;> simp only [shift] at h ⊢ <;> try (exact h)
  all_goals
    split at h
    · rename_i hb
      rw [hG _ _ hb]
      exact h
    · simp at h
theorem elemAt_mono (hG : ∀ (id : Nat) b, H[id]? = some b → G[id]? = some b) {sz e : Nat} {p x : AV} {k : Int} (h : elemAt H sz e p k = some x) : elemAt G sz e p k = some x := by
  cases p <;> simp only [elemAt] at h ⊢ <;> try (exact h)
  all_goals
    split at h
    · rename_i hb
      rw [hG _ _ hb]
      exact h
    · simp at h
theorem elems_mono (hG : ∀ (id : Nat) b, H[id]? = some b → G[id]? = some b) {sz : Nat} {p : AV} {x : List (List AV)} (h : elems H sz p = some x) : elems G sz p = some x := by
  cases p <;> simp only [elems] at h ⊢ <;> try (exact h)
  all_goals
    split at h
    · rename_i hb
      rw [hG _ _ hb]
      exact h
    · simp at h
theorem part_sound {i : Ty} {cs : List AV} {off : Nat} {v : AV} {vs : Array Value} {t : TypeId} (ht : ty P t = some i) (h : part i cs off = some v) (hl : cs.length = vs.size) (h1 : ∀ u ∈ vs.toList, u.oneCell' = true)
    (hv : ∀ (j : Nat) x u, cs[j]? = some x → vs[j]? = some u → RV P w X φ G x u) : ∃ u, (Go.part t vs off).run P w = .ok u w ∧ RV P w X φ G v u := by
  unfold part at h
  split at h
  · rename_i hle
    have hpos := ty_pos ht
    simp only [Go.part, Sem.run_bind, run_isAgg_ty ht, Result.andThen_ok]
    split at h
    · rename_i hag
      simp at h
      subst h
      refine ⟨.agg (vs.extract off (off + i.sz)), by rw [hag]; simp [run_sizeOf_ty ht], .agg ?_ ?_ ?_⟩
      · simp; omega
      · intro u hu
        obtain ⟨j, hj, rfl⟩ := List.getElem_of_mem hu
        simp at hj
        exact h1 _ (by simp)
      · intro j x u hx hu
        have hj : j < i.sz := by have := (List.getElem?_eq_some_iff.1 hx).1; simp at this; omega
        rw [List.getElem?_take, if_pos hj, List.getElem?_drop] at hx
        refine hv (off + j) x u hx ?_
        rw [← hu]
        simp [Array.getElem?_extract, hj]
        omega
    · rename_i hag
      have hag : i.ag = false := by simpa using hag
      rw [List.head?_drop] at h
      have hlt : off < vs.size := by rw [← hl]; exact (List.getElem?_eq_some_iff.1 h).1
      refine ⟨vs[off], by rw [hag]; simp [hlt], hv off v _ h (by simp [hlt])⟩
  · simp at h
theorem ev_len {T : List (Nat × AV)} {a : Act} {l : List Operand} (hev : ∀ x ∈ l, RV P w X φ G (ev T x) (a.eval x)) : ∀ (j : Nat) x u, (l.map (ev T))[j]? = some x → ((l.map a.eval).toArray)[j]? = some u → RV P w X φ G x u := by
  intro j x u hx hu
  simp at hx hu
  obtain ⟨y, h1, rfl⟩ := hx
  rw [h1] at hu
  simp at hu
  subst hu
  exact hev y (List.mem_of_getElem? h1)
theorem int_wrap_run {op : BinOp} {t : TypeId} {x y : Operand} {k k' : IntKind} {m n : Int} {v : AV} (h : ebin op (.int k m) (.int k' n) = some v) :
    ∃ u, (do eqGuard op t x y (.int k m) (.int k' n); binOp op t (.int k m) (.int k' n) : Sem Value).run P w = .ok u w ∧ RO w X v u := by
  have esh : ∀ op', (op' = .shr ∨ op' = .shl) → (eqGuard op' t x y (.int k m) (.int k' n)).run P w = .ok () w := by rintro op' (rfl | rfl) <;> rfl
  have hsr : 0 ≤ n → n ≤ shW k → (binOp .shr t (.int k m) (.int k' n)).run P w = .ok (.int k (m / 2 ^ n.toNat)) w := fun h0 h1 => by
    rw [binOp_shr, shift_shr k k' m n h0 (Int.le_trans h1 (by cases k <;> decide))]; rfl
  have hsl : 0 ≤ n → n ≤ shW k → (binOp .shl t (.int k m) (.int k' n)).run P w = .ok (.int k (k.wrap (m * 2 ^ n.toNat))) w := fun h0 h1 => by
    rw [binOp_shl, shift_shl k k' m n h0 (Int.le_trans h1 (by cases k <;> decide))]; rfl
  simp only [ebin] at h
  split at h
  · rename_i hk
    subst hk
    have e0 : (eqGuard op t x y (.int k m) (.int k n)).run P w = .ok () w := by cases op <;> rfl
    simp only [Sem.run_bind, e0, Result.andThen_ok]
    simp only [wrapI_eq, bitI_eq] at h
    cases op
    case quo =>
      simp at h
      obtain ⟨h0, rfl⟩ := h
      exact ⟨_, by simp [binOp, Op.intDiv, h0], .int⟩
    case rem =>
      simp at h
      obtain ⟨h0, rfl⟩ := h
      exact ⟨_, by simp [binOp, Op.intDiv, h0], .int⟩
    case shr =>
      simp at h
      obtain ⟨⟨h0, h1⟩, rfl⟩ := h
      exact ⟨_, hsr h0 h1, .int⟩
    case shl =>
      simp at h
      obtain ⟨⟨h0, h1⟩, rfl⟩ := h
      exact ⟨_, hsl h0 h1, .int⟩
    case and => simp at h; subst h; exact ⟨_, by rw [binOp_and, intBits_and]; rfl, .int⟩
    case or => simp at h; subst h; exact ⟨_, by rw [binOp_or, intBits_or]; rfl, .int⟩
    case xor => simp at h; subst h; exact ⟨_, by rw [binOp_xor, intBits_xor]; rfl, .int⟩
    all_goals simp at h
    all_goals try (subst h; exact ⟨_, by simp [binOp, Op.intArith, Op.intCmp], .int⟩)
    all_goals try (subst h; exact ⟨.bool _, by simp [binOp, Op.intCmp], .bool⟩)
  · simp only [ebinS, wrapI_eq] at h
    cases op <;> simp at h
    case shr =>
      obtain ⟨⟨h0, h1⟩, rfl⟩ := h
      simp only [Sem.run_bind, esh .shr (.inl rfl), Result.andThen_ok]
      exact ⟨_, hsr h0 h1, .int⟩
    case shl =>
      obtain ⟨⟨h0, h1⟩, rfl⟩ := h
      simp only [Sem.run_bind, esh .shl (.inr rfl), Result.andThen_ok]
      exact ⟨_, hsl h0 h1, .int⟩
theorem str_run {op : BinOp} {t : TypeId} {x y : Operand} {m n : ByteArray} {v : AV} (h : ebin op (.str m) (.str n) = some v) :
    ∃ u, (do eqGuard op t x y (.string m) (.string n); binOp op t (.string m) (.string n) : Sem Value).run P w = .ok u w ∧ RO w X v u := by
  simp only [ebin] at h
  have e0 : (eqGuard op t x y (.string m) (.string n)).run P w = .ok () w := by cases op <;> rfl
  simp only [Sem.run_bind, e0, Result.andThen_ok]
  cases op <;> simp at h <;> try (subst h; exact ⟨.bool _, by simp [binOp, Op.stringOp], .bool⟩)
  obtain ⟨h0, rfl⟩ := h
  refine ⟨.string (m ++ n), ?_, .str⟩
  have : ¬ ((m.size + n.size : Nat) : Int) > IntKind.i64.max := by simp [IntKind.max, IntKind.signed, IntKind.bits]; omega
  simp only [binOp, Op.stringOp]
  rw [if_neg this]
  rfl
end
end Go.Proofs.YthiclaihlpkinaaGreat
namespace Go.Proofs.YthiclaihlpkinaaGreat
open Go.RowKit
variable [Glob]
section
variable {P : Program} {w0 w : World} {X : Nat → Prop} {φ : Nat → Option Nat} {G : List Blk}
theorem add_add (a : Addr) (m k : Nat) : (a.add m).add k = a.add (m + k) := by
  unfold Addr.add
  by_cases hm : m = 0
  · subst hm; simp
  · by_cases hk : k = 0
    · subst hk; simp [hm]
    · have : ¬ (m + k = 0) := by omega
      simp [hm, hk, Nat.add_assoc]
theorem elemAt_sound (hr : HR P w0 X w φ G) {sz e t : Nat} {i : Ty} {x p : AV} {k : IntKind} {n : Int} {v : Value} (hu : P.underlying t = some (.slice e)) (he : ty P e = some i) (hs : sz = i.sz) (h : elemAt G sz e x n = some p) (hv : RV P w X φ G x v) :
    ∃ u, (Instr.indexAt t v (.int k n)).run P w = .ok u w ∧ RV P w X φ G p u := by
  subst hs
  cases x with
  | rs rows =>
    simp only [elemAt] at h
    split at h
    · rename_i h0
      split at h
      · rename_i row hrow
        split at h
        · rename_i hl
          simp at h
          subst h
          cases hv with
          | ro h =>
            cases h with
            | @rs _ A m cap szr f hn hcap hA hx =>
              obtain ⟨h1, a, rfl, hb, hxx, hc⟩ := hA _ _ hrow
              have hlt : n.toNat < rows.length := (List.getElem?_eq_some_iff.1 hrow).1
              have hnm : n < (m : Int) := by omega
              refine ⟨.pointer (some (a.add (n.toNat * i.sz))), ?_, .ro (.rp (fun j => f n.toNat j) (by rw [add_block]; exact hb) (by rw [add_block]; exact hxx) (fun j x hj => ?_) (fun j x hj => hx _ j row x hrow hj))⟩
              · simp [Instr.indexAt, asIntOf, run_underlying hu, run_sizeOf_ty he, h0, hnm]
              · have hj' : j < szr := by rw [← h1]; exact (List.getElem?_eq_some_iff.1 hj).1
                rw [add_add, show i.sz = szr by omega]
                exact hc j hj'
        · simp at h
      · simp at h
    · simp at h
  | os id m =>
    simp only [elemAt] at h
    split at h
    · rename_i e' nb rows hb
      split at h
      · rename_i hc
        obtain ⟨h0, h1, h2, rfl⟩ := hc
        simp at h
        subst h
        cases hv with
        | ro h => cases h
        | os g0 hid hv =>
          have := (hv e' nb rows hb).2 h2.symm
          rcases this with ⟨_, _, _, h3⟩ | ⟨c, cap, cur, h4, rfl, h5, h6, h7, h8⟩
          · omega
          · have hnm : n < (m : Int) := by omega
            refine ⟨.pointer (some ((Addr.mk c 0 none).add (n.toNat * i.sz))), ?_, .ep rfl hid fun e2 nb2 rows2 hb2 => ?_⟩
            · simp [Instr.indexAt, asIntOf, run_underlying hu, run_sizeOf_ty he, h0, hnm]
            · rw [hb] at hb2
              simp at hb2
              obtain ⟨rfl, rfl, rfl⟩ := hb2
              exact ⟨by omega, fun _ => ⟨c, h4, by rw [add_noneA, ty_cells he]; simp⟩⟩
      · simp at h
    · simp at h
  | ow id m lo hi =>
    simp only [elemAt] at h
    split at h
    · rename_i e' nb rows hb
      split at h
      · rename_i hc
        obtain ⟨h0, h1, h2, rfl⟩ := hc
        simp at h
        subst h
        cases hv with
        | ro h => cases h
        | ow g0 hid hv =>
          obtain ⟨A, c, cap, cur, h4, rfl, hA, h5, h6, h7, h8, h9, h10⟩ := (hv e' nb rows hb).2 h2.symm
          obtain rfl := hA (by omega)
          have hnm : n < ((hi - lo : Nat) : Int) := by omega
          refine ⟨.pointer (some ((Addr.mk c (lo * P.cellsOf e') none).add (n.toNat * i.sz))), ?_, .ep rfl hid fun e2 nb2 rows2 hb2 => ?_⟩
          · simp [Instr.indexAt, asIntOf, run_underlying hu, run_sizeOf_ty he, h0, hnm]
          · rw [hb] at hb2
            simp at hb2
            obtain ⟨rfl, rfl, rfl⟩ := hb2
            exact ⟨by omega, fun _ => ⟨c, h4, by rw [add_noneA, ty_cells he, Nat.add_mul]; simp⟩⟩
      · simp at h
    · simp at h
  | _ => simp [elemAt] at h
theorem allLen_mem {sz : Nat} {rows : List (List AV)} (h : allLen sz rows = true) : ∀ row ∈ rows, row.length = sz := by
  intro row hm
  simp only [allLen, List.all_eq_true] at h
  simpa using h row hm
/-- The elements of a slice. -/
theorem elems_sound (hr : HR P w0 X w φ G) {sz e : Nat} {i : Ty} {y : AV} {ys : List (List AV)} {v : Value} (hsz : 0 < sz) (h : elems G sz y = some ys) (hv : RV P w X φ G y v) :
    (∀ row ∈ ys, row.length = sz) ∧ ∃ A c, v = .slice A ys.length c ∧ (ys = [] → True) ∧ (0 < ys.length → ∃ a, A = some a ∧ ∀ (i j : Nat) row x, ys[i]? = some row → row[j]? = some x →
      ∃ u, w.cell? (a.add (i * sz + j)) = some u ∧ u.oneCell' = true ∧ RV P w X φ G x u) := by
  cases y with
  | rs rows =>
    simp only [elems] at h
    split at h
    · rename_i hal
      simp at h
      subst h
      have hal := allLen_mem (hal.resolve_left (by omega))
      cases hv with
      | ro h =>
        cases h with
        | @rs _ A m cap szr f hn hcap hA hx =>
          subst hn
          refine ⟨hal, A, cap, rfl, fun _ => trivial, fun h0 => ?_⟩
          obtain ⟨h1, a, rfl, hb, hxx, hc⟩ := hA 0 rows[0] (by simp [h0])
          refine ⟨a, rfl, fun i j row x hi hj => ?_⟩
          obtain ⟨h1', a', ha', hb', hxx', hc'⟩ := hA i row hi
          simp at ha'
          subst ha'
          have hl := hal row (List.mem_of_getElem? hi)
          have hj' : j < szr := by rw [← h1']; exact (List.getElem?_eq_some_iff.1 hj).1
          refine ⟨f i j, ?_, (hc' j hj').2, .ro (hx i j row x hi hj)⟩
          rw [show sz = szr by omega]
          exact (hc' j hj').1
    · simp at h
  | nils =>
    simp [elems] at h
    subst h
    obtain rfl := hv.nils_inv
    exact ⟨by simp, none, 0, rfl, fun _ => trivial, by simp⟩
  | nilc =>
    simp [elems] at h
    subst h
    obtain ⟨A, rfl⟩ := hv.nilc_inv
    exact ⟨by simp, A, 0, rfl, fun _ => trivial, by simp⟩
  | nec =>
    simp [elems] at h
    subst h
    obtain ⟨A, rfl⟩ := hv.nec_inv
    exact ⟨by simp, some A, 0, rfl, fun _ => trivial, by simp⟩
  | os id n =>
    simp only [elems] at h
    split at h
    · rename_i e' nb rows hb
      split at h
      · rename_i hc
        simp at h
        subst h
        have hal := allLen_mem (hc.2.resolve_left (by omega))
        cases hv with
        | ro h => cases h
        | os g0 hid hv =>
          rcases (hv e' nb rows hb).2 hc.1.symm with ⟨_, _, ⟨A, rfl⟩, h3⟩ | ⟨c, cap, cur, h4, rfl, h5, h6, h7, h8⟩
          · exact ⟨hal, A, 0, by rw [hc.1, h3], fun _ => trivial, by omega⟩
          · refine ⟨hal, some ⟨c, 0, none⟩, cap, by rw [hc.1], fun _ => trivial, fun _ => ⟨_, rfl, fun i j row x hi hj => ?_⟩⟩
            obtain ⟨cur', k1, k2, k3, k4⟩ := hr.blk id _ c hb h4
            have hl := hal row (List.mem_of_getElem? hi)
            have hi' : i < rows.length := (List.getElem?_eq_some_iff.1 hi).1
            have hce : P.cellsOf e' = sz := by rw [← k2 row (List.mem_of_getElem? hi)]; exact hl
            have hj' : j < sz := by rw [← hl]; exact (List.getElem?_eq_some_iff.1 hj).1
            rw [hce] at k3 k4
            have hlt : i * sz + j < cur'.size := Nat.lt_of_lt_of_le (mul_lt hi' hj') k3
            obtain ⟨q1, q2⟩ := k4 i j row x cur'[i * sz + j] hi hj (by simp [hlt])
            exact ⟨cur'[i * sz + j], by rw [add_noneA, cell_row k1]; simp [hlt], q2, q1⟩
      · simp at h
    · simp at h
  | ow id n lo hh =>
    simp only [elems] at h
    split at h
    · rename_i e' nb rows hb
      split at h
      · rename_i hc
        simp at h
        subst h
        have hal := allLen_mem (hc.2.resolve_left (by omega))
        cases hv with
        | ro h => cases h
        | ow g0 hid hv =>
          obtain ⟨A, c, cap, cur, h4, rfl, hA, h5, h6, h7, h8, h9, h10⟩ := (hv e' nb rows hb).2 hc.1.symm
          have hln : ((rows.take hh).drop lo).length = hh - lo := by simp; omega
          refine ⟨fun row hm => hal row (List.mem_of_mem_take (List.mem_of_mem_drop hm)), A, cap - lo, by rw [hln], fun _ => trivial, fun hp => ?_⟩
          rw [hln] at hp
          obtain rfl := hA (by omega)
          refine ⟨_, rfl, fun i j row x hi hj => ?_⟩
          rw [List.getElem?_drop, List.getElem?_take] at hi
          split at hi
          · rename_i hih
            obtain ⟨cur', k1, k2, k3, k4⟩ := hr.blk id _ c hb h4
            have hl := hal row (List.mem_of_getElem? hi)
            have hi' : lo + i < rows.length := (List.getElem?_eq_some_iff.1 hi).1
            have hce : P.cellsOf e' = sz := by rw [← k2 row (List.mem_of_getElem? hi)]; exact hl
            have hj' : j < sz := by rw [← hl]; exact (List.getElem?_eq_some_iff.1 hj).1
            rw [hce] at k3 k4
            have hlt : (lo + i) * sz + j < cur'.size := Nat.lt_of_lt_of_le (mul_lt hi' hj') k3
            obtain ⟨q1, q2⟩ := k4 (lo + i) j row x cur'[(lo + i) * sz + j] hi hj (by simp [hlt])
            exact ⟨cur'[(lo + i) * sz + j], by rw [add_noneA, cell_row k1, hce, ← Nat.add_assoc, ← Nat.add_mul]; simp [hlt], q2, q1⟩
          · simp at hi
      · simp at h
    · simp at h
  | _ => simp [elems] at h
theorem set_self {l : List Blk} {i : Nat} {b : Blk} (h : l[i]? = some b) : l.set i b = l := by
  apply List.ext_getElem?
  intro j
  rw [List.getElem?_set]
  split
  · rename_i e; subst e
    rw [h]; simp; exact (List.getElem?_eq_some_iff.1 h).1
  · rfl
theorem news_list {sz : Nat} {ys : List (List AV)} {b : Addr} (hp : 0 < sz) (hal : ∀ row ∈ ys, row.length = sz) (hys : ∀ (i j : Nat) row x, ys[i]? = some row → row[j]? = some x → ∃ u, w.cell? (b.add (i * sz + j)) = some u ∧ u.oneCell' = true ∧ RV P w X φ G x u) :
    ∃ vs : List Value, vs.length = ys.length * sz ∧ (∀ (j : Nat) u, vs[j]? = some u → w.cell? (b.add j) = some u) ∧ (∀ u ∈ vs, u.oneCell' = true) ∧ ∀ (i j : Nat) row x, ys[i]? = some row → row[j]? = some x → ∃ u, vs[i * sz + j]? = some u ∧ RV P w X φ G x u ∧ u.oneCell' = true := by
  obtain ⟨vs, hvs⟩ : ∃ vs : List Value, vs = (List.range (ys.length * sz)).map fun k => (w.cell? (b.add k)).getD undef := ⟨_, rfl⟩
  have hcell : ∀ k, k < ys.length * sz → ∃ u, w.cell? (b.add k) = some u ∧ u.oneCell' = true := fun k hk => by
    have h1 : k / sz < ys.length := Nat.div_lt_of_lt_mul (by rw [Nat.mul_comm]; exact hk)
    have h2 : k % sz < (ys[k / sz]).length := by rw [hal _ (List.getElem_mem h1)]; exact Nat.mod_lt _ hp
    obtain ⟨u, h3, h4, h5⟩ := hys (k / sz) (k % sz) _ _ (List.getElem?_eq_getElem h1) (List.getElem?_eq_getElem h2)
    rw [Nat.mul_comm, Nat.div_add_mod] at h3
    exact ⟨u, h3, h4⟩
  have hvl : vs.length = ys.length * sz := by rw [hvs]; simp
  have hget : ∀ j, j < ys.length * sz → ∃ u, vs[j]? = some u ∧ w.cell? (b.add j) = some u ∧ u.oneCell' = true := fun j hj => by
    obtain ⟨u, h1, h2⟩ := hcell j hj
    exact ⟨u, by rw [hvs, List.getElem?_map, List.getElem?_range hj]; simp [h1], h1, h2⟩
  refine ⟨vs, hvl, fun j u hj => ?_, fun u hu => ?_, fun i j row x hi hj => ?_⟩
  · obtain ⟨u', h1, h2, _⟩ := hget j (by rw [← hvl]; exact (List.getElem?_eq_some_iff.1 hj).1)
    rw [h1] at hj; simp at hj; subst hj; exact h2
  · obtain ⟨j, hj, rfl⟩ := List.getElem_of_mem hu
    obtain ⟨u', h1, h2, h3⟩ := hget j (by rw [← hvl]; exact hj)
    simp [hj] at h1; rw [h1]; exact h3
  · obtain ⟨u, h1, h2, h3⟩ := hys i j row x hi hj
    have hi' : i < ys.length := (List.getElem?_eq_some_iff.1 hi).1
    have hj' : j < sz := by rw [← hal row (List.mem_of_getElem? hi)]; exact (List.getElem?_eq_some_iff.1 hj).1
    obtain ⟨u', q1, q2, q3⟩ := hget (i * sz + j) (mul_lt hi' hj')
    rw [h1] at q2; simp at q2; subst q2
    exact ⟨u, q1, h3, h2⟩
/-- Append to an empty slice without capacity. -/
theorem run_append_nil' (t ty e : TypeId) (i : TypeInfo) (z : Value) (ht : P.underlying t = some (.slice e)) (hi : P.info? e = some i) (hz : i.zero = some z) (A : Option Addr)
    (a : Addr) (n c : Nat) (news : List Value) (hl : news.length = n * i.size) (hnews : ∀ (j : Nat) v, news[j]? = some v → w.cell? (a.add j) = some v)
    (h0 : 0 < n) (h63 : (n : Int) ≤ 9223372036854775807) (h48 : n * i.bytes ≤ 140737488355328) :
    (Builtin.append_ #[t, t] ty #[.slice A 0 0, .slice (some a) n c]).run P w =
      .ok (.slice (some ⟨w.heap.size, 0, none⟩) n (grownCap w n 0 e)) (w.drew.alloc (.cells (news.toArray ++ Builtin.zeroCells z.cells (grownCap w n 0 e - n)) e)) := by
  cases A with
  | none => exact run_append_nil w t ty e i z ht hi hz a n c news hl hnews h0 h63 (by omega)
  | some b =>
    have := run_append_grow (P := P) w t ty e i z ht hi hz b 0 0 [] (by simp) (by simp) a n c news hl hnews (by omega) (by simpa using h63) (by
      rw [Nat.zero_add, nextslicecap_zero h0]; omega)
    simpa using this
/-- What is appended, as a value of the model, and what an append of it does. -/
structure Src (P : Program) (w : World) (X : Nat → Prop) (φ : Nat → Option Nat) (G : List Blk) (t t' e : TypeId) (te : Ty) (yv : Value) (ys : List (List AV)) : Prop where
  al : ∀ row ∈ ys, row.length = te.sz
  non : ys = [] → ∀ tyc A n c, n ≤ c → (Builtin.append_ #[t, t'] tyc #[.slice A n c, yv]).run P w = .ok (.slice A n c) w
  som : ys ≠ [] → ∃ news : List Value, news.length = ys.length * te.sz ∧ (∀ u ∈ news, u.oneCell' = true) ∧ (∀ (i j : Nat) row x, ys[i]? = some row → row[j]? = some x → ∃ u, news[i * te.sz + j]? = some u ∧ RV P w X φ G x u ∧ u.oneCell' = true) ∧
    (∀ tyc base v n xs, w.ownsRow base e te.sz v n xs → base ≤ w.heap.size → n + ys.length ≤ 1073741824 → ∃ v' w', (Builtin.append_ #[t, t'] tyc #[v, yv]).run P w = .ok v' w' ∧ w'.ownsRow base e te.sz v' (n + ys.length) (xs ++ news) ∧ w.grownBy w' v.ownBlock ∧ (v'.ownBlock = v.ownBlock ∨ v'.ownBlock = some w.heap.size)) ∧
    (∀ tyc A z, (P.info? e).bind (·.zero) = some z → ys.length ≤ 1073741824 → (Builtin.append_ #[t, t'] tyc #[.slice A 0 0, yv]).run P w = .ok (.slice (some ⟨w.heap.size, 0, none⟩) ys.length (grownCap w ys.length 0 e)) (w.drew.alloc (.cells (news.toArray ++ Builtin.zeroCells z.cells (grownCap w ys.length 0 e - ys.length)) e)))
theorem src_slice (hr : HR P w0 X w φ G) {t e : TypeId} {te : Ty} {y : AV} {ys : List (List AV)} {yv : Value} (hu : P.underlying t = some (.slice e)) (he : ty P e = some te) (h : elems G te.sz y = some ys) (hy : RV P w X φ G y yv) : Src P w X φ G t t e te yv ys := by
  obtain ⟨hal, A, c, hyv, _, hcell⟩ := elems_sound (P := P) (e := 0) (i := te) hr (ty_pos he) h hy
  obtain ⟨inf, z, d, pl, es, hinf, _, hz, hzs, hpos, _, hby, _, hte⟩ := (ty_is he).ex
  have hsz : te.sz = inf.size := by rw [hte, descTy_sz]
  refine ⟨hal, fun h0 tyc A' n' cap' hle => ?_, fun h0 => ?_⟩
  · subst h0
    rw [hyv]
    cases A' with
    | none => cases A <;> simp [Builtin.append_, run_underlying hu, sizeOf, typeInfo, hinf, Builtin.lenOf, Builtin.firstCells, hle, loadCells, loadCellsFrom]
    | some b => cases A <;> simp [Builtin.append_, run_underlying hu, sizeOf, typeInfo, hinf, Builtin.lenOf, Builtin.firstCells, hle, loadCells, loadCellsFrom, storeCells]
  · have hpos' : 0 < ys.length := by cases ys with | nil => simp at h0 | cons => simp
    obtain ⟨b, rfl, hcell2⟩ := hcell hpos'
    obtain ⟨vs, v1, v2, v3, v4⟩ := news_list (ty_pos he) hal hcell2
    have hb2 : ∀ n, n ≤ 1073741824 → n * inf.bytes ≤ 140737488355328 := fun n hn => by
      have : n * inf.bytes ≤ 1073741824 * 4096 := Nat.mul_le_mul hn hby
      omega
    refine ⟨vs, v1, v3, v4, fun tyc base v n xs hown hbase hle => ?_, fun tyc A0 z' hz' hle => ?_⟩
    · obtain ⟨v', w', k1, k2, k3, _, k5⟩ := run_append_own_at (P := P) w base t tyc e inf z te.sz inf.bytes hu hinf hz hsz.symm rfl (by rw [hzs, hsz]) (ty_pos he) v n xs hown b ys.length c vs v1 v2 v3 (by unfold maxLen; omega) (hb2 _ hle) hbase
      exact ⟨v', w', by rw [hyv]; exact k1, k2, k3, k5⟩
    · rw [hinf] at hz'
      simp only [Option.bind_some, hz, Option.some.injEq] at hz'
      subst hz'
      rw [hyv]
      exact run_append_nil' (P := P) (w := w) t tyc e inf z hu hinf hz A0 b ys.length c vs (by rw [v1, hsz]) v2 hpos' (by omega) (hb2 _ hle)
theorem bytes_get {b : ByteArray} {i : Nat} {row : List AV} (h : (bytesRows b)[i]? = some row) : ∃ c, b.data.toList[i]? = some c ∧ row = [.int .u8 c.toNat] := by
  simp only [bytesRows, List.getElem?_map, Option.map_eq_some_iff] at h
  obtain ⟨c, h1, h2⟩ := h
  exact ⟨c, h1, h2.symm⟩
theorem src_str {t u e : TypeId} {te : Ty} {s : ByteArray} (hu : P.underlying t = some (.slice e)) (hus : P.underlying u = some .string) (he : ty P e = some te) (h1 : te.sz = 1) : Src P w X φ G t u e te (.string s) (bytesRows s) := by
  obtain ⟨inf, z, d, pl, es, hinf, _, hz, hzs, hpos, _, hby, _, hte⟩ := (ty_is he).ex
  have hsz : inf.size = 1 := by have : te.sz = inf.size := by rw [hte, descTy_sz]
                                omega
  have hlen : (bytesRows s).length = s.size := by simp [bytesRows]
  have hsl := Lib.strCells_length s
  have hf := fun W => Lib.run_firstCells_string (P := P) W 1 s
  have hb2 : ∀ n, n ≤ 1073741824 → n * inf.bytes ≤ 140737488355328 := fun n hn => by
    have : n * inf.bytes ≤ 1073741824 * 4096 := Nat.mul_le_mul hn hby
    omega
  refine ⟨fun row hrow => ?_, fun h0 tyc A' n' cap' hle => ?_, fun h0 => ⟨Lib.strCells s, by rw [hlen, h1, hsl]; omega, Lib.strCells_oneCell s, fun i j row x hi hj => ?_, fun tyc base v n xs hown hbase hle => ?_, fun tyc A0 z' hz' hle => ?_⟩⟩
  · obtain ⟨i, hi⟩ := List.mem_iff_getElem?.1 hrow
    obtain ⟨c, _, rfl⟩ := bytes_get hi
    simp [h1]
  · have hs0 : s.size = 0 := by rw [← hlen, h0]; rfl
    have hs1 : Lib.strCells s = [] := List.eq_nil_of_length_eq_zero (by rw [hsl]; exact hs0)
    have hf0 := hf w
    rw [hs0, hs1] at hf0
    cases A' with
    | none => simp [Builtin.append_, run_underlying hu, run_underlying hus, sizeOf, typeInfo, hinf, hsz, Builtin.lenOf, hs0, hf0, hle]
    | some b => simp [Builtin.append_, run_underlying hu, run_underlying hus, sizeOf, typeInfo, hinf, hsz, Builtin.lenOf, hs0, hf0, hle, storeCells]
  · obtain ⟨c, hc, rfl⟩ := bytes_get hi
    have hj0 : j = 0 := by cases j with | zero => rfl | succ j => simp at hj
    subst hj0
    simp at hj
    subst hj
    refine ⟨.int .u8 c.toNat, ?_, .ro .int, rfl⟩
    rw [h1]
    simp only [Nat.mul_one, Nat.add_zero, Lib.strCells, List.getElem?_map]
    rw [hc]; rfl
  · rw [h1] at hown ⊢
    rw [hlen] at hle ⊢
    have hxl : xs.length = n := by simpa using hown.1
    have hs0 : s.size ≠ 0 := fun e => h0 (List.eq_nil_of_length_eq_zero (by rw [hlen]; exact e))
    have hl2 : (xs ++ Lib.strCells s).length = (n + s.size) * 1 := by rw [List.length_append, hxl, hsl, Nat.mul_one]
    have grown : ∀ (old : Nat), old < n + s.size → ∀ (row : Option Nat),
        (w.drew.alloc (.cells (xs.toArray ++ (Lib.strCells s).toArray ++ Builtin.zeroCells z.cells (grownCap w (n + s.size) old e - (n + s.size))) e)).ownsRow base e 1
          (.slice (some ⟨w.heap.size, 0, none⟩) (n + s.size) (grownCap w (n + s.size) old e)) (n + s.size) (xs ++ Lib.strCells s) ∧
        w.grownBy (w.drew.alloc (.cells (xs.toArray ++ (Lib.strCells s).toArray ++ Builtin.zeroCells z.cells (grownCap w (n + s.size) old e - (n + s.size))) e)) row := by
      intro old ho row
      have hge := grownCap_ge w (n + s.size) old e
      have hcm : grownCap w (n + s.size) old e ≤ maxLen := grownCap_le_maxLen w (n + s.size) old e (by unfold maxLen; omega)
      refine ⟨⟨hl2, .inr ⟨w.heap.size, _, _, rfl, hbase, heap_alloc_new w.drew _, hge, hcm, ?_, ?_⟩⟩, ⟨rfl, rfl, rfl, by simp, fun k hk _ => heap_alloc_old w.drew _ hk⟩⟩
      · simp only [Array.size_append, List.size_toArray, size_zeroCells, hzs, hsz, hxl, hsl]
        omega
      · simp only [Array.toList_append, List.append_assoc]
        rw [← List.append_assoc, ← hl2]
        exact List.take_left
    rcases hown.2 with ⟨rfl, rfl⟩ | ⟨g, cap, cur, rfl, hbg, hg, hnc, hcm, hcs, htake⟩
    · have hx : xs = [] := List.eq_nil_of_length_eq_zero hxl
      subst hx
      have hr := run_append_nil_string (P := P) w t u tyc e inf z hu hus hinf hz s (by omega) (by omega) (by have := hb2 s.size (by omega); omega)
      have hgr := grown 0 (by omega) (Value.ownBlock (.slice none 0 0))
      simp only [Nat.zero_add, List.nil_append, Array.empty_append] at hgr ⊢
      have e1 : (s.data.map fun b => Value.int .u8 b.toNat) = (Lib.strCells s).toArray := by
        apply Array.ext'
        simp [Lib.strCells]
      rw [e1] at hr
      exact ⟨_, _, hr, hgr.1, hgr.2, .inr rfl⟩
    · by_cases hroom : n + s.size ≤ cap
      · have hcs' : cur.size = cap := by simpa using hcs
        have hr := Lib.run_append_room_string (P := P) w t u tyc e inf hu hus hinf hsz g n cap cur hg s hroom (by omega)
        refine ⟨_, _, hr, ⟨hl2, .inr ⟨g, cap, _, rfl, hbg, setRow_heap w g cur _ e _ hg, hroom, hcm, ?_, ?_⟩⟩, ⟨rfl, rfl, rfl, by simp, fun k _ hk => setRow_other w g k _ (fun e => hk (by simp [Value.ownBlock, e]))⟩, .inl rfl⟩
        · simp only [List.size_toArray, List.length_append, List.length_take, List.length_drop, Array.length_toList, hsl]
          omega
        · have ht' : cur.toList.take n = xs := by simpa using htake
          rw [ht', ← hl2]
          exact List.take_left
      · have holds : ∀ (j : Nat) u, xs[j]? = some u → w.cell? ((⟨g, 0, none⟩ : Addr).add j) = some u := hown.cells (g := g) rfl
        have hr := Lib.run_append_grow_string (P := P) w t u tyc e inf z hu hus hinf hz ⟨g, 0, none⟩ n cap xs (by rw [hsz]; simpa using hxl) holds s (by omega) (by omega) (growslice_fits (by omega) (hb2 _ hle))
        have hgr := grown cap (by omega) (Value.ownBlock (.slice (some ⟨g, 0, none⟩) n cap))
        exact ⟨_, _, hr, hgr.1, hgr.2, .inr rfl⟩
  · rw [hinf] at hz'
    simp only [Option.bind_some, hz, Option.some.injEq] at hz'
    subst hz'
    rw [hlen] at hle ⊢
    have hs0 : s.size ≠ 0 := fun e => h0 (List.eq_nil_of_length_eq_zero (by rw [hlen]; exact e))
    cases A0 with
    | none =>
      have hr := run_append_nil_string (P := P) w t u tyc e inf z hu hus hinf hz s (by omega) (by omega) (by have := hb2 s.size (by omega); omega)
      have e1 : (s.data.map fun b => Value.int .u8 b.toNat) = (Lib.strCells s).toArray := by
        apply Array.ext'
        simp [Lib.strCells]
      rw [e1] at hr
      exact hr
    | some b =>
      have hr := Lib.run_append_grow_string (P := P) w t u tyc e inf z hu hus hinf hz b 0 0 [] (by simp) (by simp) s (by omega) (by omega) (by rw [Nat.zero_add]; have := nextslicecap_zero (show 0 < s.size by omega); rw [this]; have := hb2 s.size (by omega); omega)
      simpa using hr
/-- What an append does, whatever it appends to: a nil slice, or one of the call's own. -/
theorem append_core (hr : HR P w0 X w φ G) {t t' id n e m : Nat} {te : Ty} {nb : Bool} {rows ys : List (List AV)} {v yv : Value} {tyc : Nat} (hu : P.underlying t = some (.slice e)) (he : ty P e = some te)
    (hb : G[id]? = some (.row e nb rows)) (hn : rows.length = n) (hv : (v = .slice none 0 0 ∧ n = 0 ∧ φ id = none) ∨ RV P w X φ G (.os id n) v ∧ ∃ g cap, φ id = some g ∧ v = .slice (some ⟨g, 0, none⟩) n cap) (hm : ys.length = m) (hm0 : 0 < m) (hsm : n + m ≤ 1073741824)
    (hS : Src P w X φ G t t' e te yv ys) :
    ∃ v' w' c', (Builtin.append_ #[t, t'] tyc #[v, yv]).run P w = .ok v' w' ∧ HR P w0 X w' (setφ φ id c') (G.set id (.row e nb (rows ++ ys))) ∧ Turn w φ G w' (setφ φ id c') (G.set id (.row e nb (rows ++ ys))) ∧
      RV P w' X (setφ φ id c') (G.set id (.row e nb (rows ++ ys))) (.os id (n + m)) v' := by
  obtain ⟨inf, z, d, pl, es, hi, hud, hz, hzs, hpos, hone, hby, _, hte⟩ := (ty_is he).ex
  have hsz : te.sz = inf.size := by rw [hte, descTy_sz]
  have hce : P.cellsOf e = te.sz := ty_cells he
  have hid : id < G.length := (List.getElem?_eq_some_iff.1 hb).1
  -- the values that are appended
  have hal := hS.al
  obtain ⟨vs, hvl0, hv1, hys, hruns, _⟩ := hS.som fun e => by subst e; simp at hm; omega
  have hvl : vs.length = m * inf.size := by rw [hvl0, hm, hsz]
  have hbyt : (n + m) * inf.bytes ≤ 140737488355328 := by
    have : (n + m) * inf.bytes ≤ 1073741824 * 4096 := Nat.mul_le_mul hsm hby
    omega
  obtain ⟨xs, hown, hxs⟩ : ∃ xs, w.ownsRow w0.heap.size e inf.size v n xs ∧ ∀ (i j : Nat) row x, rows[i]? = some row → row[j]? = some x → ∃ u, xs[i * te.sz + j]? = some u ∧ u.oneCell' = true ∧ RV P w X φ G x u := by
    rcases hv with ⟨rfl, rfl, _⟩ | ⟨hv, g, cap, hg, rfl⟩
    · refine ⟨[], World.ownsRow_nil w _ e _, fun i j row x hi _ => ?_⟩
      have hnil : rows = [] := List.eq_nil_of_length_eq_zero hn
      subst hnil
      simp at hi
    · cases hv with
      | ro h => cases h
      | os g0 hid hv =>
        rcases (hv e nb rows hb).2 hn.symm with ⟨_, h2, _⟩ | ⟨c2, cap2, cur, h4, h45, h5, h6, h7, h8⟩
        · rw [hg] at h2; simp at h2
        · simp at h45
          obtain ⟨rfl, rfl⟩ := h45
          obtain ⟨cur', k1, k2, k3, k4⟩ := hr.blk id _ g hb hg
          rw [h5] at k1
          simp at k1
          subst k1
          have hle : n * te.sz ≤ cur.size := by rw [hce, hn] at k3; exact k3
          refine ⟨cur.toList.take (n * inf.size), ⟨by simp; rw [← hsz]; omega, .inr ⟨g, cap, cur, rfl, (hr.own id g hg).1, h5, h8, h7, by rw [h6, hce, hsz], rfl⟩⟩, fun i j row x hi hj => ?_⟩
          have hi' : i < rows.length := (List.getElem?_eq_some_iff.1 hi).1
          have hj' : j < te.sz := by rw [← hce, ← k2 row (List.mem_of_getElem? hi)]; exact (List.getElem?_eq_some_iff.1 hj).1
          have hlt := mul_lt hi' hj'
          rw [hn] at hlt
          obtain ⟨q1, q2⟩ := k4 i j row x (cur[i * te.sz + j]'(by omega)) hi hj (by rw [hce]; simp)
          refine ⟨cur[i * te.sz + j]'(by omega), ?_, q2, q1⟩
          rw [List.getElem?_take, ← hsz, if_pos hlt]
          simp
  obtain ⟨v', w', hrun, hown', hgrow, hblk⟩ := hruns tyc w0.heap.size v n xs (by rw [hsz]; exact hown) hr.fr.size (by rw [hm]; exact hsm)
  rw [hm, hsz] at hown'
  -- the block behind it
  obtain ⟨g', cap', cur', rfl, hbase', hg', hnc', hcm', hcs', htake'⟩ : ∃ g' cap' cur', v' = .slice (some ⟨g', 0, none⟩) (n + m) cap' ∧ w0.heap.size ≤ g' ∧ w'.heap[g']? = some (.cells cur' e (0, 0)) ∧ n + m ≤ cap' ∧ cap' ≤ maxLen ∧ cur'.size = cap' * inf.size ∧ cur'.toList.take ((n + m) * inf.size) = xs ++ vs := by
    rcases hown'.2 with ⟨_, h⟩ | h
    · omega
    · exact h
  have hold : ∀ k, k < w.heap.size → (∀ g, φ id = some g → k ≠ g) → w'.heap[k]? = w.heap[k]? := fun k hk hne => by
    refine hgrow.block k hk fun e => ?_
    rcases hv with ⟨rfl, _, _⟩ | ⟨_, g, cap, hg, rfl⟩
    · simp [Value.ownBlock] at e
    · simp [Value.ownBlock] at e
      exact hne g hg e
  have hg'n : φ id = some g' ∨ g' = w.heap.size := by
    rcases hblk with h | h
    · rcases hv with ⟨rfl, _, _⟩ | ⟨_, g, cap, hg, rfl⟩
      · simp [Value.ownBlock] at h
      · simp [Value.ownBlock] at h
        rw [h]; exact .inl hg
    · simp [Value.ownBlock] at h
      exact .inr h
  have hg'other : ∀ i c, i ≠ id → φ i = some c → c ≠ g' := fun i c hne hc e => by
    rcases hg'n with h | h
    · exact hne (hr.inj i id c hc (by rw [e]; exact h))
    · have := (hr.own i c hc).2.1; omega
  have hset : ∀ i, i ≠ id → (G.set id (.row e nb (rows ++ ys)))[i]? = G[i]? := fun i hne => List.getElem?_set_ne (fun h => hne h.symm)
  have hself : (G.set id (.row e nb (rows ++ ys)))[id]? = some (.row e nb (rows ++ ys)) := by rw [List.getElem?_set]; simp [hid]
  have hT : Turn w φ G w' (setφ φ id g') (G.set id (.row e nb (rows ++ ys))) := {
    size := hgrow.size
    len := by simp
    old := fun b hb' hl => ⟨hold b hl (fun g hg e => hb' id (by rw [e]; exact hg)), fun i hi => by
      unfold setφ at hi
      split at hi
      · simp at hi
        rcases hg'n with h | h
        · exact hb' id (by rw [h, hi])
        · omega
      · exact hb' i hi⟩
    box := fun i t' cs' _ h => by
      by_cases hi : i = id
      · subst hi; rw [hself] at h; simp at h
      · rw [hset i hi] at h; exact ⟨cs', h, fun c hc => by simp [setφ, hi, hc]⟩
    row := fun i e' nb' rows' _ h => by
      by_cases hi : i = id
      · subst hi
        rw [hself] at h
        simp at h
        obtain ⟨rfl, rfl, rfl⟩ := h
        exact ⟨rows, hb, by simp, fun hl => by simp at hl; subst hl; simp at hm; omega⟩
      · rw [hset i hi] at h
        refine ⟨rows', h, Nat.le_refl _, fun _ => ⟨fun _ hp => by simp [setφ, hi, hp], fun c hc => ⟨by simp [setφ, hi, hc], fun cur hcur => ⟨cur, ?_, rfl⟩⟩⟩⟩
        rw [hold c (hr.own i c hc).2.1 (fun g hg e => hi (hr.inj i id c hc (by rw [e]; exact hg)))]
        exact hcur
    map := fun i es' _ h => by
      by_cases hi : i = id
      · subst hi; rw [hself] at h; simp at h
      · rw [hset i hi] at h; exact ⟨es', h, fun c hc => ⟨by simp [setφ, hi, hc], bornK_same (hold c (hr.own i c hc).2.1 (fun g hg e => hi (hr.inj i id c hc (by rw [e]; exact hg))))⟩⟩
    iter := fun i m n s' _ h => by
      by_cases hi : i = id
      · subst hi; rw [hself] at h; simp at h
      · rw [hset i hi] at h; exact ⟨m, n, s', h, fun c hc => by simp [setφ, hi, hc]⟩ }
  have hg'lt : g' < w'.heap.size := (Array.getElem?_eq_some_iff.1 hg').1
  refine ⟨_, w', g', hrun, ⟨hr.vo, ?_, ext_turn hr hT, fun i c hc => ?_, fun i j c hi hj => ?_, fun i b c hi hc => ?_⟩, hT, .os rfl (by simp; exact hid) fun e2 nb2 rows2 h2 => ?_⟩
  · refine hr.fr.grown hgrow hr.fr.size fun k hk => ?_
    rcases hv with ⟨rfl, _, _⟩ | ⟨_, g, cap, hg, rfl⟩
    · simp [Value.ownBlock] at hk
    · simp [Value.ownBlock] at hk
      have := (hr.own id g hg).1; omega
  · unfold setφ at hc
    split at hc
    · rename_i hi
      simp at hc
      subst hc hi
      exact ⟨hbase', hg'lt, by simp; exact hid⟩
    · have := hr.own i c hc
      have := hgrow.size
      simp; omega
  · unfold setφ at hi hj
    split at hi <;> split at hj
    · subst_vars; rfl
    · rename_i h1 h2; simp at hi; subst hi; exact absurd rfl (hg'other j _ h2 hj)
    · rename_i h1 h2; simp at hj; subst hj; exact absurd rfl (hg'other i _ h1 hi)
    · exact hr.inj i j c hi hj
  · by_cases h : i = id
    · subst h
      rw [hself] at hi
      simp at hi
      subst hi
      simp [setφ] at hc
      subst hc
      refine ⟨cur', hg', ?_, ?_, fun i' j row x u h1 h2 h3 => ?_⟩
      · intro row hrow
        rw [List.mem_append] at hrow
        rcases hrow with h | h
        · rcases hv with ⟨_, h0, _⟩ | ⟨_, g, cap, hg, _⟩
          · rw [h0] at hn; rw [List.eq_nil_of_length_eq_zero hn] at h; simp at h
          · obtain ⟨_, _, k2, _⟩ := hr.blk _ _ g hb hg
            exact k2 row h
        · rw [hce]; exact hal row h
      · rw [hce, hsz, hcs', List.length_append, hn, hm]; exact Nat.mul_le_mul_right _ hnc'
      · rw [hce] at h3
        have hxl : xs.length = n * te.sz := by rw [hown.1, hsz]
        have hi' : i' < n + m := by have := (List.getElem?_eq_some_iff.1 h1).1; simp at this; omega
        have hjl : j < te.sz := by
          have hj := (List.getElem?_eq_some_iff.1 h2).1
          have hmem := List.mem_of_getElem? h1
          rw [List.mem_append] at hmem
          rcases hmem with hmem | hmem
          · rcases hv with ⟨_, h0, _⟩ | ⟨_, g, cap, hg, _⟩
            · rw [h0] at hn; rw [List.eq_nil_of_length_eq_zero hn] at hmem; simp at hmem
            · obtain ⟨_, _, k2, _⟩ := hr.blk _ _ g hb hg
              rw [← hce, ← k2 row hmem]; exact hj
          · rw [← hal row hmem]; exact hj
        have hlt := mul_lt hi' hjl
        have h4 : (xs ++ vs)[i' * te.sz + j]? = some u := by
          rw [← htake', List.getElem?_take, ← hsz, if_pos hlt]
          simpa using h3
        by_cases hin : i' < n
        · rw [List.getElem?_append_left (by omega)] at h1
          have h5 := mul_lt hin hjl
          rw [List.getElem?_append_left (by omega)] at h4
          obtain ⟨u', q1, q2, q3⟩ := hxs i' j row x h1 h2
          rw [q1] at h4
          simp at h4
          subst h4
          exact ⟨q3.turn hT, q2⟩
        · rw [List.getElem?_append_right (by omega), hn] at h1
          have h5 : n * te.sz ≤ i' * te.sz := Nat.mul_le_mul_right _ (by omega)
          rw [List.getElem?_append_right (by omega), hxl] at h4
          obtain ⟨u', q1, q2, q3⟩ := hys (i' - n) j row x h1 h2
          rw [show i' * te.sz + j - n * te.sz = (i' - n) * te.sz + j by rw [Nat.sub_mul]; omega] at h4
          rw [q1] at h4
          simp at h4
          subst h4
          exact ⟨q2.turn hT, q3⟩
    · rw [hset i h] at hi
      have hc' : φ i = some c := by simpa [setφ, h] using hc
      exact (hr.blk i b c hi hc').turn hT (hold c (hr.own i c hc').2.1 (fun g hg e => h (hr.inj i id c hc' (by rw [e]; exact hg))))
  · rw [hself] at h2
    simp at h2
    obtain ⟨rfl, rfl, rfl⟩ := h2
    exact ⟨by simp; omega, fun _ => .inr ⟨g', cap', cur', by simp [setφ], rfl, hg', by rw [hcs', hce, hsz], hcm', hnc'⟩⟩
theorem append_core2 (hr : HR P w0 X w φ G) {t t' id n e m : Nat} {te : Ty} {nb : Bool} {rows ys : List (List AV)} {v yv : Value} {tyc : Nat} (hu : P.underlying t = some (.slice e)) (he : ty P e = some te)
    (hb : G[id]? = some (.row e nb rows)) (hn : rows.length = n) (hv : ((∃ A, v = .slice A 0 0) ∧ n = 0 ∧ φ id = none) ∨ RV P w X φ G (.os id n) v ∧ ∃ g cap, φ id = some g ∧ v = .slice (some ⟨g, 0, none⟩) n cap) (hm : ys.length = m) (hm0 : 0 < m) (hsm : n + m ≤ 1073741824)
    (hS : Src P w X φ G t t' e te yv ys) :
    ∃ v' w' c', (Builtin.append_ #[t, t'] tyc #[v, yv]).run P w = .ok v' w' ∧ HR P w0 X w' (setφ φ id c') (G.set id (.row e nb (rows ++ ys))) ∧ Turn w φ G w' (setφ φ id c') (G.set id (.row e nb (rows ++ ys))) ∧
      RV P w' X (setφ φ id c') (G.set id (.row e nb (rows ++ ys))) (.os id (n + m)) v' := by
  rcases hv with ⟨⟨A, rfl⟩, h0, hφ⟩ | hv
  · obtain ⟨inf, z, d, pl, es, hinf, _, hz, hzs, hpos, _, hby, _, hte⟩ := (ty_is he).ex
    obtain ⟨news, _, _, _, _, e1⟩ := hS.som fun e => by subst e; simp at hm; omega
    have e2 := fun A => e1 tyc A z (by rw [hinf]; exact hz) (by omega)
    obtain ⟨v', w', c', k1, k2⟩ := append_core (tyc := tyc) (v := .slice none 0 0) hr hu he hb hn (.inl ⟨rfl, h0, hφ⟩) hm hm0 hsm hS
    exact ⟨v', w', c', (e2 A).trans ((e2 none).symm.trans k1), k2⟩
  · exact append_core hr hu he hb hn (.inr hv) hm hm0 hsm hS
/-! Windows. -/
theorem putR_len {rows ys : List (List AV)} {k : Nat} (h : k + ys.length ≤ rows.length) : (putR rows k ys).length = rows.length := by simp [putR]; omega
theorem putR_get {rows ys : List (List AV)} {k i : Nat} {row : List AV} (h : k + ys.length ≤ rows.length) (hr : (putR rows k ys)[i]? = some row) :
    (i < k ∧ rows[i]? = some row) ∨ (k ≤ i ∧ i < k + ys.length ∧ ys[i - k]? = some row) ∨ (k + ys.length ≤ i ∧ rows[i]? = some row) := by
  unfold putR at hr
  simp only [List.append_assoc] at hr
  by_cases h1 : i < k
  · rw [List.getElem?_append_left (by simp; omega), List.getElem?_take, if_pos h1] at hr
    exact .inl ⟨h1, hr⟩
  · have e : (rows.take k).length = k := by simp; omega
    rw [List.getElem?_append_right (by omega), e] at hr
    by_cases h2 : i < k + ys.length
    · rw [List.getElem?_append_left (by omega)] at hr
      exact .inr (.inl ⟨by omega, h2, hr⟩)
    · rw [List.getElem?_append_right (by omega), List.getElem?_drop] at hr
      exact .inr (.inr ⟨by omega, by rw [← hr]; congr 1; omega⟩)
/-- Elements of an own block are written over. -/
theorem put_sound (hr : HR P w0 X w φ G) {id c e k sz : Nat} {nb : Bool} {rows ys : List (List AV)} {cur : Array Value} {vs : List Value} (hb : G[id]? = some (.row e nb rows)) (hφ : φ id = some c) (hc : w.heap[c]? = some (.cells cur e (0, 0)))
    (hce : P.cellsOf e = sz) (hk : k + ys.length ≤ rows.length) (hl : vs.length = ys.length * sz) (h1 : ∀ u ∈ vs, u.oneCell' = true) (hal : ∀ row ∈ ys, row.length = sz)
    (hv : ∀ (i j : Nat) row x, ys[i]? = some row → row[j]? = some x → ∃ u, vs[i * sz + j]? = some u ∧ RV P w X φ G x u ∧ u.oneCell' = true) :
    (storeCells ⟨c, k * sz, none⟩ vs).run P w = .ok () (w.setRow c (cur.toList.take (k * sz) ++ vs ++ cur.toList.drop (k * sz + vs.length)).toArray) ∧
      HR P w0 X (w.setRow c (cur.toList.take (k * sz) ++ vs ++ cur.toList.drop (k * sz + vs.length)).toArray) φ (G.set id (.row e nb (putR rows k ys))) ∧
      Turn w φ G (w.setRow c (cur.toList.take (k * sz) ++ vs ++ cur.toList.drop (k * sz + vs.length)).toArray) φ (G.set id (.row e nb (putR rows k ys))) := by
  subst hce
  obtain ⟨cur', g1, hall, hsz, hcur⟩ := hr.blk id _ c hb hφ
  rw [hc] at g1
  simp at g1
  subst g1
  have hin : k * P.cellsOf e + vs.length ≤ cur.size := by
    have : (k + ys.length) * P.cellsOf e ≤ rows.length * P.cellsOf e := Nat.mul_le_mul_right _ hk
    rw [Nat.add_mul] at this; omega
  have hst := run_storeCells_at P c (k * P.cellsOf e) e vs 0 cur w hc (by omega) h1
  simp only [Nat.add_zero] at hst
  have hsh : Shape (.row e nb rows) (.row e nb (putR rows k ys)) := ⟨fun _ _ e => (by cases e), fun e' nb' rows' e2 => (by cases e2; exact ⟨rows, rfl, (putR_len hk).symm⟩), fun _ e => (by cases e)⟩
  have hT := turn_setRow hr (b' := .row e nb (putR rows k ys)) (cur' := (cur.toList.take (k * P.cellsOf e) ++ vs ++ cur.toList.drop (k * P.cellsOf e + vs.length)).toArray) hb hφ hsh hc (by simp; omega)
  refine ⟨hst, hr_setRow hr hb hφ hsh hc (by simp; omega) ⟨_, setRow_heap w c _ _ _ _ hc, ?_, by rw [putR_len hk]; simp; omega, fun i j row x u hr' hx hu => ?_⟩, hT⟩
  · intro row hm
    unfold putR at hm
    rcases List.mem_append.1 hm with hm | hm
    · rcases List.mem_append.1 hm with hm | hm
      · exact hall row (List.mem_of_mem_take hm)
      · exact hal row hm
    · exact hall row (List.mem_of_mem_drop hm)
  · have hA := overA hin hu
    rcases putR_get hk hr' with ⟨q1, q2⟩ | ⟨q1, q2, q3⟩ | ⟨q1, q2⟩
    · have hj : j < P.cellsOf e := by rw [← hall row (List.mem_of_getElem? q2)]; exact (List.getElem?_eq_some_iff.1 hx).1
      have := mul_lt (s := P.cellsOf e) q1 hj
      rcases hA with ⟨_, s2⟩ | ⟨s1, _⟩ | ⟨s1, _⟩
      · exact ⟨(hcur i j row x u q2 hx s2).1.turn hT, (hcur i j row x u q2 hx s2).2⟩
      · omega
      · omega
    · have hj : j < P.cellsOf e := by rw [← hal row (List.mem_of_getElem? q3)]; exact (List.getElem?_eq_some_iff.1 hx).1
      have e1 : i * P.cellsOf e + j = k * P.cellsOf e + ((i - k) * P.cellsOf e + j) := by
        rw [← Nat.add_assoc, ← Nat.add_mul]; congr 2; omega
      have := mul_lt (i := i - k) (n := ys.length) (s := P.cellsOf e) (by omega) hj
      rw [e1] at hA
      rcases hA with ⟨s1, _⟩ | ⟨_, _, s2⟩ | ⟨s1, _⟩
      · omega
      · rw [Nat.add_sub_cancel_left] at s2
        obtain ⟨u', r1, r2, r3⟩ := hv (i - k) j row x q3 hx
        rw [r1] at s2
        simp at s2
        subst s2
        exact ⟨r2.turn hT, r3⟩
      · omega
    · have hj : j < P.cellsOf e := by rw [← hall row (List.mem_of_getElem? q2)]; exact (List.getElem?_eq_some_iff.1 hx).1
      have : (k + ys.length) * P.cellsOf e ≤ i * P.cellsOf e := Nat.mul_le_mul_right _ q1
      rw [Nat.add_mul] at this
      rcases hA with ⟨s1, _⟩ | ⟨_, s1, _⟩ | ⟨_, s2⟩
      · omega
      · omega
      · exact ⟨(hcur i j row x u q2 hx s2).1.turn hT, (hcur i j row x u q2 hx s2).2⟩
theorem RV.any_rv {v : Value} : RV P w X φ G .any v := .ro .any
/-- Append within a window's room. -/
theorem append_win (hr : HR P w0 X w φ G) {t id n lo hi e : Nat} {te : Ty} {nb : Bool} {rows ys : List (List AV)} {y : AV} {v yv : Value} {tyc : Nat} (hu : P.underlying t = some (.slice e)) (he : ty P e = some te)
    (hb : G[id]? = some (.row e nb rows)) (hn : rows.length = n) (hle : hi + ys.length ≤ n) (hv : RV P w X φ G (.ow id n lo hi) v) (hel : elems G te.sz y = some ys) (hy : RV P w X φ G y yv) :
    ∃ v' w', (Builtin.append_ #[t, t] tyc #[v, yv]).run P w = .ok v' w' ∧ HR P w0 X w' φ (G.set id (.row e nb (putR rows hi ys))) ∧ Turn w φ G w' φ (G.set id (.row e nb (putR rows hi ys))) ∧
      RV P w' X φ (G.set id (.row e nb (putR rows hi ys))) (.ow id n lo (hi + ys.length)) v' ∧ φ id ≠ none := by
  obtain ⟨hal, A', c', hyv, _, hcell⟩ := elems_sound (P := P) (e := 0) (i := te) hr (ty_pos he) hel hy
  obtain ⟨inf, z, d, pl, es, hinf, _, hz, hzs, hpos, _, hby, _, hte⟩ := (ty_is he).ex
  have hsz : te.sz = inf.size := by rw [hte, descTy_sz]
  have hce : P.cellsOf e = te.sz := ty_cells he
  have hv0 := hv
  cases hv with
  | ro h => cases h
  | ow g0 hid hv =>
    obtain ⟨A, c, cap, cur, h4, rfl, hA, h5, h6, h7, h8, h9, h10⟩ := (hv e nb rows hb).2 hn.symm
    by_cases h0 : ys = []
    · subst h0
      have hsame : G.set id (.row e nb (putR rows hi [])) = G := by
        have : putR rows hi [] = rows := by simp [putR]
        rw [this]; exact set_self hb
      rw [hsame]
      refine ⟨_, w, ?_, hr, Turn.refl _ _ _, hv0, by rw [h4]; simp⟩
      rw [hyv]
      have hroom : hi - lo ≤ cap - lo := by omega
      cases A with
      | none => cases A' <;> simp [Builtin.append_, run_underlying hu, sizeOf, typeInfo, hinf, Builtin.lenOf, Builtin.firstCells, hroom, loadCells, loadCellsFrom]
      | some b => cases A' <;> simp [Builtin.append_, run_underlying hu, sizeOf, typeInfo, hinf, Builtin.lenOf, Builtin.firstCells, hroom, loadCells, loadCellsFrom, storeCells]
    · have hpos' : 0 < ys.length := by cases ys with | nil => simp at h0 | cons => simp
      obtain ⟨b, rfl, hcell2⟩ := hcell hpos'
      obtain ⟨vs, v1, v2, v3, v4⟩ := news_list (ty_pos he) hal hcell2
      obtain rfl := hA (by omega)
      obtain ⟨k1, k2, k3⟩ := put_sound hr (sz := te.sz) (k := hi) (ys := ys) (vs := vs) hb h4 h5 hce (by omega) v1 v3 hal v4
      refine ⟨.slice (some ⟨c, lo * P.cellsOf e, none⟩) (hi + ys.length - lo) (cap - lo), _, ?_, k2, k3, .ow rfl (by simp; exact hid) fun e' nb' rows' hb' => ?_, by rw [h4]; simp⟩
      · rw [hyv]
        have hfc := run_firstCells_some (P := P) w inf.size ys.length b ys.length c' vs (by rw [v1, hsz]) v2
        have hroom : hi - lo + ys.length ≤ cap - lo := by omega
        have hadd : (Addr.mk c (lo * P.cellsOf e) none).add ((hi - lo) * inf.size) = ⟨c, hi * te.sz, none⟩ := by
          rw [add_noneA, hce, hsz, ← Nat.add_mul]; congr 2; omega
        simp only [Builtin.append_]
        simp [run_underlying hu, sizeOf, typeInfo, hinf, Builtin.lenOf, hroom, hfc, hadd, k1]
        omega
      · rw [List.getElem?_set] at hb'
        simp at hb'
        obtain ⟨hlt, rfl, rfl, rfl⟩ := hb'
        rw [putR_len (by omega)]
        exact ⟨by omega, fun _ => ⟨_, c, cap, _, h4, rfl, fun _ => rfl, setRow_heap w c _ _ _ _ h5, by
          have : hi * te.sz + vs.length ≤ cur.size := by
            have h' : (hi + ys.length) * te.sz ≤ cap * te.sz := Nat.mul_le_mul_right _ (by omega)
            rw [Nat.add_mul] at h'
            rw [h6, hce]; omega
          simp; omega, h7, h8, by omega, by omega⟩⟩
/-- A copy into a row of the call's own. -/
theorem copy_at (hr : HR P w0 X w φ G) {t id n lo m e c cap cur} {te : Ty} {nb : Bool} {rows ys : List (List AV)} {y : AV} {A : Option Addr} {dc : Nat} {yv : Value} {tyc : Nat} (hu : P.underlying t = some (.slice e)) (he : ty P e = some te)
    (hb : G[id]? = some (.row e nb rows)) (hn : rows.length = n) (hle : lo + m ≤ n) (h4 : φ id = some c) (h6 : w.heap[c]? = some (.cells cur e (0, 0))) (h7 : cur.size = cap * P.cellsOf e) (h8 : n ≤ cap) (hA : 0 < m → A = some ⟨c, lo * P.cellsOf e, none⟩) (hel : elems G te.sz y = some ys) (hy : RV P w X φ G y yv) :
    ∃ w', (Builtin.copy_ #[t, t] tyc #[.slice A m dc, yv]).run P w = .ok (goInt (min ys.length m : Nat)) w' ∧ HR P w0 X w' φ (G.set id (.row e nb (putR rows lo (ys.take m)))) ∧ Turn w φ G w' φ (G.set id (.row e nb (putR rows lo (ys.take m)))) := by
  obtain ⟨hal, A', c', hyv, _, hcell⟩ := elems_sound (P := P) (e := 0) (i := te) hr (ty_pos he) hel hy
  obtain ⟨inf, z, d, pl, es, hinf, _, hz, hzs, hpos, _, hby, _, hte⟩ := (ty_is he).ex
  have hsz : te.sz = inf.size := by rw [hte, descTy_sz]
  have hce : P.cellsOf e = te.sz := ty_cells he
  by_cases h0 : min ys.length m = 0
  · have h1 : ys.take m = [] := by
      rw [← List.length_eq_zero_iff, List.length_take]; omega
    have hsame : G.set id (.row e nb (putR rows lo (ys.take m))) = G := by
      rw [h1]
      have : putR rows lo [] = rows := by simp [putR]
      rw [this]; exact set_self hb
    rw [hsame]
    refine ⟨w, ?_, hr, Turn.refl _ _ _⟩
    rw [hyv, h0]
    have h2 : Nat.min ys.length m = 0 := h0
    cases A <;> cases A' <;> simp [Builtin.copy_, run_underlying hu, sizeOf, typeInfo, hinf, Builtin.lenOf, Builtin.firstCells, h2, loadCells, loadCellsFrom, storeCells]
  · have hk : (ys.take m).length = min ys.length m := by rw [List.length_take]; omega
    obtain ⟨b, rfl, hcell2⟩ := hcell (by omega)
    obtain rfl := hA (by omega)
    have hal2 : ∀ row ∈ ys.take m, row.length = te.sz := fun row hrow => hal row (List.mem_of_mem_take hrow)
    have hget : ∀ (i : Nat) row, (ys.take m)[i]? = some row → ys[i]? = some row := fun i row h => by
      rw [List.getElem?_take] at h
      split at h
      · exact h
      · simp at h
    obtain ⟨vs, v1, v2, v3, v4⟩ := news_list (P := P) (w := w) (X := X) (φ := φ) (G := G) (ys := ys.take m) (b := b) (ty_pos he) hal2 fun i j row x h1 h2 => hcell2 i j row x (hget i row h1) h2
    obtain ⟨k1, k2, k3⟩ := put_sound hr (sz := te.sz) (k := lo) (ys := ys.take m) (vs := vs) hb h4 h6 hce (by rw [hk]; omega) v1 v3 hal2 v4
    refine ⟨_, ?_, k2, k3⟩
    rw [hyv]
    have hfc := run_firstCells_some (P := P) w inf.size (min ys.length m) b ys.length c' vs (by rw [v1, hsz, hk]) v2
    have h2 : Nat.min ys.length m = min ys.length m := rfl
    rw [hce]
    simp only [Builtin.copy_]
    simp [run_underlying hu, sizeOf, typeInfo, hinf, Builtin.lenOf, h2, hfc, k1]
/-- The cells of zeros, one after the other. -/
theorem zeros_get {z : Value} {te : Ty} {m : Nat} (hzs : z.cells.size = te.sz) (hp : 0 < te.sz) {i j : Nat} (hi : i < m) (hj : j < te.sz) : (Builtin.zeroCells z.cells m).toList[i * te.sz + j]? = z.cells[j]? := by
  have hlt := mul_lt hi hj
  have e1 : (i * te.sz + j) % z.cells.size = j := by rw [hzs, Nat.add_comm, Nat.add_mul_mod_self_right]; exact Nat.mod_eq_of_lt hj
  have hm : (i * te.sz + j) < m * z.cells.size := by rw [hzs]; exact hlt
  have hjz : j < z.cells.size := by omega
  simp [Builtin.zeroCells, hm, e1, hjz]
theorem zeros_rows (hG : True) {e : TypeId} {te : Ty} (he : ty P e = some te) (m : Nat) : ∃ z, (∀ w : World, (zeroValue e).run P w = .ok z w) ∧ (Builtin.zeroCells z.cells m).toList.length = m * te.sz ∧ (∀ u ∈ (Builtin.zeroCells z.cells m).toList, u.oneCell' = true) ∧
    (∀ row ∈ List.replicate m te.zero, row.length = te.sz) ∧
    ∀ (i j : Nat) row x, (List.replicate m te.zero)[i]? = some row → row[j]? = some x → ∃ u, (Builtin.zeroCells z.cells m).toList[i * te.sz + j]? = some u ∧ RV P w X φ G x u ∧ u.oneCell' = true := by
  obtain ⟨z, z1, z2, z3, z4⟩ := zero_sound he w
  obtain ⟨inf, z', d, pl, es, hinf, _, hz, hzs, hpos, _, hby, _, hte⟩ := (ty_is he).ex
  have hzz : z = z' := by
    simp [zeroValue, typeInfo, hinf, hz] at z1
    exact z1.symm
  subst hzz
  have hp := ty_pos he
  have hlen : (Builtin.zeroCells z.cells m).toList.length = m * te.sz := by simp [Builtin.zeroCells, z2]
  refine ⟨z, fun w => by simp [zeroValue, typeInfo, hinf, hz], hlen, fun u hu => ?_, fun row hr => ?_, fun i j row x hi hj => ?_⟩
  · obtain ⟨q, hq, rfl⟩ := List.getElem_of_mem hu
    rw [hlen] at hq
    have h1 : q / te.sz < m := Nat.div_lt_of_lt_mul (by rw [Nat.mul_comm]; exact hq)
    have h2 : q % te.sz < te.sz := Nat.mod_lt _ hp
    have h3 := zeros_get (z := z) (te := te) z2 hp h1 h2
    rw [Nat.mul_comm, Nat.div_add_mod] at h3
    have h4 : (Builtin.zeroCells z.cells m).toList[q]? = some (Builtin.zeroCells z.cells m).toList[q] := List.getElem?_eq_getElem _
    rw [h4] at h3
    exact z3 _ (by have := Array.mem_of_getElem? h3.symm; simpa using this)
  · rw [List.eq_of_mem_replicate hr]; exact ty_zlen he
  · have hi' : i < m := by have := (List.getElem?_eq_some_iff.1 hi).1; simpa using this
    have hrow : row = te.zero := by rw [List.getElem?_replicate] at hi; simp [hi'] at hi; exact hi.symm
    subst hrow
    have hj' : j < te.sz := by rw [← ty_zlen he]; exact (List.getElem?_eq_some_iff.1 hj).1
    have hjz : j < z.cells.size := by omega
    refine ⟨z.cells[j], by rw [zeros_get (z := z) (te := te) z2 hp hi' hj']; simp [hjz], z4 _ _ _ _ j x _ hj (by simp [hjz]), z3 _ (by simp)⟩
end
end Go.Proofs.YthiclaihlpkinaaGreat
namespace Go.Proofs.YthiclaihlpkinaaGreat
open Go.RowKit
variable [Glob]
section
variable {P : Program} {w0 w : World} {X : Nat → Prop} {φ : Nat → Option Nat} {G H : List Blk} {T : List (Nat × AV)} {a : Act}
theorem same_spec {o : Option AV} {v : AV} {u : Upd} (h : same o = some (v, u)) : o = some v ∧ u = .no := by
  unfold same at h
  split at h
  · simp at h; rw [h.1]; exact ⟨rfl, h.2.symm⟩
  · simp at h
theorem fill_sound {t : TypeId} {i : Ty} (ht : ty P t = some i) (pl : Nat → Option (Nat × Nat)) : ∀ (parts : List (Nat × Operand)) (cs : List AV) (vs : Array Value) (c : List AV),
    fillA pl cs (parts.map fun p => (p.1, ev T p.2)) = some c → (∀ p ∈ parts, RV P w X φ G (ev T p.2) (a.eval p.2)) → cs.length = vs.size → (∀ u ∈ vs.toList, u.oneCell' = true) →
    (∀ (j : Nat) x u, cs[j]? = some x → vs[j]? = some u → RV P w X φ G x u) →
    ∃ us : Array Value, Instr.fill pl vs (parts.map fun p => (p.1, a.eval p.2)) = some us ∧ c.length = us.size ∧ (∀ u ∈ us.toList, u.oneCell' = true) ∧ ∀ (j : Nat) x u, c[j]? = some x → us[j]? = some u → RV P w X φ G x u := by
  intro parts
  induction parts with
  | nil =>
    intro cs vs c h _ h1 h2 h3
    simp [fillA] at h
    subst h
    exact ⟨vs, rfl, h1, h2, h3⟩
  | cons p parts ih =>
    intro cs vs c h hp h1 h2 h3
    simp only [List.map_cons, fillA] at h
    split at h
    · simp at h
    · rename_i off size hpl
      split at h
      · rename_i ns hns
        split at h
        · rename_i c' hc'
          obtain ⟨k1, k2⟩ := cellsN_spec hns
          obtain ⟨l1, l2, l3⟩ := RV.cells (hp p (by simp)) k1
          obtain ⟨o1, o2, o3⟩ := over_spec hc'
          -- the model's way of filling
          have hfold : ∀ (l : List Value) (k : Nat) (vs : Array Value), off + k + l.length ≤ vs.size → ∃ us : Array Value, (l.zipIdx k).foldl (fun cs (x : Value × Nat) => cs.setIfInBounds (off + x.2) x.1) vs = us ∧ us.size = vs.size ∧
              ∀ (j : Nat) u, us[j]? = some u → (j < off + k ∧ vs[j]? = some u) ∨ (off + k ≤ j ∧ j < off + k + l.length ∧ l[j - (off + k)]? = some u) ∨ (off + k + l.length ≤ j ∧ vs[j]? = some u) := by
            intro l
            induction l with
            | nil => intro k vs _; exact ⟨vs, rfl, rfl, fun j u hu => by rcases Nat.lt_or_ge j (off + k) with h | h; exact .inl ⟨h, hu⟩; exact .inr (.inr ⟨by simpa using h, hu⟩)⟩
            | cons y l ih2 =>
              intro k vs hl
              simp only [List.length_cons] at hl
              obtain ⟨us, e1, e2, e3⟩ := ih2 (k + 1) (vs.setIfInBounds (off + k) y) (by simp; omega)
              refine ⟨us, by simpa [List.zipIdx_cons] using e1, by simpa using e2, fun j u hu => ?_⟩
              rcases e3 j u hu with ⟨q1, q2⟩ | ⟨q1, q2, q3⟩ | ⟨q1, q2⟩
              · rw [Array.getElem?_setIfInBounds] at q2
                split at q2
                · rename_i e
                  split at q2
                  · simp at q2; exact .inr (.inl ⟨by omega, by simp; omega, by rw [← e]; simpa using q2⟩)
                  · simp at q2
                · exact .inl ⟨by omega, q2⟩
              · refine .inr (.inl ⟨by omega, by simp; omega, ?_⟩)
                rw [show j - (off + k) = (j - (off + (k + 1))) + 1 by omega]
                simpa using q3
              · rw [Array.getElem?_setIfInBounds, if_neg (by omega)] at q2
                exact .inr (.inr ⟨by simp; omega, q2⟩)
          have hlen : (a.eval p.2).cells.toList.length = ns.length := by simpa using l1
          obtain ⟨us, e1, e2, e3⟩ := hfold (a.eval p.2).cells.toList 0 vs (by simp; omega)
          obtain ⟨us2, f1, f2, f3, f4⟩ := ih c' us c h (fun q hq => hp q (by simp [hq])) (by omega) (fun u hu => by
              obtain ⟨j, hj, rfl⟩ := List.getElem_of_mem hu
              simp at hj
              rcases e3 j us[j] (by simp [hj]) with ⟨_, q⟩ | ⟨_, _, q⟩ | ⟨_, q⟩
              · exact h2 _ (List.mem_of_getElem? (by simpa using q))
              · exact l2 _ (List.mem_of_getElem? q)
              · exact h2 _ (List.mem_of_getElem? (by simpa using q))) (fun j x u hx hu => by
              rcases o3 j x hx with ⟨q1, q2⟩ | ⟨q1, q2, q3⟩ | ⟨q1, q2⟩ <;> rcases e3 j u hu with ⟨s1, s2⟩ | ⟨s1, s2, s3⟩ | ⟨s1, s2⟩ <;> simp at s1 <;> try omega
              · exact h3 j x u q2 s2
              · exact l3 (j - off) x u q3 (by simpa using s3)
              · exact h3 j x u q2 s2)
          refine ⟨us2, ?_, f2, f3, f4⟩
          simp only [List.map_cons, Instr.fill, hpl]
          have hcond : ((a.eval p.2).cells.size ≠ size || off + (a.eval p.2).cells.size > vs.size) = false := by simp; omega
          rw [hcond]
          simp only [Bool.false_eq_true, if_false]
          have : (a.eval p.2).cells.zipIdx.foldl (fun cs (x : Value × Nat) => cs.setIfInBounds (off + x.2) x.1) vs = us := by
            rw [← e1, ← Array.foldl_toList, Array.toList_zipIdx]
          rw [← f1]
          rw [this]
        · simp at h
      · simp at h
end
end Go.Proofs.YthiclaihlpkinaaGreat
namespace Go.Proofs.YthiclaihlpkinaaGreat
open Go.RowKit
variable [Glob]
section
variable {P : Program} {w0 w : World} {X : Nat → Prop} {φ : Nat → Option Nat} {G H : List Blk} {T : List (Nat × AV)} {a : Act}
theorem mapM_spec {α β : Type} {f : α → Option β} : ∀ {l : List α} {r : List β}, l.mapM f = some r → r.length = l.length ∧ ∀ (j : Nat) x, l[j]? = some x → ∃ y, r[j]? = some y ∧ f x = some y := by
  intro l
  induction l with
  | nil => intro r h; simp at h; subst h; simp
  | cons x l ih =>
    intro r h
    rw [List.mapM_cons] at h
    cases hx : f x with
    | none => simp [hx] at h
    | some y =>
      cases hl : l.mapM f with
      | none => simp [hx, hl] at h
      | some ys =>
        simp [hx, hl] at h
        subst h
        obtain ⟨h1, h2⟩ := ih hl
        refine ⟨by simp [h1], fun j z hj => ?_⟩
        cases j with
        | zero => simp at hj; subst hj; exact ⟨y, by simp, hx⟩
        | succ j => simpa using h2 j z (by simpa using hj)
theorem build_sound {t : TypeId} {i : Ty} (ht : ty P t = some i) {parts : List (Nat × Operand)} {c : List AV} (hag : i.ag = true) (h : fillA (place i) i.zero (parts.map fun p => (p.1, ev T p.2)) = some c)
    (hev : ∀ p ∈ parts, RV P w X φ G (ev T p.2) (a.eval p.2)) : ∃ us, (Instr.build t (parts.map fun p => (p.1, a.eval p.2)).toArray).run P w = .ok (.agg us) w ∧ RV P w X φ G (.agg c) (.agg us) := by
  obtain ⟨z, hz, hz1, hz2, hz3⟩ := zero_sound ht w
  obtain ⟨inf, z', d, pl, es, h1, h2, h3, h4, h5, h6, h7, h8, rfl⟩ := (ty_is ht).ex
  have hzz : z = z' := by simpa [zeroValue, typeInfo, h1, h3] using hz.symm
  subst hzz
  obtain ⟨us, k1, k2, k3, k4⟩ := fill_sound (P := P) (w := w) (X := X) (φ := φ) (G := G) (T := T) (a := a) ht (place (descTy d inf.size (z.cells.toList.map ofCell) pl es)) parts _ z.cells c h hev (by rw [descTy_zero]; simp) hz2 (fun j x u hx hu => hz3 w X φ G j x u hx hu)
  refine ⟨us, run_build w t _ us ?_, .agg k2 k3 k4⟩
  unfold Program.built
  simp only [h1, h2, h3]
  cases d <;> simp [descTy] at hag
  · rename_i n e
    simp only [inner] at h8
    split at h8
    · rename_i ie hie
      simp at h8
      obtain ⟨rfl, rfl⟩ := h8
      simp only [h3, hie]
      rw [← k1]
      rfl
    · simp at h8
  · rename_i fs
    simp only [inner] at h8
    split at h8
    · rename_i l hl
      simp at h8
      obtain ⟨rfl, rfl⟩ := h8
      simp only [h3, hl]
      rw [← k1]
      simp only [List.getElem?_toArray, List.toList_toArray]
      rfl
    · simp at h8
end
end Go.Proofs.YthiclaihlpkinaaGreat
namespace Go.Proofs.YthiclaihlpkinaaGreat
open Go.RowKit
variable [Glob]
section
variable {P : Program} {w0 w : World} {X : Nat → Prop} {φ : Nat → Option Nat} {G H : List Blk} {T : List (Nat × AV)} {a : Act}
theorem ofV_rv (v : Value) : RV P w X φ G (ofV v) v := .ro (ofV_ro _ _ v)
/-- A bound of a slice expression. -/
theorem bound_sound {d n : Int} {x : Option Operand} (h : bound T d x = some n) (hev : ∀ y, x = some y → RV P w X φ G (ev T y) (a.eval y)) : (x = none ∧ n = d) ∨ ∃ y k, x = some y ∧ a.eval y = .int k n := by
  unfold bound at h
  split at h
  · simp at h; exact .inl ⟨rfl, h.symm⟩
  · rename_i y
    split at h
    · rename_i k m hk
      simp at h; subst h
      have := hev y rfl
      rw [hk] at this
      exact .inr ⟨y, k, rfl, this.int_inv⟩
    · simp at h
theorem fold_sound (f : Int → Int → Int) (g : Value → Value → Sem Value) (hg : ∀ k x k' y, g (.int k x) (.int k' y) = pure (.int k (f x y))) : ∀ (l : List AV) (x v : AV) (us : List Value) (u : Value), foldA f x l = some v → RV P w X φ G x u → (∀ (j : Nat) y z, l[j]? = some y → us[j]? = some z → RV P w X φ G y z) → l.length = us.length →
    ∃ r, (us.foldlM g u).run P w = .ok r w ∧ RV P w X φ G v r := by
  intro l
  induction l with
  | nil =>
    intro x v us u h hx _ hl
    simp [foldA] at h
    subst h
    have : us = [] := List.eq_nil_of_length_eq_zero hl.symm
    subst this
    exact ⟨u, rfl, hx⟩
  | cons y l ih =>
    intro x v us u h hx hr hl
    cases us with
    | nil => simp at hl
    | cons z us =>
      unfold foldA at h
      split at h
      · rename_i heq; simp at heq
      · rename_i k m k' n rest heq
        simp at heq
        obtain ⟨rfl, rfl⟩ := heq
        have e1 := hx.int_inv
        have e2 := RV.int_inv (hr 0 (.int k' n) z (by simp) (by simp))
        subst e1 e2
        obtain ⟨r, h1, h2⟩ := ih _ v us _ h (.ro .int) (fun j y z h3 h4 => hr (j + 1) y z (by simpa using h3) (by simpa using h4)) (by simpa using hl)
        exact ⟨r, by simp [List.foldlM_cons, hg, h1], h2⟩
      · simp at h
theorem RV.rs_inv {rows : List (List AV)} {v : Value} (h : RV P w X φ G (.rs rows) v) : ∃ A cap, v = .slice A rows.length cap ∧ rows.length ≤ cap := by
  cases h with
  | ro h => cases h with
    | rs sz f hn hcap hA h => subst hn; exact ⟨_, _, rfl, hcap⟩
theorem args_len {args : List Operand} (hev : ∀ x ∈ args, RV P w X φ G (ev T x) (a.eval x)) : ∀ (j : Nat) y z, (args.map (ev T))[j]? = some y → (args.map a.eval)[j]? = some z → RV P w X φ G y z := by
  intro j y z h1 h2
  simp at h1 h2
  obtain ⟨x, h3, rfl⟩ := h1
  rw [h3] at h2
  simp at h2
  subst h2
  exact hev x (List.mem_of_getElem? h3)
/-- The builtin functions. -/
theorem ebi_sound {b : Builtin} {ts : Array TypeId} {args : Array Operand} {v : AV} {u : Upd} {tyc : TypeId} {cs : Array Bool} (hr : HR P w0 X w φ G) (h : ebi P ⟨T, H⟩ b ts.toList (args.toList.map (ev T)) = some (v, u))
    (hev : ∀ x ∈ args.toList, RV P w X φ G (ev T x) (a.eval x)) (hG : (b ≠ .min ∧ b ≠ .max) → ∀ (id : Nat) b, H[id]? = some b → G[id]? = some b) (hnew : ∀ b, u = .new b → G[H.length]? = some b ∧ φ H.length = none) :
    Eff P w0 X φ G w u H.length v ((Go.builtin b ts tyc cs (args.map a.eval)).run P w) := by
  obtain ⟨args⟩ := args
  obtain ⟨ts⟩ := ts
  simp only [List.map_toArray] at *
  unfold ebi at h
  split at h
  · -- len
    rename_i t x hargs
    obtain ⟨y, rfl, rfl⟩ : ∃ y, args = [y] ∧ ev T y = x := by
      cases args with
      | nil => simp at hargs
      | cons y l => cases l with
        | nil => simp at hargs; exact ⟨y, rfl, hargs⟩
        | cons => simp at hargs
    have hy := hev y (by simp)
    have hG := hG ⟨by simp, by simp⟩
    split at h
    · rename_i i hi
      split at h
      · rename_i id n hx
        split at h
        · rename_i e nb rows hb
          split at h
          · rename_i hc
            simp at h
            obtain ⟨rfl, rfl⟩ := h
            rw [hx] at hy
            have hu := ty_sl hi hc.2
            cases hy with
            | ro h => cases h
            | os g0 hid hv =>
              rcases (hv e nb rows (hG id _ hb)).2 hc.1.symm with ⟨_, _, h2, h3⟩ | ⟨c, cap, cur, h4, h5, _⟩
              · obtain ⟨A, h2⟩ := h2
                exact eff_pure hr (by simp [Go.builtin, Builtin.len_, h2, run_underlying hu, goInt]; rfl) (by rw [h3]; exact .ro .int)
              · exact eff_pure hr (by simp [Go.builtin, Builtin.len_, h5, run_underlying hu, goInt]) (.ro .int)
          · simp at h
        · simp at h
      · rename_i id n lo hh hx
        split at h
        · rename_i e nb rows hb
          split at h
          · rename_i hc
            simp at h
            obtain ⟨rfl, rfl⟩ := h
            rw [hx] at hy
            have hu := ty_sl hi hc.2
            cases hy with
            | ro h => cases h
            | ow g0 hid hv =>
              obtain ⟨A, c, cap, cur, h4, h5, _⟩ := (hv e nb rows (hG id _ hb)).2 hc.1.symm
              exact eff_pure hr (by simp [Go.builtin, Builtin.len_, h5, run_underlying hu, goInt]) (.ro .int)
          · simp at h
        · simp at h
      · rename_i rows hx
        split at h
        · rename_i hc
          simp at h
          obtain ⟨rfl, rfl⟩ := h
          rw [hx] at hy
          have hu := ty_sl hi hc
          obtain ⟨A, cap, he, _⟩ := hy.rs_inv
          exact eff_pure hr (by simp [Go.builtin, Builtin.len_, he, run_underlying hu, goInt]) (.ro .int)
        · simp at h
      · rename_i hx
        split at h
        · rename_i hc
          simp at h
          obtain ⟨rfl, rfl⟩ := h
          rw [hx] at hy
          have hu := ty_sl hi hc
          have h2 := hy.nils_inv
          exact eff_pure hr (by simp [Go.builtin, Builtin.len_, h2, run_underlying hu, goInt]) (.ro .int)
        · simp at h
      · rename_i hx
        split at h
        · rename_i hc
          simp at h
          obtain ⟨rfl, rfl⟩ := h
          rw [hx] at hy
          have hu := ty_sl hi hc
          obtain ⟨A, h2⟩ := hy.nilc_inv
          exact eff_pure hr (by simp [Go.builtin, Builtin.len_, h2, run_underlying hu, goInt]) (.ro .int)
        · simp at h
      · rename_i hx
        split at h
        · rename_i hc
          simp at h
          obtain ⟨rfl, rfl⟩ := h
          rw [hx] at hy
          have hu := ty_sl hi hc
          obtain ⟨A, h2⟩ := hy.nec_inv
          exact eff_pure hr (by simp [Go.builtin, Builtin.len_, h2, run_underlying hu, goInt]) (.ro .int)
        · simp at h
      · rename_i s hx
        split at h
        · rename_i hc
          simp at h
          obtain ⟨rfl, rfl⟩ := h
          rw [hx] at hy
          have hu := ty_str hi hc
          exact eff_pure hr (by simp [Go.builtin, Builtin.len_, hy.str_inv, run_underlying hu, goInt]) (.ro .int)
        · simp at h
      · rename_i id hx
        split at h
        · rename_i es hb
          split at h
          · rename_i hc
            simp at h
            obtain ⟨rfl, rfl⟩ := h
            rw [hx] at hy
            obtain ⟨m, hm⟩ := Option.isSome_iff_exists.1 hc
            have hu : ∃ kt et, P.underlying t = some (.map kt et) := by
              unfold mapTy at hm
              split at hm
              · exact ⟨_, _, by assumption⟩
              · simp at hm
            obtain ⟨kt, et, hu⟩ := hu
            cases hy with
            | ro h => cases h
            | mp g0 hid hv =>
              obtain ⟨c, hc, hv'⟩ := hv es (hG id _ hb)
              obtain ⟨ents, clock, q1, q2, _⟩ := hr.blk id _ c (hG id _ hb) hc
              exact eff_pure hr (by simp [Go.builtin, Builtin.len_, hv', run_underlying hu, goInt, Go.MapKept.run_getObj_map q1, q2]) (.ro .int)
          · simp at h
        · simp at h
      · simp at h
    · simp at h
  · -- cap
    rename_i t x hargs
    obtain ⟨y, rfl, rfl⟩ : ∃ y, args = [y] ∧ ev T y = x := by
      cases args with
      | nil => simp at hargs
      | cons y l => cases l with
        | nil => simp at hargs; exact ⟨y, rfl, hargs⟩
        | cons => simp at hargs
    have hy := hev y (by simp)
    split at h
    · rename_i i hi
      split at h
      · rename_i hsl
        have hu := ty_sl hi hsl
        split at h
        · rename_i hx
          simp at h
          obtain ⟨rfl, rfl⟩ := h
          rw [hx] at hy
          have h2 := hy.nils_inv
          exact eff_pure hr (by simp [Go.builtin, Builtin.cap_, h2, run_underlying hu, goInt]) (.ro .int)
        · rename_i hx
          simp at h
          obtain ⟨rfl, rfl⟩ := h
          rw [hx] at hy
          obtain ⟨A, h2⟩ := hy.nilc_inv
          exact eff_pure hr (by simp [Go.builtin, Builtin.cap_, h2, run_underlying hu, goInt]) (.ro .int)
        · rename_i hx
          simp at h
          obtain ⟨rfl, rfl⟩ := h
          rw [hx] at hy
          obtain ⟨A, h2⟩ := hy.nec_inv
          exact eff_pure hr (by simp [Go.builtin, Builtin.cap_, h2, run_underlying hu, goInt]) (.ro .int)
        · simp at h
      · simp at h
    · simp at h
  · -- clear
    rename_i t x hargs
    obtain ⟨y, rfl, rfl⟩ : ∃ y, args = [y] ∧ ev T y = x := by
      cases args with
      | nil => simp at hargs
      | cons y l => cases l with
        | nil => simp at hargs; exact ⟨y, rfl, hargs⟩
        | cons => simp at hargs
    have hy := hev y (by simp)
    have hG := hG ⟨by simp, by simp⟩
    have htup : ∀ (w : World) φ G, RV P w X φ G (.tup []) (.tuple #[]) := fun w φ G => .ro (.tup rfl (by simp))
    split at h
    · rename_i i hi
      split at h
      · rename_i hsl
        have hu := ty_sl hi hsl
        split at h
        · rename_i te he
          have hce : P.cellsOf i.elem = te.sz := ty_cells he
          split at h
          · rename_i id n hx
            split at h
            · rename_i e' nb rows hb
              split at h
              · rename_i hc
                simp at h
                obtain ⟨rfl, rfl⟩ := h
                obtain ⟨hn, rfl⟩ := hc
                rw [hx] at hy
                have hb := hG id _ hb
                obtain ⟨z, z1, z2, z3, z4, z5⟩ := zeros_rows (P := P) (w := w) (X := X) (φ := φ) (G := G) trivial he n
                cases hy with
                | ro h => cases h
                | os g0 hid hv =>
                  rcases (hv _ nb rows hb).2 hn.symm with ⟨h1, h2, ⟨A, h3⟩, h4⟩ | ⟨c, cap, cur, h4, h5, h6, h7, h8, h9⟩
                  · subst h4
                    have h0 := List.eq_nil_of_length_eq_zero hn
                    subst h0
                    have hsame : updG G (.set id (.row i.elem nb (putR [] 0 (List.replicate 0 te.zero)))) = G := by simp only [updG]; exact set_self (by simpa [putR] using hb)
                    refine ⟨.tuple #[], w, φ, .inl (by simp [Go.builtin, Builtin.clear_, h3, run_underlying hu]; cases A <;> simp), by rw [hsame]; exact hr, by rw [hsame]; exact Turn.refl w φ G, htup _ _ _, fun _ h _ _ => ⟨h, by rw [hsame]⟩⟩
                  · by_cases hn0 : n = 0
                    · subst hn0
                      have h0 := List.eq_nil_of_length_eq_zero hn
                      subst h0
                      have hsame : updG G (.set id (.row i.elem nb (putR [] 0 (List.replicate 0 te.zero)))) = G := by simp only [updG]; exact set_self (by simpa [putR] using hb)
                      refine ⟨.tuple #[], w, φ, .inl (by simp [Go.builtin, Builtin.clear_, h5, run_underlying hu]), by rw [hsame]; exact hr, by rw [hsame]; exact Turn.refl w φ G, htup _ _ _, fun _ h _ _ => ⟨h, by rw [hsame]⟩⟩
                    · obtain ⟨k1, k2, k3⟩ := put_sound hr (sz := te.sz) (k := 0) hb h4 h6 hce (by simp; omega) (by rw [List.length_replicate]; exact z2) z3 z4 z5
                      simp only [Nat.zero_mul] at k1
                      obtain ⟨n, rfl⟩ : ∃ m, n = m + 1 := ⟨n - 1, by omega⟩
                      refine ⟨.tuple #[], _, φ, .inl (by simp [Go.builtin, Builtin.clear_, h5, run_underlying hu, z1, k1]), k2, k3, htup _ _ _, fun j hj _ _ => ⟨hj, List.getElem?_set_ne (fun e => by rw [e, hj] at h4; simp at h4)⟩⟩
              · simp at h
            · simp at h
          · rename_i id n lo hh hx
            split at h
            · rename_i e' nb rows hb
              split at h
              · rename_i hc
                simp at h
                obtain ⟨rfl, rfl⟩ := h
                obtain ⟨hn, rfl⟩ := hc
                rw [hx] at hy
                have hb := hG id _ hb
                obtain ⟨z, z1, z2, z3, z4, z5⟩ := zeros_rows (P := P) (w := w) (X := X) (φ := φ) (G := G) trivial he (hh - lo)
                cases hy with
                | ro h => cases h
                | ow g0 hid hv =>
                  obtain ⟨A, c, cap, cur, h4, h5, hA, h6, h7, h8, h9, h10, h11⟩ := (hv _ nb rows hb).2 hn.symm
                  by_cases hn0 : hh - lo = 0
                  · rw [hn0] at h5
                    have hsame : updG G (.set id (.row i.elem nb (putR rows lo (List.replicate (hh - lo) te.zero)))) = G := by
                      rw [hn0]
                      simp only [updG]
                      exact set_self (by simpa [putR] using hb)
                    refine ⟨.tuple #[], w, φ, .inl (by cases A <;> simp [Go.builtin, Builtin.clear_, h5, run_underlying hu]), by rw [hsame]; exact hr, by rw [hsame]; exact Turn.refl w φ G, htup _ _ _, fun _ h _ _ => ⟨h, by rw [hsame]⟩⟩
                  · obtain rfl := hA (by omega)
                    obtain ⟨k1, k2, k3⟩ := put_sound hr (sz := te.sz) (k := lo) hb h4 h6 hce (by simp; omega) (by rw [List.length_replicate]; exact z2) z3 z4 z5
                    rw [hce] at h5
                    obtain ⟨m, hm⟩ : ∃ m, hh - lo = m + 1 := ⟨hh - lo - 1, by omega⟩
                    rw [hm] at h5 k1 k2 k3
                    rw [hm]
                    refine ⟨.tuple #[], _, φ, .inl (by simp [Go.builtin, Builtin.clear_, h5, run_underlying hu, z1, k1]), k2, k3, htup _ _ _, fun j hj _ _ => ⟨hj, List.getElem?_set_ne (fun e => by rw [e, hj] at h4; simp at h4)⟩⟩
              · simp at h
            · simp at h
          · rename_i hx
            simp at h
            obtain ⟨rfl, rfl⟩ := h
            rw [hx] at hy
            have h2 := hy.nils_inv
            exact eff_pure hr (x := .tuple #[]) (by simp [Go.builtin, Builtin.clear_, h2, run_underlying hu]) (htup _ _ _)
          · simp at h
        · simp at h
      · simp at h
    · simp at h
  · -- copy
    rename_i t t' x y hargs
    obtain ⟨xo, yo, rfl, rfl, rfl⟩ : ∃ xo yo, args = [xo, yo] ∧ ev T xo = x ∧ ev T yo = y := by
      cases args with
      | nil => simp at hargs
      | cons xo l => cases l with
        | nil => simp at hargs
        | cons yo l => cases l with
          | nil => simp at hargs; exact ⟨xo, yo, rfl, hargs.1, hargs.2⟩
          | cons => simp at hargs
    have hx := hev xo (by simp)
    have hy := hev yo (by simp)
    have hG := hG ⟨by simp, by simp⟩
    split at h
    · rename_i i hi
      split at h
      · rename_i hsl
        obtain ⟨hsl, rfl⟩ := hsl
        have hu := ty_sl hi hsl
        split at h
        · rename_i te he
          have hce : P.cellsOf i.elem = te.sz := ty_cells he
          split at h
          · rename_i ys hys
            have hys := elems_mono hG hys
            split at h
            · rename_i id n hxe
              split at h
              · rename_i e' nb rows hb
                split at h
                · rename_i hc
                  simp at h
                  obtain ⟨rfl, rfl⟩ := h
                  obtain ⟨hn, rfl⟩ := hc
                  rw [hxe] at hx
                  have hb := hG id _ hb
                  cases hx with
                  | ro h => cases h
                  | os g0 hid hv =>
                    rcases (hv _ nb rows hb).2 hn.symm with ⟨h1, h2, ⟨A, h3⟩, h4⟩ | ⟨c, cap, cur, h4, h5, h6, h7, h8, h9⟩
                    · subst h4
                      obtain ⟨_, A', c', hyv, _⟩ := elems_sound (P := P) (e := 0) (i := te) hr (ty_pos he) hys hy
                      obtain ⟨inf, z, d, pl, es, hinf, _⟩ := (ty_is he).ex
                      have h0 := List.eq_nil_of_length_eq_zero hn
                      subst h0
                      have hsame : updG G (.set id (.row i.elem nb (putR [] 0 (ys.take 0)))) = G := by simp only [updG]; exact set_self (by simpa [putR] using hb)
                      exact ⟨goInt (min ys.length 0 : Nat), w, φ, .inl (by cases A <;> cases A' <;> simp [Go.builtin, Builtin.copy_, h3, hyv, run_underlying hu, sizeOf, typeInfo, hinf, Builtin.lenOf, Builtin.firstCells, loadCells, loadCellsFrom, storeCells]), by rw [hsame]; exact hr, by rw [hsame]; exact Turn.refl w φ G, .ro .int, fun _ h _ _ => ⟨h, by rw [hsame]⟩⟩
                    · obtain ⟨w', k1, k2, k3⟩ := copy_at (tyc := tyc) (dc := cap) hr hu he hb hn (lo := 0) (m := n) (by omega) h4 h6 h7 h9 (fun _ => by rw [Nat.zero_mul]) hys hy
                      exact ⟨_, w', φ, .inl (by simp [Go.builtin, h5, k1]; rfl), k2, k3, .ro .int, fun j hj _ _ => ⟨hj, List.getElem?_set_ne (fun e => by rw [e, hj] at h4; simp at h4)⟩⟩
                · simp at h
              · simp at h
            · rename_i id n lo hh hxe
              split at h
              · rename_i e' nb rows hb
                split at h
                · rename_i hc
                  simp at h
                  obtain ⟨rfl, rfl⟩ := h
                  obtain ⟨hn, rfl⟩ := hc
                  rw [hxe] at hx
                  have hb := hG id _ hb
                  cases hx with
                  | ro h => cases h
                  | ow g0 hid hv =>
                    obtain ⟨A, c, cap, cur, h4, h5, hA, h6, h7, h8, h9, h10, h11⟩ := (hv _ nb rows hb).2 hn.symm
                    obtain ⟨w', k1, k2, k3⟩ := copy_at (tyc := tyc) (dc := cap - lo) hr hu he hb hn (lo := lo) (m := hh - lo) (by omega) h4 h6 h7 h9 (fun h => hA (by omega)) hys hy
                    exact ⟨_, w', φ, .inl (by simp [Go.builtin, h5, k1]; rfl), k2, k3, .ro .int, fun j hj _ _ => ⟨hj, List.getElem?_set_ne (fun e => by rw [e, hj] at h4; simp at h4)⟩⟩
                · simp at h
              · simp at h
            · simp at h
          · simp at h
        · simp at h
      · simp at h
    · simp at h
  · -- append of zeros
    rename_i t t' x k m hargs
    obtain ⟨xo, yo, rfl, rfl, hyo⟩ : ∃ xo yo, args = [xo, yo] ∧ ev T xo = x ∧ ev T yo = .int k m := by
      cases args with
      | nil => simp at hargs
      | cons xo l => cases l with
        | nil => simp at hargs
        | cons yo l => cases l with
          | nil => simp at hargs; exact ⟨xo, yo, rfl, hargs.1, hargs.2⟩
          | cons => simp at hargs
    have hx := hev xo (by simp)
    have hy := hev yo (by simp)
    rw [hyo] at hy
    split at h
    · rename_i i i' hi hi'
      split at h
      · rename_i hc
        obtain ⟨hsl, hint, rfl, hm0, hm1⟩ := hc
        have hu := ty_sl hi hsl
        have hu' := ty_int hi' hint
        split at h
        · rename_i te he
          split at h
          · rename_i hxe
            simp at h
            obtain ⟨rfl, rfl⟩ := h
            obtain ⟨hb, hφ⟩ := hnew _ rfl
            rw [hxe] at hx
            obtain ⟨inf, z, d, pl, es, hinf, _, hz, hzs, hpos, _, hby, _, hte⟩ := (ty_is he).ex
            have hsz : te.sz = inf.size := by rw [hte, descTy_sz]
            have hce : P.cellsOf i.elem = te.sz := ty_cells he
            obtain ⟨z0, z1, z2, z3, z4⟩ := zero_sound he w
            have hzz : z0 = z := by
              simp [zeroValue, typeInfo, hinf, hz] at z1
              exact z1.symm
            subst hzz
            have hfit : m.toNat * inf.bytes ≤ 140737488355328 := by
              have : m.toNat * inf.bytes ≤ 1073741824 * 4096 := Nat.mul_le_mul (by omega) hby
              omega
            have hmm : ((m.toNat : Nat) : Int) = m := by omega
            have hrun := Lib.run_append_nil_zeros (P := P) w t t' tyc i.elem inf z0 .i64 .i64 hu hu' hinf hz m.toNat (by omega) (by omega) (by omega) (Nat.le_trans hfit (by omega))
            rw [hmm] at hrun
            have hge := grownCap_ge w m.toNat 0 i.elem
            have hrl : (List.replicate m.toNat te.zero).length = m.toNat := by simp
            have hE := newRow_sound (P := P) (nid := H.length) (hr_drew hr) (e := i.elem) (rows := List.replicate m.toNat te.zero) (cap := grownCap w m.toNat 0 i.elem) (cur := Builtin.zeroCells z0.cells m.toNat ++ Builtin.zeroCells z0.cells (grownCap w m.toNat 0 i.elem - m.toNat)) (by
                intro row hrow
                rw [List.eq_of_mem_replicate hrow, hce]; exact ty_zlen he)
              (by rw [hce]; simp only [Array.size_append, size_zeroCells, z2, ← Nat.add_mul]; congr 1; omega) (by rw [hrl]; exact hge) (grownCap_le_maxLen w _ 0 _ (by unfold maxLen; omega)) (fun i' j row x u h1 h2 h3 => by
                have hi'' : i' < m.toNat := by have := (List.getElem?_eq_some_iff.1 h1).1; simpa using this
                have hrow : row = te.zero := by rw [List.getElem?_replicate] at h1; simp [hi''] at h1; exact h1.symm
                subst hrow
                have hj : j < te.sz := by rw [← ty_zlen he]; exact (List.getElem?_eq_some_iff.1 h2).1
                rw [hce] at h3
                have h4 := zeros_get (z := z0) (te := te) (m := m.toNat) z2 (ty_pos he) (i := i') (j := j) (by omega) hj
                have hlt := mul_lt (s := te.sz) hi'' hj
                rw [Array.getElem?_append_left (by rw [size_zeroCells, z2]; exact hlt)] at h3
                have h5 : z0.cells[j]? = some u := by rw [← h4]; simpa using h3
                exact ⟨z4 _ _ _ _ j x u h2 h5, z3 u (by have := Array.mem_of_getElem? h5; simpa using this)⟩) hb hφ (r := (Go.builtin .append ⟨[t, t']⟩ tyc cs (List.map a.eval [xo, yo]).toArray).run P w) (by
                rw [hrl]
                simp only [Go.builtin, List.map_cons, List.map_nil, hx.nils_inv, hy.int_inv, Sem.run_bind]
                rw [show (#[.slice none 0 0, .int .i64 m] : Array Value) = [Value.slice none 0 0, .int .i64 m].toArray from rfl] at hrun
                rw [hrun]
                rfl)
            rw [hrl] at hE
            obtain ⟨x', w', φ', e1, e2, e3, e4, e5⟩ := hE
            exact ⟨x', w', φ', e1, e2, (turn_drew w φ G).trans e3, e4, e5⟩
          · simp at h
        · simp at h
      · simp at h
    · simp at h
  · -- append
    rename_i t t' x y hnint hargs
    obtain ⟨xo, yo, rfl, rfl, rfl⟩ : ∃ xo yo, args = [xo, yo] ∧ ev T xo = x ∧ ev T yo = y := by
      cases args with
      | nil => simp at hargs
      | cons xo l => cases l with
        | nil => simp at hargs
        | cons yo l => cases l with
          | nil => simp at hargs; exact ⟨xo, yo, rfl, hargs.1, hargs.2⟩
          | cons => simp at hargs
    have hx := hev xo (by simp)
    have hy := hev yo (by simp)
    have hG := hG ⟨by simp, by simp⟩
    split at h
    · rename_i i hi
      split at h
      · rename_i hsl
        have hu := ty_sl hi hsl
        split at h
        · rename_i te he
          split at h
          · rename_i ys hys
            have hS : Src P w X φ G t t' i.elem te (a.eval yo) ys := by
              unfold srcE at hys
              split at hys
              · rename_i e; subst e; exact src_slice hr hu he (elems_mono hG hys) hy
              · split at hys
                · rename_i b hb
                  split at hys
                  · rename_i is his
                    split at hys
                    · rename_i hc
                      simp at hys
                      subst hys
                      rw [hb] at hy
                      rw [hy.str_inv]
                      exact src_str hu (ty_str his hc.1) he hc.2.2
                    · simp at hys
                  · simp at hys
                · simp at hys
            have hal := hS.al
            obtain ⟨inf, z, d, pl, es, hinf, _, hz, hzs, hpos, _, hby, _, hte⟩ := (ty_is he).ex
            have hpre : ∀ r, (Builtin.append_ #[t, t'] tyc #[a.eval xo, a.eval yo]).run P w = r → (Go.builtin .append ⟨[t, t']⟩ tyc cs (List.map a.eval [xo, yo]).toArray).run P w = r.andThen fun v w' => .ok (.value v) w' := fun r hr => by
              simp [Go.builtin, hr]
            have hnone : ys = [] → ∀ A' n' cap', a.eval xo = .slice A' n' cap' → (n' ≤ cap') → (∀ b, A' = some b → True) → (Builtin.append_ #[t, t'] tyc #[a.eval xo, a.eval yo]).run P w = .ok (.slice A' n' cap') w := fun h0 A' n' cap' hxv hle _ => by
              rw [hxv]; exact hS.non h0 tyc A' n' cap' hle
            split at h
            · rename_i hxe
              have hx : RV P w X φ G .nils (a.eval xo) := by rw [← hxe]; exact hx
              split at h
              · rename_i hem
                simp at h
                obtain ⟨rfl, rfl⟩ := h
                have h0 : ys = [] := by simpa using hem
                exact eff_pure hr (hpre _ (hnone h0 none 0 0 hx.nils_inv (Nat.le_refl _) (fun _ _ => trivial))) (.ro .nils)
              · rename_i hem
                split at h
                · rename_i hle
                  simp at h
                  obtain ⟨rfl, rfl⟩ := h
                  obtain ⟨hb, hφ⟩ := hnew _ rfl
                  have hpos' : 0 < ys.length := by cases ys with | nil => simp at hem | cons => simp
                  have hce : P.cellsOf i.elem = te.sz := ty_cells he
                  have hsz : te.sz = inf.size := by rw [hte, descTy_sz]
                  obtain ⟨vs, v1, v3, v4, _, hruns⟩ := hS.som fun e => by subst e; simp at hpos'
                  obtain ⟨A0, hxA⟩ : ∃ A, a.eval xo = .slice A 0 0 := ⟨none, hx.nils_inv⟩
                  have hrun := hruns tyc A0 z (by rw [hinf]; exact hz) hle
                  have hge := grownCap_ge w ys.length 0 i.elem
                  have hE := newRow_sound (P := P) (nid := H.length) (hr_drew hr) (e := i.elem) (rows := ys) (cap := grownCap w ys.length 0 i.elem) (cur := vs.toArray ++ Builtin.zeroCells z.cells (grownCap w ys.length 0 i.elem - ys.length)) (by rw [hce]; exact hal)
                    (by rw [hce]; simp [size_zeroCells, v1, hzs, hsz, ← Nat.add_mul]; congr 1; omega) hge (grownCap_le_maxLen w _ 0 _ (by unfold maxLen; omega)) (fun i' j row x u h1 h2 h3 => by
                      rw [hce] at h3
                      obtain ⟨u', q1, q2, q3⟩ := v4 i' j row x h1 h2
                      have hlt : i' * te.sz + j < vs.length := (List.getElem?_eq_some_iff.1 q1).1
                      rw [Array.getElem?_append_left (by simpa using hlt)] at h3
                      simp at h3
                      rw [q1] at h3
                      simp at h3
                      subst h3
                      exact ⟨q2.turn (turn_drew w φ G), q3⟩) hb hφ (r := (Go.builtin .append ⟨[t, t']⟩ tyc cs (List.map a.eval [xo, yo]).toArray).run P w) (by
                      rw [hpre _ rfl, hxA, hrun]
                      rfl)
                  obtain ⟨x', w', φ', e1, e2, e3, e4, e5⟩ := hE
                  exact ⟨x', w', φ', e1, e2, (turn_drew w φ G).trans e3, e4, e5⟩
                · simp at h
            · rename_i hxe
              have hx : RV P w X φ G .nilc (a.eval xo) := by rw [← hxe]; exact hx
              split at h
              · rename_i hem
                simp at h
                obtain ⟨rfl, rfl⟩ := h
                have h0 : ys = [] := by simpa using hem
                obtain ⟨A0, hxA⟩ := hx.nilc_inv
                exact eff_pure hr (hpre _ (hnone h0 A0 0 0 hxA (Nat.le_refl _) (fun _ _ => trivial))) (.ro .nilc)
              · rename_i hem
                split at h
                · rename_i hle
                  simp at h
                  obtain ⟨rfl, rfl⟩ := h
                  obtain ⟨hb, hφ⟩ := hnew _ rfl
                  have hpos' : 0 < ys.length := by cases ys with | nil => simp at hem | cons => simp
                  have hce : P.cellsOf i.elem = te.sz := ty_cells he
                  have hsz : te.sz = inf.size := by rw [hte, descTy_sz]
                  obtain ⟨vs, v1, v3, v4, _, hruns⟩ := hS.som fun e => by subst e; simp at hpos'
                  obtain ⟨A0, hxA⟩ := hx.nilc_inv
                  have hrun := hruns tyc A0 z (by rw [hinf]; exact hz) hle
                  have hge := grownCap_ge w ys.length 0 i.elem
                  have hE := newRow_sound (P := P) (nid := H.length) (hr_drew hr) (e := i.elem) (rows := ys) (cap := grownCap w ys.length 0 i.elem) (cur := vs.toArray ++ Builtin.zeroCells z.cells (grownCap w ys.length 0 i.elem - ys.length)) (by rw [hce]; exact hal)
                    (by rw [hce]; simp [size_zeroCells, v1, hzs, hsz, ← Nat.add_mul]; congr 1; omega) hge (grownCap_le_maxLen w _ 0 _ (by unfold maxLen; omega)) (fun i' j row x u h1 h2 h3 => by
                      rw [hce] at h3
                      obtain ⟨u', q1, q2, q3⟩ := v4 i' j row x h1 h2
                      have hlt : i' * te.sz + j < vs.length := (List.getElem?_eq_some_iff.1 q1).1
                      rw [Array.getElem?_append_left (by simpa using hlt)] at h3
                      simp at h3
                      rw [q1] at h3
                      simp at h3
                      subst h3
                      exact ⟨q2.turn (turn_drew w φ G), q3⟩) hb hφ (r := (Go.builtin .append ⟨[t, t']⟩ tyc cs (List.map a.eval [xo, yo]).toArray).run P w) (by
                      rw [hpre _ rfl, hxA, hrun]
                      rfl)
                  obtain ⟨x', w', φ', e1, e2, e3, e4, e5⟩ := hE
                  exact ⟨x', w', φ', e1, e2, (turn_drew w φ G).trans e3, e4, e5⟩
                · simp at h
            · rename_i hxe
              have hx : RV P w X φ G .nec (a.eval xo) := by rw [← hxe]; exact hx
              split at h
              · rename_i hem
                simp at h
                obtain ⟨rfl, rfl⟩ := h
                have h0 : ys = [] := by simpa using hem
                obtain ⟨A1, hxA⟩ := hx.nec_inv
                obtain ⟨A0, hA0⟩ : ∃ A0, A0 = some A1 := ⟨_, rfl⟩
                rw [← hA0] at hxA
                exact eff_pure hr (hpre _ (hnone h0 A0 0 0 hxA (Nat.le_refl _) (fun _ _ => trivial))) (.ro (by subst hA0; exact .nec))
              · rename_i hem
                split at h
                · rename_i hle
                  simp at h
                  obtain ⟨rfl, rfl⟩ := h
                  obtain ⟨hb, hφ⟩ := hnew _ rfl
                  have hpos' : 0 < ys.length := by cases ys with | nil => simp at hem | cons => simp
                  have hce : P.cellsOf i.elem = te.sz := ty_cells he
                  have hsz : te.sz = inf.size := by rw [hte, descTy_sz]
                  obtain ⟨vs, v1, v3, v4, _, hruns⟩ := hS.som fun e => by subst e; simp at hpos'
                  obtain ⟨A1, hxA⟩ := hx.nec_inv
                  obtain ⟨A0, hA0⟩ : ∃ A0, A0 = some A1 := ⟨_, rfl⟩
                  rw [← hA0] at hxA
                  have hrun := hruns tyc A0 z (by rw [hinf]; exact hz) hle
                  have hge := grownCap_ge w ys.length 0 i.elem
                  have hE := newRow_sound (P := P) (nid := H.length) (hr_drew hr) (e := i.elem) (rows := ys) (cap := grownCap w ys.length 0 i.elem) (cur := vs.toArray ++ Builtin.zeroCells z.cells (grownCap w ys.length 0 i.elem - ys.length)) (by rw [hce]; exact hal)
                    (by rw [hce]; simp [size_zeroCells, v1, hzs, hsz, ← Nat.add_mul]; congr 1; omega) hge (grownCap_le_maxLen w _ 0 _ (by unfold maxLen; omega)) (fun i' j row x u h1 h2 h3 => by
                      rw [hce] at h3
                      obtain ⟨u', q1, q2, q3⟩ := v4 i' j row x h1 h2
                      have hlt : i' * te.sz + j < vs.length := (List.getElem?_eq_some_iff.1 q1).1
                      rw [Array.getElem?_append_left (by simpa using hlt)] at h3
                      simp at h3
                      rw [q1] at h3
                      simp at h3
                      subst h3
                      exact ⟨q2.turn (turn_drew w φ G), q3⟩) hb hφ (r := (Go.builtin .append ⟨[t, t']⟩ tyc cs (List.map a.eval [xo, yo]).toArray).run P w) (by
                      rw [hpre _ rfl, hxA, hrun]
                      rfl)
                  obtain ⟨x', w', φ', e1, e2, e3, e4, e5⟩ := hE
                  exact ⟨x', w', φ', e1, e2, (turn_drew w φ G).trans e3, e4, e5⟩
                · simp at h
            · rename_i id n hxe
              split at h
              · rename_i e' nb rows hb
                split at h
                · rename_i hc
                  simp at h
                  obtain ⟨rfl, rfl⟩ := h
                  obtain ⟨hn, hle, rfl⟩ := hc
                  have hx : RV P w X φ G (.os id n) (a.eval xo) := by rw [← hxe]; exact hx
                  have hb := hG id _ hb
                  by_cases h0 : ys = []
                  · subst h0
                    have hsame : updG G (.set id (.row i.elem nb (rows ++ []))) = G := by simp only [updG, List.append_nil]; exact set_self hb
                    obtain ⟨A', cap', hxv, hle'⟩ : ∃ A' cap', a.eval xo = .slice A' n cap' ∧ n ≤ cap' := by
                      cases hx with
                      | ro h => cases h
                      | os g0 hid hv =>
                        rcases (hv _ nb rows hb).2 hn.symm with ⟨h1, h2, h3, h4⟩ | ⟨g, cap, cur, h4, h5, h6, h7, h8, h9⟩
                        · obtain ⟨A0, h3⟩ := h3
                          exact ⟨A0, 0, by rw [h3, h4], by omega⟩
                        · exact ⟨_, cap, h5, h9⟩
                    refine ⟨_, w, φ, .inl (hpre _ (hnone rfl A' n cap' hxv hle' (fun _ _ => trivial))), by rw [hsame]; exact hr, by rw [hsame]; exact Turn.refl w φ G, by rw [hsame]; simpa [← hxv] using hx, fun _ h _ _ => ⟨h, by rw [hsame]⟩⟩
                  · have hpos' : 0 < ys.length := by cases ys with | nil => simp at h0 | cons => simp
                    have hv : ((∃ A, a.eval xo = .slice A 0 0) ∧ n = 0 ∧ φ id = none) ∨ RV P w X φ G (.os id n) (a.eval xo) ∧ ∃ g cap, φ id = some g ∧ a.eval xo = .slice (some ⟨g, 0, none⟩) n cap := by
                      cases hx with
                      | ro h => cases h
                      | os g0 hid hv =>
                        rcases (hv _ nb rows hb).2 hn.symm with ⟨h1, h2, h3, h4⟩ | ⟨g, cap, cur, h4, h5, h6⟩
                        · exact .inl ⟨h3, h4, h2⟩
                        · exact .inr ⟨.os g0 hid hv, g, cap, h4, h5⟩
                    obtain ⟨v', w', c', hrun, k1, k2, k3⟩ := append_core2 (tyc := tyc) hr hu he hb hn hv rfl hpos' hle hS
                    refine ⟨v', w', _, .inl (by rw [hpre _ rfl, hrun]; rfl), k1, k2, k3, fun j hj _ hne => ?_⟩
                    have hji : j ≠ id := fun e => by
                      subst e
                      rcases hv with ⟨_, _, _⟩ | ⟨_, g, cap, hg, _⟩
                      · cases hx with
                        | ro h => cases h
                        | os g0 hid hv =>
                          rcases (hv _ nb rows hb).2 hn.symm with ⟨h1, _⟩ | ⟨g, cap, cur, h4, _⟩
                          · rw [h1] at hb; exact hne _ _ hb
                          · rw [hj] at h4; simp at h4
                      · rw [hj] at hg; simp at hg
                    exact ⟨by simp [setφ, hji, hj], List.getElem?_set_ne (fun e => hji e.symm)⟩
                · simp at h
              · simp at h
            · rename_i id n lo hh hxe
              split at h
              · rename_i e' nb rows hb
                split at h
                · rename_i hc
                  simp at h
                  obtain ⟨rfl, rfl⟩ := h
                  obtain ⟨hn, hle, rfl, rfl⟩ := hc
                  have hx : RV P w X φ G (.ow id n lo hh) (a.eval xo) := by rw [← hxe]; exact hx
                  have hb := hG id _ hb
                  have hel : elems H te.sz (ev T yo) = some ys := by
                    unfold srcE at hys
                    rw [if_pos rfl] at hys
                    exact hys
                  obtain ⟨v', w', hrun, k1, k2, k3, k4⟩ := append_win (tyc := tyc) hr hu he hb hn hle hx (elems_mono hG hel) hy
                  refine ⟨v', w', φ, .inl (by rw [hpre _ rfl, hrun]; rfl), k1, k2, k3, fun j hj _ _ => ⟨hj, List.getElem?_set_ne (fun e => by rw [e] at k4; exact k4 hj)⟩⟩
                · simp at h
              · simp at h
            · simp at h
          · simp at h
        · simp at h
      · simp at h
    · simp at h
  · -- min
    rename_i x l hargs
    cases args with
    | nil => simp at hargs
    | cons y args =>
      simp at hargs
      obtain ⟨rfl, rfl⟩ := hargs
      split at h
      · rename_i r hr'
        simp at h
        obtain ⟨rfl, rfl⟩ := h
        obtain ⟨u, h1, h2⟩ := fold_sound (fun a b => if b < a then b else a) Builtin.min2 (fun _ _ _ _ => rfl) _ _ r (args.map a.eval) (a.eval y) hr' (hev y (by simp)) (args_len fun x hx => hev x (by simp [hx])) (by simp)
        exact eff_pure hr (x := u) (by simp [Go.builtin, Builtin.min_, h1]) h2
      · simp at h
  · -- max
    rename_i x l hargs
    cases args with
    | nil => simp at hargs
    | cons y args =>
      simp at hargs
      obtain ⟨rfl, rfl⟩ := hargs
      split at h
      · rename_i r hr'
        simp at h
        obtain ⟨rfl, rfl⟩ := h
        obtain ⟨u, h1, h2⟩ := fold_sound (fun a b => if b > a then b else a) Builtin.max2 (fun _ _ _ _ => rfl) _ _ r (args.map a.eval) (a.eval y) hr' (hev y (by simp)) (args_len fun x hx => hev x (by simp [hx])) (by simp)
        exact eff_pure hr (x := u) (by simp [Go.builtin, Builtin.max_, h1]) h2
      · simp at h
  · simp at h
end
end Go.Proofs.YthiclaihlpkinaaGreat
namespace Go.Proofs.YthiclaihlpkinaaGreat
open Go.RowKit
variable [Glob]
section
variable {P : Program} {w0 w : World} {X : Nat → Prop} {φ : Nat → Option Nat} {G H : List Blk} {T : List (Nat × AV)} {a : Act}
theorem eqCs_int {ks : List Nat} {l l' : List AV} {b : Bool} (h : eqCs (0 :: ks) l l' = some b) : ∃ k a b0 r r' e, l = .int k a :: r ∧ l' = .int k b0 :: r' ∧ eqCs ks r r' = some e ∧ b = ((a == b0) && e) := by
  cases l with
  | nil => simp [eqCs] at h
  | cons x r =>
    cases l' with
    | nil => cases x <;> simp [eqCs] at h
    | cons y r' =>
      cases x <;> cases y <;> simp [eqCs] at h
      rename_i k a k' b0
      obtain ⟨rfl, h⟩ := h
      cases he : eqCs ks r r' with
      | none => rw [he] at h; simp at h
      | some e => rw [he] at h; simp at h; exact ⟨_, _, _, _, _, e, rfl, rfl, he, h.symm⟩
theorem eqCs_bool {ks : List Nat} {l l' : List AV} {b : Bool} (h : eqCs (1 :: ks) l l' = some b) : ∃ a b0 r r' e, l = .bool a :: r ∧ l' = .bool b0 :: r' ∧ eqCs ks r r' = some e ∧ b = ((a == b0) && e) := by
  cases l with
  | nil => simp [eqCs] at h
  | cons x r =>
    cases l' with
    | nil => cases x <;> simp [eqCs] at h
    | cons y r' =>
      cases x <;> cases y <;> simp [eqCs] at h
      rename_i a b0
      cases he : eqCs ks r r' with
      | none => rw [he] at h; simp at h
      | some e => rw [he] at h; simp at h; exact ⟨_, _, _, _, e, rfl, rfl, he, h.symm⟩
theorem eqCs_str {ks : List Nat} {l l' : List AV} {b : Bool} (h : eqCs (2 :: ks) l l' = some b) : ∃ a b0 r r' e, l = .str a :: r ∧ l' = .str b0 :: r' ∧ eqCs ks r r' = some e ∧ b = ((a.toList == b0.toList) && e) := by
  cases l with
  | nil => simp [eqCs] at h
  | cons x r =>
    cases l' with
    | nil => cases x <;> simp [eqCs] at h
    | cons y r' =>
      cases x <;> cases y <;> simp [eqCs] at h
      rename_i a b0
      cases he : eqCs ks r r' with
      | none => rw [he] at h; simp at h
      | some e => rw [he] at h; simp at h; exact ⟨_, _, _, _, e, rfl, rfl, he, h.symm⟩
theorem eqf_sound {d : Nat} {xs ys : Array Value} : ∀ (fs : List Field) (ks : List Nat) (k : Nat) (l l' : List AV) (b : Bool), fs.mapM (fun f => if f.name ≠ "_" then skind P f.type else none) = some ks → fs.map (·.offset) = List.range' k fs.length → eqCs ks l l' = some b →
    (∀ (j : Nat) x, l[j]? = some x → ∃ u, xs[k + j]? = some u ∧ RV P w X φ G x u) → (∀ (j : Nat) x, l'[j]? = some x → ∃ u, ys[k + j]? = some u ∧ RV P w X φ G x u) → (Op.eqFields (d + 1) xs ys fs).run P w = .ok b w := by
  intro fs
  induction fs with
  | nil =>
    intro ks k l l' b h _ he _ _
    simp at h
    subst h
    cases l with
    | nil => cases l' with
      | nil => simp [eqCs] at he; subst he; rfl
      | cons => simp [eqCs] at he
    | cons => simp [eqCs] at he
  | cons f fs ih =>
    intro ks k l l' b h ho he hx hy
    rw [List.mapM_cons] at h
    cases hk : (if f.name ≠ "_" then skind P f.type else none) with
    | none => simp [hk] at h
    | some kd =>
      cases hr : fs.mapM (fun f => if f.name ≠ "_" then skind P f.type else none) with
      | none => rw [hk, hr] at h; simp at h
      | some rest =>
        rw [hk, hr] at h
        simp at h
        subst h
        split at hk
        · rename_i hname
          simp only [List.map_cons, List.length_cons, List.range'_succ, List.cons.injEq] at ho
          obtain ⟨ho1, ho2⟩ := ho
          have hshift : ∀ {l : List AV} {y : AV} {zs : Array Value}, (∀ (j : Nat) x, (y :: l)[j]? = some x → ∃ u, zs[k + j]? = some u ∧ RV P w X φ G x u) → ∀ (j : Nat) x, l[j]? = some x → ∃ u, zs[k + 1 + j]? = some u ∧ RV P w X φ G x u := fun h j x hj => by
            obtain ⟨u, h1, h2⟩ := h (j + 1) x (by simpa using hj)
            exact ⟨u, by rw [show k + 1 + j = k + (j + 1) by omega]; exact h1, h2⟩
          have fin : ∀ {p q : AV} {u u' : Value} {r r' : List AV} {e e0 : Bool}, xs[k]? = some u → ys[k]? = some u' → (∀ w : World, (Go.part f.type xs k).run P w = .ok u w) → (∀ w : World, (Go.part f.type ys k).run P w = .ok u' w) → (∀ w : World, (Op.equalIn (d + 1) f.type u u').run P w = .ok e0 w) → (Op.eqFields (d + 1) xs ys fs).run P w = .ok e w → (Op.eqFields (d + 1) xs ys (f :: fs)).run P w = .ok (e0 && e) w := fun _ _ hp1 hp2 heq hrest => by
            simp only [Op.eqFields, hname, ne_eq, not_false_eq_true, if_true, Sem.run_bind, ho1, hp1, hp2, heq, Result.andThen_ok]
            rename_i e e0 _ _
            cases e0 <;> simp [hrest]
          have partRun : ∀ (zs : Array Value) (u : Value) (D : TypeDesc), P.underlying f.type = some D → (∀ fs, D ≠ .struct fs) → (∀ n e, D ≠ .array n e) → zs[k]? = some u → ∀ w : World, (Go.part f.type zs k).run P w = .ok u w := fun zs u D hD h1 h2 hz w => by
            have : (isAgg f.type).run P w = .ok false w := by
              simp only [isAgg, Sem.run_bind, run_underlying hD, Result.andThen_ok]
              cases D <;> first | rfl | exact absurd rfl (h1 _) | exact absurd rfl (h2 _ _)
            simp [Go.part, this, hz]
          have at0 : ∀ {l : List AV} {y : AV} {zs : Array Value}, (∀ (j : Nat) x, (y :: l)[j]? = some x → ∃ u, zs[k + j]? = some u ∧ RV P w X φ G x u) → ∃ u, zs[k]? = some u ∧ RV P w X φ G y u := fun h => by simpa using h 0 _ (by simp)
          unfold skind at hk
          split at hk
          · rename_i ik hD
            simp at hk
            subst hk
            obtain ⟨kk, a, b0, r, r', e, rfl, rfl, h1, rfl⟩ := eqCs_int he
            obtain ⟨u, q1, q2⟩ := at0 hx
            obtain ⟨u', q3, q4⟩ := at0 hy
            have e1 := q2.int_inv
            have e2 := q4.int_inv
            subst e1 e2
            exact fin (p := .nilp) (q := .nilp) (r := []) (r' := []) q1 q3 (partRun xs _ _ hD (fun _ h => by simp at h) (fun _ _ h => by simp at h) q1) (partRun ys _ _ hD (fun _ h => by simp at h) (fun _ _ h => by simp at h) q3) (fun w => run_equalIn_int w d f.type kk ik a b0 hD) (ih rest (k + 1) r r' e hr ho2 h1 (hshift hx) (hshift hy))
          · rename_i hD
            simp at hk
            subst hk
            obtain ⟨a, b0, r, r', e, rfl, rfl, h1, rfl⟩ := eqCs_bool he
            obtain ⟨u, q1, q2⟩ := at0 hx
            obtain ⟨u', q3, q4⟩ := at0 hy
            have e1 := q2.bool_inv
            have e2 := q4.bool_inv
            subst e1 e2
            exact fin (p := .nilp) (q := .nilp) (r := []) (r' := []) q1 q3 (partRun xs _ _ hD (fun _ h => by simp at h) (fun _ _ h => by simp at h) q1) (partRun ys _ _ hD (fun _ h => by simp at h) (fun _ _ h => by simp at h) q3) (fun w => run_equalIn_bool' w d f.type a b0 hD) (ih rest (k + 1) r r' e hr ho2 h1 (hshift hx) (hshift hy))
          · rename_i hD
            simp at hk
            subst hk
            obtain ⟨a, b0, r, r', e, rfl, rfl, h1, rfl⟩ := eqCs_str he
            obtain ⟨u, q1, q2⟩ := at0 hx
            obtain ⟨u', q3, q4⟩ := at0 hy
            have e1 := q2.str_inv
            have e2 := q4.str_inv
            subst e1 e2
            exact fin (p := .nilp) (q := .nilp) (r := []) (r' := []) q1 q3 (partRun xs _ _ hD (fun _ h => by simp at h) (fun _ _ h => by simp at h) q1) (partRun ys _ _ hD (fun _ h => by simp at h) (fun _ _ h => by simp at h) q3) (fun w => run_equalIn_string w d f.type a b0 hD) (ih rest (k + 1) r r' e hr ho2 h1 (hshift hx) (hshift hy))
          · simp at hk
        · simp at hk
/-- One value of a kind that is compared at once. -/
theorem eqCs_app : ∀ {ks1 ks2 : List Nat} {l l' : List AV} {b : Bool}, eqCs (ks1 ++ ks2) l l' = some b → ∃ l1 l2 l1' l2' b1 b2, l = l1 ++ l2 ∧ l' = l1' ++ l2' ∧ l1.length = ks1.length ∧ l1'.length = ks1.length ∧ eqCs ks1 l1 l1' = some b1 ∧ eqCs ks2 l2 l2' = some b2 ∧ b = (b1 && b2) := by
  intro ks1
  induction ks1 with
  | nil => intro ks2 l l' b h; exact ⟨[], l, [], l', true, b, rfl, rfl, rfl, rfl, rfl, h, by simp⟩
  | cons k ks1 ih =>
    intro ks2 l l' b h
    match k, h with
    | 0, h =>
      obtain ⟨kk, a, b0, r, r', e, rfl, rfl, h1, rfl⟩ := eqCs_int h
      obtain ⟨l1, l2, l1', l2', b1, b2, rfl, rfl, h2, h3, h4, h5, rfl⟩ := ih h1
      exact ⟨_ :: l1, l2, _ :: l1', l2', (a == b0) && b1, b2, rfl, rfl, by simp [h2], by simp [h3], by simp [eqCs, h4], h5, by rw [Bool.and_assoc]⟩
    | 1, h =>
      obtain ⟨a, b0, r, r', e, rfl, rfl, h1, rfl⟩ := eqCs_bool h
      obtain ⟨l1, l2, l1', l2', b1, b2, rfl, rfl, h2, h3, h4, h5, rfl⟩ := ih h1
      exact ⟨_ :: l1, l2, _ :: l1', l2', (a == b0) && b1, b2, rfl, rfl, by simp [h2], by simp [h3], by simp [eqCs, h4], h5, by rw [Bool.and_assoc]⟩
    | 2, h =>
      obtain ⟨a, b0, r, r', e, rfl, rfl, h1, rfl⟩ := eqCs_str h
      obtain ⟨l1, l2, l1', l2', b1, b2, rfl, rfl, h2, h3, h4, h5, rfl⟩ := ih h1
      exact ⟨_ :: l1, l2, _ :: l1', l2', (a.toList == b0.toList) && b1, b2, rfl, rfl, by simp [h2], by simp [h3], by simp [eqCs, h4], h5, by rw [Bool.and_assoc]⟩
    | k + 3, h => simp [eqCs] at h
theorem deepF_sound {d : Nat} {xs ys : Array Value} : ∀ (fs : List Field) (ks : List Nat) (k : Nat) (l l' : List AV) (b : Bool), deepF P fs k = some ks → eqCs ks l l' = some b →
    (∀ (j : Nat) x, l[j]? = some x → ∃ u, xs[k + j]? = some u ∧ RV P w X φ G x u) → (∀ (j : Nat) x, l'[j]? = some x → ∃ u, ys[k + j]? = some u ∧ RV P w X φ G x u) → (Op.eqFields (d + 2) xs ys fs).run P w = .ok b w := by
  intro fs
  induction fs with
  | nil =>
    intro ks k l l' b h he _ _
    simp [deepF] at h
    subst h
    cases l with
    | nil => cases l' with
      | nil => simp [eqCs] at he; subst he; rfl
      | cons => simp [eqCs] at he
    | cons => simp [eqCs] at he
  | cons f fs ih =>
    intro ks k l l' b h he hx hy
    unfold deepF at h
    split at h
    rotate_left
    · cases h
    rename_i hc
    obtain ⟨hname, hoff⟩ := hc
    have fin : ∀ {u u' : Value} {e e0 : Bool}, (Go.part f.type xs k).run P w = .ok u w → (Go.part f.type ys k).run P w = .ok u' w → (Op.equalIn (d + 2) f.type u u').run P w = .ok e0 w → (Op.eqFields (d + 2) xs ys fs).run P w = .ok e w → (Op.eqFields (d + 2) xs ys (f :: fs)).run P w = .ok (e0 && e) w := fun hp1 hp2 heq hrest => by
      simp only [Op.eqFields, hname, ne_eq, not_false_eq_true, if_true, Sem.run_bind, hoff, hp1, hp2, heq, Result.andThen_ok]
      rename_i e e0
      cases e0 <;> simp [hrest]
    split at h
    · rename_i n hn
      split at h
      · rename_i ks2 hks2
        cases h
        have h1 : (Op.eqFields (d + 1 + 1) xs ys [f]).run P w = .ok (match eqCs [n] (l.take 1) (l'.take 1) with | some e => e | none => false) w ∧ ∃ e2, eqCs ks2 (l.drop 1) (l'.drop 1) = some e2 ∧ b = ((match eqCs [n] (l.take 1) (l'.take 1) with | some e => e | none => false) && e2) ∧ 0 < l.length ∧ 0 < l'.length := by
          obtain ⟨l1, l2, l1', l2', b1, b2, rfl, rfl, q1, q2, q3, q4, rfl⟩ := eqCs_app (ks1 := [n]) (ks2 := ks2) he
          simp at q1 q2
          have t1 : (l1 ++ l2).take 1 = l1 := by rw [← q1, List.take_left]
          have t2 : (l1' ++ l2').take 1 = l1' := by rw [← q2, List.take_left]
          have t3 : (l1 ++ l2).drop 1 = l2 := by rw [← q1, List.drop_left]
          have t4 : (l1' ++ l2').drop 1 = l2' := by rw [← q2, List.drop_left]
          rw [t1, t2, t3, t4, q3]
          refine ⟨eqf_sound (d := d + 1) [f] [n] k l1 l1' b1 (by simp [hname, hn]) (by simp [hoff, List.range']) q3 (fun j x hj => hx j x ?_) (fun j x hj => hy j x ?_), b2, q4, rfl, by simp; omega, by simp; omega⟩
          · rw [List.getElem?_append_left (List.getElem?_eq_some_iff.1 hj).1]; exact hj
          · rw [List.getElem?_append_left (List.getElem?_eq_some_iff.1 hj).1]; exact hj
        obtain ⟨h1, e2, h2, rfl, hl1, hl2⟩ := h1
        have h3 := ih ks2 (k + 1) (l.drop 1) (l'.drop 1) e2 hks2 h2 (fun j x hj => by
          obtain ⟨u, p1, p2⟩ := hx (1 + j) x (by rwa [List.getElem?_drop] at hj)
          exact ⟨u, by rw [show k + 1 + j = k + (1 + j) by omega]; exact p1, p2⟩) (fun j x hj => by
          obtain ⟨u, p1, p2⟩ := hy (1 + j) x (by rwa [List.getElem?_drop] at hj)
          exact ⟨u, by rw [show k + 1 + j = k + (1 + j) by omega]; exact p1, p2⟩)
        simp only [Op.eqFields, hname, ne_eq, not_false_eq_true, if_true, Sem.run_bind] at h1 ⊢
        generalize (Go.part f.type xs f.offset).run P w = r1 at h1 ⊢
        cases r1 with
        | halt => simp [Result.andThen] at h1
        | ok a1 w1 =>
          simp only [Result.andThen_ok] at h1 ⊢
          generalize (Go.part f.type ys f.offset).run P w1 = r2 at h1 ⊢
          cases r2 with
          | halt => simp [Result.andThen] at h1
          | ok a2 w2 =>
            simp only [Result.andThen_ok] at h1 ⊢
            generalize (Op.equalIn (d + 1 + 1) f.type a1 a2).run P w2 = r3 at h1 ⊢
            cases r3 with
            | halt => simp [Result.andThen] at h1
            | ok e w3 =>
              simp only [Result.andThen_ok] at h1 ⊢
              cases e with
              | false =>
                simp only [Bool.not_false, if_true, Sem.run_pure] at h1 ⊢
                injection h1 with h1 hw
                rw [← h1, hw]; rfl
              | true =>
                simp only [Bool.not_true, Bool.false_eq_true, if_false, Sem.run_pure] at h1 ⊢
                injection h1 with h1 hw
                subst hw
                rw [← h1, h3]; simp
      · cases h
    · rename_i hn
      split at h
      · rename_i ks1 i hk1 hi
        split at h
        · rename_i hag
          split at h
          · rename_i ks2 hks2
            cases h
            obtain ⟨l1, l2, l1', l2', b1, b2, rfl, rfl, q1, q2, q3, q4, rfl⟩ := eqCs_app he
            have hprt : ∀ zs : Array Value, (Go.part f.type zs k).run P w = .ok (.agg (zs.extract k (k + i.sz))) w := fun zs => by
              simp [Go.part, run_isAgg_ty hi, hag.1, run_sizeOf_ty hi]
            have hex : ∀ (zs : Array Value) (m : List AV) (m2 : List AV), m.length = ks1.length → (∀ (j : Nat) x, (m ++ m2)[j]? = some x → ∃ u, zs[k + j]? = some u ∧ RV P w X φ G x u) → ∀ (j : Nat) x, m[j]? = some x → ∃ u, (zs.extract k (k + i.sz))[0 + j]? = some u ∧ RV P w X φ G x u := fun zs m m2 hm hz j x hj => by
              have hjl := (List.getElem?_eq_some_iff.1 hj).1
              obtain ⟨u, p1, p2⟩ := hz j x (by rw [List.getElem?_append_left hjl]; exact hj)
              refine ⟨u, ?_, p2⟩
              have hkj := (Array.getElem?_eq_some_iff.1 p1).1
              rw [Array.getElem?_extract, if_pos (by rw [hag.2]; omega), Nat.zero_add, p1]
            have heq : (Op.equalIn (d + 1 + 1) f.type (.agg (xs.extract k (k + i.sz))) (.agg (ys.extract k (k + i.sz)))).run P w = .ok b1 w := by
              obtain ⟨fs1, hD, c1, c3, hm⟩ : ∃ fs1, P.underlying f.type = some (.struct fs1) ∧ P.stoodInHeld f.type = false ∧ fs1.toList.map (·.offset) = List.range' 0 fs1.toList.length ∧ fs1.toList.mapM (fun f => if f.name ≠ "_" then skind P f.type else none) = some ks1 := by
                unfold eqKinds at hk1
                split at hk1
                · rename_i fs1 hD
                  split at hk1
                  · rename_i hc
                    exact ⟨fs1, hD, hc.1, hc.2.2, hk1⟩
                  · cases hk1
                · cases hk1
              have hfs : P.fieldsOf f.type = fs1 := by simp [Program.fieldsOf, hD]
              rw [run_equalIn_agg w (d + 1) f.type _ _ (by rw [hfs]; exact hD) c1, hfs]
              exact eqf_sound (d := d) fs1.toList ks1 0 l1 l1' b1 hm c3 q3 (hex xs l1 l2 q1 hx) (hex ys l1' l2' q2 hy)
            refine fin (hprt xs) (hprt ys) heq (ih ks2 (k + ks1.length) l2 l2' b2 hks2 q4 (fun j x hj => ?_) (fun j x hj => ?_))
            · obtain ⟨u, p1, p2⟩ := hx (ks1.length + j) x (by rw [List.getElem?_append_right (by omega)]; rw [show ks1.length + j - l1.length = j by omega]; exact hj)
              exact ⟨u, by rw [Nat.add_assoc]; exact p1, p2⟩
            · obtain ⟨u, p1, p2⟩ := hy (ks1.length + j) x (by rw [List.getElem?_append_right (by omega)]; rw [show ks1.length + j - l1'.length = j by omega]; exact hj)
              exact ⟨u, by rw [Nat.add_assoc]; exact p1, p2⟩
          · cases h
        · cases h
      · cases h
theorem skind_cases {t : TypeId} {n : Nat} (h : skind P t = some n) : (∃ k, P.underlying t = some (.int k) ∧ n = 0) ∨ (P.underlying t = some .bool ∧ n = 1) ∨ (P.underlying t = some .string ∧ n = 2) := by
  unfold skind at h
  split at h
  · rename_i k hk; simp at h; exact .inl ⟨k, hk, h.symm⟩
  · rename_i hk; simp at h; exact .inr (.inl ⟨hk, h.symm⟩)
  · rename_i hk; simp at h; exact .inr (.inr ⟨hk, h.symm⟩)
  · simp at h
theorem skind_check {t : TypeId} {n : Nat} (h : skind P t = some n) (em : Bool) (d : Nat) (v : Value) (w : World) : (Instr.checkKey em (d + 1) t v).run P w = .ok () w := by
  unfold Instr.checkKey
  rcases skind_cases h with ⟨k, hk, _⟩ | ⟨hk, _⟩ | ⟨hk, _⟩ <;> simp only [Sem.run_bind, run_underlying hk, Result.andThen_ok] <;> cases v <;> rfl
theorem skind_part {t : TypeId} {n : Nat} (h : skind P t = some n) (zs : Array Value) (k : Nat) (u : Value) (hz : zs[k]? = some u) (w : World) : (Go.part t zs k).run P w = .ok u w := by
  have : (isAgg t).run P w = .ok false w := by
    rcases skind_cases h with ⟨k, hk, _⟩ | ⟨hk, _⟩ | ⟨hk, _⟩ <;> simp [isAgg, run_underlying hk]
  simp [Go.part, this, hz]
/-- Equal values have the same signs. -/
theorem eqCs_bits : ∀ (ks : List Nat) (l l' : List AV) (us us' : List Value), eqCs ks l l' = some true → l.length = us.length → l'.length = us'.length → (∀ (j : Nat) x u, l[j]? = some x → us[j]? = some u → RV P w X φ G x u) → (∀ (j : Nat) x u, l'[j]? = some x → us'[j]? = some u → RV P w X φ G x u) →
    us.length = us'.length ∧ ∀ n, ((us.zip us').all fun (p : Value × Value) => Instr.sameBits (n + 1) p.1 p.2) = true := by
  intro ks
  induction ks with
  | nil =>
    intro l l' us us' h h1 h2 _ _
    cases l <;> cases l' <;> simp [eqCs] at h
    simp at h1 h2
    have e1 := List.eq_nil_of_length_eq_zero h1.symm
    have e2 := List.eq_nil_of_length_eq_zero h2.symm
    subst e1 e2
    exact ⟨rfl, fun n => rfl⟩
  | cons k ks ih =>
    intro l l' us us' h h1 h2 hx hy
    have fin : ∀ {x y : AV} {r r' : List AV}, l = x :: r → l' = y :: r' → eqCs ks r r' = some true → (∀ u u', RV P w X φ G x u → RV P w X φ G y u' → ∀ n, Instr.sameBits (n + 1) u u' = true) → us.length = us'.length ∧ ∀ n, ((us.zip us').all fun (p : Value × Value) => Instr.sameBits (n + 1) p.1 p.2) = true := fun e1 e2 he hs => by
      subst e1 e2
      cases us with
      | nil => simp at h1
      | cons u us =>
        cases us' with
        | nil => simp at h2
        | cons u' us' =>
          obtain ⟨q1, q2⟩ := ih _ _ us us' he (by simpa using h1) (by simpa using h2) (fun j x v h3 h4 => hx (j + 1) x v (by simpa using h3) (by simpa using h4)) (fun j x v h3 h4 => hy (j + 1) x v (by simpa using h3) (by simpa using h4))
          exact ⟨by simp [q1], fun n => by simp only [List.zip_cons_cons, List.all_cons, Bool.and_eq_true]; exact ⟨hs u u' (hx 0 _ u (by simp) (by simp)) (hy 0 _ u' (by simp) (by simp)) n, q2 n⟩⟩
    match k with
    | 0 =>
      obtain ⟨kk, a, b0, r, r', e, e1, e2, h3, h4⟩ := eqCs_int h
      have h4 := h4.symm
      simp at h4
      obtain ⟨rfl, rfl⟩ := h4
      exact fin e1 e2 h3 fun u u' q1 q2 n => by rw [q1.int_inv, q2.int_inv]; simp [Instr.sameBits]
    | 1 =>
      obtain ⟨a, b0, r, r', e, e1, e2, h3, h4⟩ := eqCs_bool h
      have h4 := h4.symm
      simp at h4
      obtain ⟨rfl, rfl⟩ := h4
      exact fin e1 e2 h3 fun u u' q1 q2 n => by rw [q1.bool_inv, q2.bool_inv]; simp [Instr.sameBits]
    | 2 =>
      obtain ⟨a, b0, r, r', e, e1, e2, h3, h4⟩ := eqCs_str h
      have h4 := h4.symm
      simp at h4
      obtain ⟨h5, rfl⟩ := h4
      exact fin e1 e2 h3 fun u u' q1 q2 n => by
        rw [q1.str_inv, q2.str_inv]
        have : (a == b0) = true := by rw [beq_toListBytes]; simpa using h5
        simpa [Instr.sameBits] using this
    | k + 3 => simp [eqCs] at h
theorem eqCs_swap : ∀ (ks : List Nat) (l l' : List AV), eqCs ks l l' = some true → eqCs ks l' l = some true := by
  intro ks
  induction ks with
  | nil => intro l l' h; cases l <;> cases l' <;> simp [eqCs] at h ⊢
  | cons k ks ih =>
    intro l l' h
    match k with
    | 0 =>
      obtain ⟨_, a, b0, r, r', e, rfl, rfl, h3, h4⟩ := eqCs_int h
      have h4 := h4.symm
      simp at h4
      obtain ⟨rfl, rfl⟩ := h4
      simp [eqCs, ih _ _ h3]
    | 1 =>
      obtain ⟨a, b0, r, r', e, rfl, rfl, h3, h4⟩ := eqCs_bool h
      have h4 := h4.symm
      simp at h4
      obtain ⟨rfl, rfl⟩ := h4
      simp [eqCs, ih _ _ h3]
    | 2 =>
      obtain ⟨a, b0, r, r', e, rfl, rfl, h3, h4⟩ := eqCs_str h
      have h4 := h4.symm
      simp at h4
      obtain ⟨h5, rfl⟩ := h4
      simp [eqCs, ih _ _ h3, h5]
    | k + 3 => simp [eqCs] at h
theorem keq_swap {ks : Bool × List Nat} {x y : AV} (h : keq ks x y = some true) : keq ks y x = some true := by
  obtain ⟨b, ks⟩ := ks
  cases b
  · exact eqCs_swap _ _ _ h
  · simp only [keq] at h ⊢
    split at h
    · exact eqCs_swap _ _ _ h
    · simp at h
theorem keyKs_cases {kt : TypeId} {ks : Bool × List Nat} (hks : keyKs P kt = some ks) : (∃ n, skind P kt = some n ∧ ks = (false, [n])) ∨ ∃ l, eqKinds P kt = some l ∧ ks = (true, l) := by
  unfold keyKs at hks
  split at hks
  · rename_i n hn; simp at hks; exact .inl ⟨n, hn, hks.symm⟩
  · split at hks
    · rename_i l hl; simp at hks; exact .inr ⟨l, hl, hks.symm⟩
    · simp at hks
theorem keq_agg {ks : List Nat} {x y : AV} {b : Bool} (h : keq (true, ks) x y = some b) : ∃ xs ys, x = .agg xs ∧ y = .agg ys ∧ eqCs ks xs ys = some b := by
  simp only [keq] at h
  split at h
  · exact ⟨_, _, rfl, rfl, h⟩
  · simp at h
theorem keq_bits {kt : TypeId} {ks : Bool × List Nat} (hks : keyKs P kt = some ks) {x y : AV} {u u' : Value} (h : keq ks x y = some true) (hx : RV P w X φ G x u) (hy : RV P w X φ G y u') : Instr.sameBits 10000 u u' = true := by
  rcases keyKs_cases hks with ⟨n, hn, rfl⟩ | ⟨l, hl, rfl⟩
  · obtain ⟨_, h2⟩ := eqCs_bits (P := P) (w := w) (X := X) (φ := φ) (G := G) [n] [x] [y] [u] [u'] h rfl rfl (fun j z v h3 h4 => by cases j with | zero => simp at h3 h4; subst h3 h4; exact hx | succ j => simp at h3) (fun j z v h3 h4 => by cases j with | zero => simp at h3 h4; subst h3 h4; exact hy | succ j => simp at h3)
    simpa using h2 9999
  · obtain ⟨xs, ys, rfl, rfl, h1⟩ := keq_agg h
    obtain ⟨vs, rfl, k1, _, k2⟩ := hx.agg_inv
    obtain ⟨vs', rfl, k3, _, k4⟩ := hy.agg_inv
    obtain ⟨h2, h3⟩ := eqCs_bits (P := P) (w := w) (X := X) (φ := φ) (G := G) l xs ys vs.toList vs'.toList h1 (by simpa using k1) (by simpa using k3) (fun j z v h3 h4 => k2 j z v h3 (by simpa using h4)) (fun j z v h3 h4 => k4 j z v h3 (by simpa using h4))
    have h4 := h3 9998
    simp only [Instr.sameBits, Bool.and_eq_true, beq_iff_eq]
    exact ⟨by simpa using h2, h4⟩
theorem eqKinds_spec {t : TypeId} {ks : List Nat} (h : eqKinds P t = some ks) : ∃ fs, P.underlying t = some (.struct fs) ∧ P.stoodInHeld t = false ∧ fs.toList.map (·.offset) = List.range' 0 fs.toList.length ∧ fs.toList.mapM (fun f => if f.name ≠ "_" then skind P f.type else none) = some ks := by
  unfold eqKinds at h
  split at h
  · rename_i fs hD
    split at h
    · rename_i hc
      exact ⟨fs, hD, hc.1, hc.2.2, h⟩
    · simp at h
  · simp at h
/-- Keys are compared. -/
theorem keq_eq {kt : TypeId} {ks : Bool × List Nat} (hks : keyKs P kt = some ks) {x y : AV} {u u' : Value} {b : Bool} (h : keq ks x y = some b) (hx : RV P w X φ G x u) (hy : RV P w X φ G y u') : (Op.equal kt u u').run P w = .ok b w := by
  rcases keyKs_cases hks with ⟨n, hn, rfl⟩ | ⟨l, hl, rfl⟩
  · simp only [keq] at h
    rcases skind_cases hn with ⟨k0, hk, rfl⟩ | ⟨hk, rfl⟩ | ⟨hk, rfl⟩
    · obtain ⟨kk, a, b0, r, r', e, e1, e2, h3, h4⟩ := eqCs_int h
      simp at e1 e2
      obtain ⟨rfl, rfl⟩ := e1
      obtain ⟨rfl, rfl⟩ := e2
      simp [eqCs] at h3
      subst h3
      rw [hx.int_inv, hy.int_inv, h4]
      simpa using (show (Op.equal kt (.int kk a) (.int kk b0)).run P w = .ok (a == b0) w from run_equalIn_int w 9999 kt kk k0 a b0 hk)
    · obtain ⟨a, b0, r, r', e, e1, e2, h3, h4⟩ := eqCs_bool h
      simp at e1 e2
      obtain ⟨rfl, rfl⟩ := e1
      obtain ⟨rfl, rfl⟩ := e2
      simp [eqCs] at h3
      subst h3
      rw [hx.bool_inv, hy.bool_inv, h4]
      simpa using (show (Op.equal kt (.bool a) (.bool b0)).run P w = .ok (a == b0) w from run_equalIn_bool' w 9999 kt a b0 hk)
    · obtain ⟨a, b0, r, r', e, e1, e2, h3, h4⟩ := eqCs_str h
      simp at e1 e2
      obtain ⟨rfl, rfl⟩ := e1
      obtain ⟨rfl, rfl⟩ := e2
      simp [eqCs] at h3
      subst h3
      rw [hx.str_inv, hy.str_inv, h4]
      simpa using (show (Op.equal kt (.string a) (.string b0)).run P w = .ok (a.toList == b0.toList) w from run_equalIn_string w 9999 kt a b0 hk)
  · obtain ⟨xs, ys, rfl, rfl, h1⟩ := keq_agg h
    obtain ⟨vs, rfl, k1, _, k2⟩ := hx.agg_inv
    obtain ⟨vs', rfl, k3, _, k4⟩ := hy.agg_inv
    obtain ⟨fs, hD, c1, c3, hm⟩ := eqKinds_spec hl
    have hfs : P.fieldsOf kt = fs := by simp [Program.fieldsOf, hD]
    show (Op.equalIn (9999 + 1) kt (.agg vs) (.agg vs')).run P w = .ok b w
    rw [run_equalIn_agg w 9999 kt vs vs' (by rw [hfs]; exact hD) c1, hfs]
    have hget : ∀ {cs : List AV} {vs : Array Value}, cs.length = vs.size → (∀ (j : Nat) x u, cs[j]? = some x → vs[j]? = some u → RV P w X φ G x u) → ∀ (j : Nat) x, cs[j]? = some x → ∃ u, vs[0 + j]? = some u ∧ RV P w X φ G x u := fun hl hr j x hj => by
      have := (List.getElem?_eq_some_iff.1 hj).1
      have hj' := Nat.lt_of_lt_of_eq this hl
      exact ⟨_, by rw [Nat.zero_add]; exact Array.getElem?_eq_getElem hj', hr j x _ hj (Array.getElem?_eq_getElem hj')⟩
    exact eqf_sound (d := 9998) fs.toList l 0 xs ys b hm c3 h1 (hget k1 k2) (hget k3 k4)
theorem eqCs_dom : ∀ (ks : List Nat) (l l' : List AV) (b : Bool), eqCs ks l l' = some b → l.length = ks.length := by
  intro ks
  induction ks with
  | nil => intro l l' b h; cases l <;> cases l' <;> simp [eqCs] at h; rfl
  | cons k ks ih =>
    intro l l' b h
    match k with
    | 0 => obtain ⟨_, _, _, r, r', e, rfl, rfl, h3, _⟩ := eqCs_int h; simp [ih _ _ _ h3]
    | 1 => obtain ⟨_, _, r, r', e, rfl, rfl, h3, _⟩ := eqCs_bool h; simp [ih _ _ _ h3]
    | 2 => obtain ⟨_, _, r, r', e, rfl, rfl, h3, _⟩ := eqCs_str h; simp [ih _ _ _ h3]
    | k + 3 => simp [eqCs] at h
theorem keq_check {kt : TypeId} {ks : Bool × List Nat} (hks : keyKs P kt = some ks) {x y : AV} {u : Value} {b : Bool} (h : keq ks x y = some b) (hx : RV P w X φ G x u) (em : Bool) : (Instr.checkKey em 10000 kt u).run P w = .ok () w := by
  rcases keyKs_cases hks with ⟨n, hn, rfl⟩ | ⟨l, hl, rfl⟩
  · exact skind_check hn em 9999 u w
  · obtain ⟨xs, ys, rfl, rfl, h1⟩ := keq_agg h
    obtain ⟨vs, rfl, k1, _, k2⟩ := hx.agg_inv
    obtain ⟨fs, hD, c1, c3, hm⟩ := eqKinds_spec hl
    have hlen := eqCs_dom _ _ _ _ h1
    have hfl : fs.toList.length = l.length := ((mapM_spec hm).1).symm
    unfold Instr.checkKey
    simp only [Sem.run_bind, run_underlying hD, Result.andThen_ok]
    rw [← Array.forIn_toList]
    have hbound : ∀ f ∈ fs.toList, f.offset < vs.size := fun f hf => by
      have : f.offset ∈ fs.toList.map (·.offset) := List.mem_map_of_mem hf
      rw [c3] at this
      have := (List.mem_range'_1.1 this).2
      omega
    have hsk : ∀ f ∈ fs.toList, f.name ≠ "_" ∧ ∃ n, skind P f.type = some n := fun f hf => by
      obtain ⟨j, hj, rfl⟩ := List.getElem_of_mem hf
      obtain ⟨y', _, h2⟩ := (mapM_spec hm).2 j _ (List.getElem?_eq_getElem hj)
      split at h2
      · rename_i hn; exact ⟨hn, _, h2⟩
      · simp at h2
    clear c3 hm hfl
    generalize fs.toList = L at hbound hsk
    induction L with
    | nil => simp
    | cons f L ih =>
      obtain ⟨hn, n, hs⟩ := hsk f (by simp)
      have hlt := hbound f (by simp)
      have p1 := skind_part hs vs f.offset _ (Array.getElem?_eq_getElem hlt) w
      have p2 := skind_check hs em 9998 vs[f.offset] w
      simp only [List.forIn_cons, Sem.run_bind, hn, ne_eq, not_false_eq_true, if_true, Result.andThen_ok, p1, p2, Sem.run_pure]
      exact ih (fun y hy => hbound y (by simp [hy])) (fun y hy => hsk y (by simp [hy]))
theorem mapTy_spec {t : TypeId} {z : AV} {ks : Bool × List Nat} (h : mapTy P t = some (z, ks)) : ∃ kt et zv, P.underlying t = some (.map kt et) ∧ keyKs P kt = some ks ∧ z = ofV zv ∧ ∀ w : World, (zeroValue et).run P w = .ok zv w := by
  unfold mapTy at h
  split at h
  · rename_i kt et hu
    split at h
    · rename_i ks' zv hk hz
      simp at h
      obtain ⟨rfl, rfl⟩ := h
      rw [Option.bind_eq_some_iff] at hz
      obtain ⟨i, h1, h2⟩ := hz
      exact ⟨kt, et, zv, hu, hk, rfl, fun w => by simp [zeroValue, typeInfo, h1, h2]⟩
    · simp at h
  · simp at h
/-- A key is looked for. -/
theorem find_sound {kt : TypeId} {ks : Bool × List Nat} (hks : keyKs P kt = some ks) {k : AV} {kv : Value} (hk : RV P w X φ G k kv) : ∀ (es : List (AV × AV)) (ents : List MapEntry) (i : Nat) (r : Option (Nat × AV)), mfind ks k es i = some r → ents.length = es.length →
    (∀ (j : Nat) k' x ent, es[j]? = some (k', x) → ents[j]? = some ent → RV P w X φ G k' ent.key ∧ RV P w X φ G x ent.val) →
    ∃ r', (Instr.findAsking kt kv ents i).run P w = .ok r' w ∧ (∀ d n, skind P kt = some n → P.underlying kt = some d → Instr.findNow d kv ents i = some r') ∧
      ((r = none ∧ r' = none) ∨ ∃ j x ent, r = some (i + j, x) ∧ r' = some (i + j, ent.val) ∧ ents[j]? = some ent ∧ RV P w X φ G x ent.val ∧ Instr.sameBits 10000 ent.key kv = true) := by
  intro es
  induction es with
  | nil =>
    intro ents i r h hl _
    simp [mfind] at h
    subst h
    have := List.eq_nil_of_length_eq_zero hl
    subst this
    exact ⟨none, rfl, fun _ _ _ _ => rfl, .inl ⟨rfl, rfl⟩⟩
  | cons e es ih =>
    intro ents i r h hl hr
    cases ents with
    | nil => simp at hl
    | cons ent ents =>
      obtain ⟨hk1, hk2⟩ := hr 0 e.1 e.2 ent (by simp) (by simp)
      have hnow : ∀ b d n, keq ks k e.1 = some b → skind P kt = some n → P.underlying kt = some d → Instr.sameNow d kv ent.key = some b := fun b d n hq hn hd => by
        rcases keyKs_cases hks with ⟨n', hn', rfl⟩ | ⟨l, hl', rfl⟩
        · simp only [keq] at hq
          rcases skind_cases hn' with ⟨k0, hk', rfl⟩ | ⟨hk', rfl⟩ | ⟨hk', rfl⟩
          · obtain ⟨kk, a, b0, r, r', e', e1, e2, h3, h4⟩ := eqCs_int hq
            simp at e1 e2
            obtain ⟨rfl, rfl⟩ := e1
            rw [hd] at hk'; simp at hk'; subst hk'
            have e2' := e2.1
            rw [e2'] at hk1
            obtain ⟨_, rfl⟩ := e2
            simp [eqCs] at h3
            subst h3
            rw [hk.int_inv, hk1.int_inv, h4]
            simp [Instr.sameNow]
          · obtain ⟨a, b0, r, r', e', e1, e2, h3, h4⟩ := eqCs_bool hq
            simp at e1 e2
            obtain ⟨rfl, rfl⟩ := e1
            rw [hd] at hk'; simp at hk'; subst hk'
            have e2' := e2.1
            rw [e2'] at hk1
            obtain ⟨_, rfl⟩ := e2
            simp [eqCs] at h3
            subst h3
            rw [hk.bool_inv, hk1.bool_inv, h4]
            simp [Instr.sameNow]
          · obtain ⟨a, b0, r, r', e', e1, e2, h3, h4⟩ := eqCs_str hq
            simp at e1 e2
            obtain ⟨rfl, rfl⟩ := e1
            rw [hd] at hk'; simp at hk'; subst hk'
            have e2' := e2.1
            rw [e2'] at hk1
            obtain ⟨_, rfl⟩ := e2
            simp [eqCs] at h3
            subst h3
            rw [hk.str_inv, hk1.str_inv, h4]
            simp only [Instr.sameNow, Bool.and_true, Option.some.injEq]
            exact beq_toListBytes _ _
        · unfold keyKs at hks
          rw [hn] at hks
          simp at hks
      simp only [mfind] at h
      split at h
      · rename_i hq
        simp at h
        subst h
        refine ⟨some (i, ent.val), ?_, fun d n hn hd => ?_, .inr ⟨0, e.2, ent, rfl, rfl, by simp, hk2, ?_⟩⟩
        · simp [Instr.findAsking, keq_eq hks hq hk hk1]
        · simp [Instr.findNow, hnow true d n hq hn hd]
        · exact keq_bits hks (keq_swap hq) hk1 hk
      · rename_i hq
        obtain ⟨r', h1, h2, h3⟩ := ih ents (i + 1) r h (by simpa using hl) (fun j k' x en q1 q2 => hr (j + 1) k' x en (by simpa using q1) (by simpa using q2))
        refine ⟨r', ?_, fun d n hn hd => ?_, ?_⟩
        · simp [Instr.findAsking, keq_eq hks hq hk hk1, h1]
        · simp [Instr.findNow, hnow false d n hq hn hd, h2 d n hn hd]
        · rcases h3 with h3 | ⟨j, x, en, q1, q2, q3, q4⟩
          · exact .inl h3
          · exact .inr ⟨j + 1, x, en, by rw [q1]; simp; omega, by rw [q2]; simp; omega, by simpa using q3, q4⟩
      · simp at h
theorem findKey_sound {kt : TypeId} {ks : Bool × List Nat} (hks : keyKs P kt = some ks) {k : AV} {kv : Value} (hk : RV P w X φ G k kv) {es : List (AV × AV)} {ents : Array MapEntry} {r : Option (Nat × AV)} (h : mfind ks k es 0 = some r) (hl : ents.size = es.length)
    (hr : ∀ (j : Nat) k' x ent, es[j]? = some (k', x) → ents[j]? = some ent → RV P w X φ G k' ent.key ∧ RV P w X φ G x ent.val) :
    ∃ r', (Instr.findKey kt kv ents.toList).run P w = .ok r' w ∧ ((r = none ∧ r' = none) ∨ ∃ j x ent, r = some (j, x) ∧ r' = some (j, ent.val) ∧ ents[j]? = some ent ∧ RV P w X φ G x ent.val ∧ Instr.sameBits 10000 ent.key kv = true) := by
  obtain ⟨r', h1, h2, h3⟩ := find_sound hks hk es ents.toList 0 r h (by simpa using hl) (fun j k' x ent q1 q2 => hr j k' x ent q1 (by simpa using q2))
  refine ⟨r', ?_, ?_⟩
  · rcases keyKs_cases hks with ⟨n, hn, _⟩ | ⟨l, hl', rfl⟩
    · have : ∃ d, P.underlying kt = some d := by rcases skind_cases hn with ⟨k0, hk', _⟩ | ⟨hk', _⟩ | ⟨hk', _⟩ <;> exact ⟨_, hk'⟩
      obtain ⟨d, hd⟩ := this
      exact Go.MapKept.run_findKey hd (h2 d n hn hd)
    · obtain ⟨fs, hD, _⟩ := eqKinds_spec hl'
      simp only [Instr.findKey, Sem.run_bind, run_underlying hD, Result.andThen_ok]
      cases hent : ents.toList with
      | nil =>
        rw [hent] at h1
        simp [Instr.findAsking] at h1
        simp [Instr.findNow, h1]
      | cons e es' =>
        rw [hent] at h1
        simp [Instr.findNow, Instr.sameNow, h1]
  · rcases h3 with h3 | ⟨j, x, ent, q1, q2, q3, q4, q5⟩
    · exact .inl h3
    · exact .inr ⟨j, x, ent, by simpa using q1, by simpa using q2, by simpa using q3, q4, q5⟩
/-- A map's block is turned. -/
theorem heap_setMap {w : World} {c : Nat} {es : Array MapEntry} {clock : Nat} (o : Obj) (hb : w.heap[c]? = some (.map es clock)) : (World.heap { w with heap := w.heap.setIfInBounds c o })[c]? = some o ∧ ∀ k, k ≠ c → (World.heap { w with heap := w.heap.setIfInBounds c o })[k]? = w.heap[k]? := by
  have hlt : c < w.heap.size := (Array.getElem?_eq_some_iff.1 hb).1
  exact ⟨by simp [hlt], fun k hne => by simp [Ne.symm hne]⟩
theorem turn_setMap (hr : HR P w0 X w φ G) {id c : Nat} {es es' : List (AV × AV)} (hb : G[id]? = some (.map es)) (hφ : φ id = some c) {ents ents' : Array MapEntry} {clock clock' : Nat} (hc : w.heap[c]? = some (.map ents clock)) (hbn : BornE ents ents' clock clock') :
    Turn w φ G { w with heap := w.heap.setIfInBounds c (.map ents' clock') } φ (G.set id (.map es')) where
  size := by simp
  len := by simp
  old := fun k h hl => ⟨(heap_setMap _ hc).2 k (fun e => h id (by rw [e]; exact hφ)), h⟩
  box := fun i t cs' _ h => by
    by_cases e : id = i
    · subst e
      rw [List.getElem?_set] at h
      simp at h
    · rw [List.getElem?_set_ne e] at h
      exact ⟨cs', h, fun _ h => h⟩
  row := fun i e' nb rows' _ h => by
    by_cases e : id = i
    · subst e
      rw [List.getElem?_set] at h
      simp at h
    · rw [List.getElem?_set_ne e] at h
      exact ⟨rows', h, Nat.le_refl _, fun _ => ⟨fun _ h => h, fun c' h' => ⟨h', fun cur h1 => ⟨cur, by rw [(heap_setMap _ hc).2 c' (fun e2 => e (hr.inj id i c hφ (by rw [← e2]; exact h')))]; exact h1, rfl⟩⟩⟩⟩
  map := fun i es2 _ h => by
    by_cases e : id = i
    · subst e
      refine ⟨es, hb, fun c' h' => ⟨h', fun e1 k1 h1 => ?_⟩⟩
      rw [hφ] at h'
      cases h'
      rw [hc] at h1
      cases h1
      exact ⟨ents', clock', (heap_setMap _ hc).1, hbn⟩
    · rw [List.getElem?_set_ne e] at h
      exact ⟨es2, h, fun c' h' => ⟨h', bornK_same ((heap_setMap _ hc).2 c' fun e2 => e (hr.inj id i c hφ (by rw [← e2]; exact h')))⟩⟩
  iter := fun i m n s' _ h => by
    by_cases e : id = i
    · subst e
      rw [List.getElem?_set] at h
      simp at h
    · rw [List.getElem?_set_ne e] at h
      exact ⟨m, n, s', h, fun _ h => h⟩
theorem born_push {ents : Array MapEntry} {e : MapEntry} {clock clock' : Nat} : BornE ents (ents.push e) clock clock' := ⟨fun i ent h => ⟨ent, by rw [Array.getElem?_push, if_neg (by have := (Array.getElem?_eq_some_iff.1 h).1; omega)]; exact h, rfl⟩, by simp, fun h => by simp at h⟩
theorem born_modify {ents : Array MapEntry} {j clock : Nat} {f : MapEntry → MapEntry} (hf : ∀ e, (f e).born = e.born) : BornE ents (ents.modify j f) clock clock := by
  refine ⟨fun i ent h => ?_, by simp, fun _ => rfl⟩
  rw [Array.getElem?_modify, h]
  split
  · exact ⟨f ent, rfl, hf ent⟩
  · exact ⟨ent, rfl, rfl⟩
theorem hr_setMap (hr : HR P w0 X w φ G) {id c : Nat} {es es' : List (AV × AV)} (hb : G[id]? = some (.map es)) (hφ : φ id = some c) {ents ents' : Array MapEntry} {clock clock' : Nat} (hc : w.heap[c]? = some (.map ents clock))
    (hbn : BornE ents ents' clock clock') (hl : ents'.size = es'.length) (hk : ∀ e ∈ ents'.toList, e.born < clock') (hnd : (ents'.toList.map (·.born)).Nodup) (hrv : ∀ (i : Nat) k x ent, es'[i]? = some (k, x) → ents'[i]? = some ent → RV P w X φ G k ent.key ∧ RV P w X φ G x ent.val) :
    HR P w0 X { w with heap := w.heap.setIfInBounds c (.map ents' clock') } φ (G.set id (.map es')) := by
  have hT := turn_setMap (es' := es') (ents' := ents') (clock' := clock') hr hb hφ hc hbn
  have ho := (heap_setMap (.map ents' clock') hc)
  refine ⟨hr.vo, hr.fr.trans ⟨rfl, rfl, rfl, by simp, fun k hk => ho.2 k (by have := (hr.own id c hφ).1; omega)⟩, ext_turn hr hT, fun i c' hc' => ?_, hr.inj, fun i b2 c' hi hc' => ?_⟩
  · have := hr.own i c' hc'
    simpa using this
  · by_cases e : id = i
    · subst e
      rw [List.getElem?_set] at hi
      simp at hi
      obtain ⟨_, rfl⟩ := hi
      rw [hφ] at hc'
      simp at hc'
      subst hc'
      exact ⟨ents', clock', ho.1, hl, hk, hnd, fun i k x ent h1 h2 => ⟨(hrv i k x ent h1 h2).1.turn hT, (hrv i k x ent h1 h2).2.turn hT⟩⟩
    · rw [List.getElem?_set_ne e] at hi
      exact (hr.blk i b2 c' hi hc').turn hT (ho.2 c' fun e2 => e (hr.inj id i c hφ (by rw [← e2]; exact hc')))
/-- A map is read. -/
theorem lookup_sound (hr : HR P w0 X w φ G) {t id : Nat} {z k : AV} {ks : Bool × List Nat} {es : List (AV × AV)} {m kv : Value} {b : Bool} {r : Option (Nat × AV)} (ok : Bool) (ht : mapTy P t = some (z, ks)) (hb : G[id]? = some (.map es)) (hm : RV P w X φ G (.mp id) m) (hk : RV P w X φ G k kv)
    (hs : keq ks k k = some b) (hf : mfind ks k es 0 = some r) : ∃ x, (Instr.lookup t m kv ok).run P w = .ok x w ∧ RV P w X φ G (if ok then .tup [mval z r, .bool r.isSome] else mval z r) x := by
  obtain ⟨kt, et, zv, hu, hks, rfl, hz⟩ := mapTy_spec ht
  cases hm with
  | ro h => cases h
  | mp g0 hid hv =>
    obtain ⟨c, hc, rfl⟩ := hv es hb
    obtain ⟨ents, clock, q1, q2, q3, q4, q5⟩ := hr.blk id _ c hb hc
    obtain ⟨r', h1, h2⟩ := findKey_sound hks hk hf q2 q5
    have hck := keq_check hks hs hk ents.isEmpty
    have hzr : RV P w X φ G (ofV zv) zv := ofV_rv zv
    have fin : ∀ (v : AV) (u : Value) (o : Bool), RV P w X φ G v u → RV P w X φ G (if ok then .tup [v, .bool o] else v) (if ok then .tuple #[u, .bool o] else u) := fun v u o h => by
      cases ok
      · simpa using h
      · simp only [if_true]
        refine .tup rfl fun j x y h1 h2 => ?_
        match j with
        | 0 => simp at h1 h2; subst h1 h2; exact h
        | 1 => simp at h1 h2; subst h1 h2; exact .ro .bool
        | j + 2 => simp at h1
    rcases h2 with ⟨rfl, rfl⟩ | ⟨j, x, ent, rfl, rfl, q6, q7, q8⟩
    · exact ⟨_, by simp [Instr.lookup, run_underlying hu, Go.MapKept.run_getObj_map q1, hck, h1, hz], fin _ _ false hzr⟩
    · exact ⟨_, by simp [Instr.lookup, run_underlying hu, Go.MapKept.run_getObj_map q1, hck, h1], fin _ _ true q7⟩
/-- A map is written. -/
theorem update_sound (hr : HR P w0 X w φ G) {t id : Nat} {z k x : AV} {ks : Bool × List Nat} {es : List (AV × AV)} {m kv xv : Value} {b : Bool} {r : Option (Nat × AV)} (ht : mapTy P t = some (z, ks)) (hb : G[id]? = some (.map es)) (hm : RV P w X φ G (.mp id) m) (hk : RV P w X φ G k kv) (hx : RV P w X φ G x xv)
    (hs : keq ks k k = some b) (hf : mfind ks k es 0 = some r) : ∃ w', (Instr.mapUpdate t m kv xv).run P w = .ok () w' ∧ HR P w0 X w' φ (G.set id (.map (mput es r k x))) ∧ Turn w φ G w' φ (G.set id (.map (mput es r k x))) ∧ ∀ i, φ i = none → φ i = none ∧ (G.set id (.map (mput es r k x)))[i]? = G[i]? := by
  obtain ⟨kt, et, zv, hu, hks, rfl, hz⟩ := mapTy_spec ht
  cases hm with
  | ro h => cases h
  | mp g0 hid hv =>
    obtain ⟨c, hc, rfl⟩ := hv es hb
    obtain ⟨ents, clock, q1, q2, q3, q4, q5⟩ := hr.blk id _ c hb hc
    obtain ⟨r', h1, h2⟩ := findKey_sound hks hk hf q2 q5
    have hck := keq_check hks hs hk false
    have hlast : ∀ i, φ i = none → φ i = none ∧ (G.set id (.map (mput es r k x)))[i]? = G[i]? := fun i hi => ⟨hi, List.getElem?_set_ne (fun e => by subst e; rw [hi] at hc; simp at hc)⟩
    rcases h2 with ⟨rfl, rfl⟩ | ⟨j, x0, ent, rfl, rfl, q6, q7, q8⟩
    · refine ⟨_, by simp [Instr.mapUpdate, run_underlying hu, Go.MapKept.run_getObj_map q1, hck, h1, Go.MapKept.run_setObj_map _ q1]; rfl, hr_setMap hr hb hc q1 born_push ?_ ?_ ?_ ?_, turn_setMap hr hb hc q1 born_push, hlast⟩
      · simp [mput, q2]
      · intro e he
        simp at he
        rcases he with he | rfl
        · have := q3 e (by simpa using he); omega
        · simp
      · rw [Array.toList_push, List.map_append, List.nodup_append]
        refine ⟨q4, by simp, fun y hy b' hb' => ?_⟩
        simp at hb'
        subst hb'
        obtain ⟨e, he, rfl⟩ := List.mem_map.1 hy
        have := q3 e he
        omega
      · intro i k' x' en h3 h4
        simp only [mput] at h3
        rw [List.getElem?_append] at h3
        rw [Array.getElem?_push] at h4
        by_cases hi : i < es.length
        · rw [if_pos hi] at h3
          rw [if_neg (by omega)] at h4
          exact q5 i k' x' en h3 h4
        · rw [if_neg hi] at h3
          by_cases hi2 : i = ents.size
          · rw [if_pos hi2] at h4
            simp at h4
            subst h4
            rw [show i - es.length = 0 by omega] at h3
            simp at h3
            obtain ⟨rfl, rfl⟩ := h3
            exact ⟨hk, hx⟩
          · rw [if_neg hi2] at h4
            have := (Array.getElem?_eq_some_iff.1 h4).1
            omega
    · have hj : j < ents.size := (Array.getElem?_eq_some_iff.1 q6).1
      refine ⟨_, by simp [Instr.mapUpdate, run_underlying hu, Go.MapKept.run_getObj_map q1, hck, h1, q6, Instr.keyThatStays, q8, Go.MapKept.run_setObj_map _ q1]; rfl, hr_setMap hr hb hc q1 (born_modify (f := fun e => { e with key := kv, val := xv }) fun _ => rfl) ?_ ?_ ?_ ?_, turn_setMap hr hb hc q1 (born_modify (f := fun e => { e with key := kv, val := xv }) fun _ => rfl), hlast⟩
      · simp [mput, q2]
      · intro e he
        obtain ⟨i, hi, rfl⟩ := List.getElem_of_mem he
        simp only [Array.getElem_toList, Array.getElem_modify]
        have hi' : i < ents.size := by simpa using hi
        have := q3 ents[i] (by simp)
        split <;> exact this
      · rw [Array.toList_modify]
        have : (ents.toList.modify j fun e => { e with key := kv, val := xv }).map (·.born) = ents.toList.map (·.born) := by
          apply List.ext_getElem?
          intro i
          simp only [List.getElem?_map, List.getElem?_modify]
          cases ents.toList[i]? with
          | none => rfl
          | some e => simp; split <;> rfl
        rw [this]; exact q4
      · intro i k' x' en h3 h4
        simp only [mput] at h3
        rw [Array.getElem?_modify] at h4
        rw [List.getElem?_set] at h3
        by_cases hi : j = i
        · subst hi
          rw [if_pos rfl, if_pos (by omega)] at h3
          simp at h3
          obtain ⟨rfl, rfl⟩ := h3
          rw [if_pos rfl, q6] at h4
          simp at h4
          subst h4
          exact ⟨hk, hx⟩
        · rw [if_neg hi] at h3 h4
          exact q5 i k' x' en h3 h4
/-- An entry of a map is looked for, and made if there is none. -/
theorem mapEntry_sound (hr : HR P w0 X w φ G) {t id : Nat} {z k : AV} {ks : Bool × List Nat} {es : List (AV × AV)} {m kv : Value} {b : Bool} {r : Option (Nat × AV)} (ht : mapTy P t = some (z, ks)) (hb : G[id]? = some (.map es)) (hm : RV P w X φ G (.mp id) m) (hk : RV P w X φ G k kv)
    (hs : keq ks k k = some b) (hf : mfind ks k es 0 = some r) : ∃ x w', (Instr.mapEntry t m kv).run P w = .ok x w' ∧ HR P w0 X w' φ (G.set id (.map (mput es r k (mval z r)))) ∧ Turn w φ G w' φ (G.set id (.map (mput es r k (mval z r)))) ∧
      RV P w' X φ (G.set id (.map (mput es r k (mval z r)))) (.tup [mval z r, .ent id (mplace es r)]) x ∧ ∀ i, φ i = none → φ i = none ∧ (G.set id (.map (mput es r k (mval z r))))[i]? = G[i]? := by
  obtain ⟨kt, et, zv, hu, hks, rfl, hz⟩ := mapTy_spec ht
  cases hm with
  | ro h => cases h
  | mp g0 hid hv =>
    obtain ⟨c, hc, rfl⟩ := hv es hb
    obtain ⟨ents, clock, q1, q2, q3, q4, q5⟩ := hr.blk id _ c hb hc
    obtain ⟨r', h1, h2⟩ := findKey_sound hks hk hf q2 q5
    have hck := keq_check hks hs hk false
    have hlast : ∀ i, φ i = none → φ i = none ∧ (G.set id (.map (mput es r k (mval (ofV zv) r))))[i]? = G[i]? := fun i hi => ⟨hi, List.getElem?_set_ne (fun e => by subst e; rw [hi] at hc; simp at hc)⟩
    have hres : ∀ {w' : World} {H' : List Blk} {v : AV} {u : Value} {i bn : Nat} {ents' : Array MapEntry} {clock' : Nat} {ent : MapEntry}, RV P w' X φ H' v u → id < H'.length → w'.heap[c]? = some (.map ents' clock') → ents'[i]? = some ent → ent.born = bn → RV P w' X φ H' (.tup [v, .ent id i]) (.tuple #[u, .int .i64 bn]) := fun {w' H' v u i bn ents' clock' ent} h1 h2 h3 h4 h5 => by
      refine .tup rfl fun j x y k1 k2 => ?_
      match j with
      | 0 => simp at k1 k2; subst k1 k2; exact h1
      | 1 => simp at k1 k2; subst k1 k2; exact .ent rfl h2 fun es' _ => ⟨c, ents', clock', ent, hc, h3, h4, by rw [h5]⟩
      | j + 2 => simp at k1
    rcases h2 with ⟨rfl, rfl⟩ | ⟨j, x0, ent, rfl, rfl, q6, q7, q8⟩
    · have hT := turn_setMap (es' := mput es none k (ofV zv)) (ents' := ents.push { key := kv, val := zv, born := clock }) (clock' := clock + 1) hr hb hc q1 born_push
      refine ⟨.tuple #[zv, .int .i64 clock], _, by simp [Instr.mapEntry, run_underlying hu, Go.MapKept.run_getObj_map q1, hck, h1, hz, Go.MapKept.run_setObj_map _ q1, goInt], hr_setMap hr hb hc q1 born_push ?_ ?_ ?_ ?_, hT, hres (ent := { key := kv, val := zv, born := clock }) (by simpa [mval] using ((ofV_rv zv).turn hT : RV P _ X φ _ (ofV zv) zv)) (by simpa using hid) (heap_setMap _ q1).1 (by simp [mplace, ← q2]) rfl, hlast⟩
      · simp [mput, q2]
      · intro e he
        simp at he
        rcases he with he | rfl
        · have := q3 e (by simpa using he); omega
        · simp
      · rw [Array.toList_push, List.map_append, List.nodup_append]
        refine ⟨q4, by simp, fun y hy b' hb' => ?_⟩
        simp at hb'
        subst hb'
        obtain ⟨e, he, rfl⟩ := List.mem_map.1 hy
        have := q3 e he
        omega
      · intro i k' x' en h3 h4
        simp only [mput] at h3
        rw [List.getElem?_append] at h3
        rw [Array.getElem?_push] at h4
        by_cases hi : i < es.length
        · rw [if_pos hi] at h3
          rw [if_neg (by omega)] at h4
          exact q5 i k' x' en h3 h4
        · rw [if_neg hi] at h3
          by_cases hi2 : i = ents.size
          · rw [if_pos hi2] at h4
            simp at h4
            subst h4
            rw [show i - es.length = 0 by omega] at h3
            simp at h3
            obtain ⟨rfl, rfl⟩ := h3
            exact ⟨hk, ofV_rv zv⟩
          · rw [if_neg hi2] at h4
            have := (Array.getElem?_eq_some_iff.1 h4).1
            omega
    · have hj : j < ents.size := (Array.getElem?_eq_some_iff.1 q6).1
      have hbm : BornE ents (ents.modify j fun e => { e with key := kv }) clock clock := born_modify (f := fun e => { e with key := kv }) fun _ => rfl
      have hT := turn_setMap (es' := mput es (some (j, x0)) k x0) (ents' := ents.modify j fun e => { e with key := kv }) (clock' := clock) hr hb hc q1 hbm
      refine ⟨.tuple #[ent.val, .int .i64 ent.born], _, by simp [Instr.mapEntry, run_underlying hu, Go.MapKept.run_getObj_map q1, hck, h1, q6, Instr.keyThatStays, q8, Go.MapKept.run_setObj_map _ q1, goInt], hr_setMap hr hb hc q1 hbm ?_ ?_ ?_ ?_, hT, hres (ent := { ent with key := kv }) (by simpa [mval] using q7.turn hT) (by simpa using hid) (heap_setMap _ q1).1 (by simp [mplace, Array.getElem?_modify, q6]) rfl, hlast⟩
      · simp [mput, q2]
      · intro e he
        obtain ⟨i, hi, rfl⟩ := List.getElem_of_mem he
        simp only [Array.getElem_toList, Array.getElem_modify]
        have hi' : i < ents.size := by simpa using hi
        have := q3 ents[i] (by simp)
        split <;> exact this
      · rw [Array.toList_modify]
        have : (ents.toList.modify j fun e => { e with key := kv }).map (·.born) = ents.toList.map (·.born) := by
          apply List.ext_getElem?
          intro i
          simp only [List.getElem?_map, List.getElem?_modify]
          cases ents.toList[i]? with
          | none => rfl
          | some e => simp; split <;> rfl
        rw [this]; exact q4
      · intro i k' x' en h3 h4
        simp only [mput] at h3
        rw [Array.getElem?_modify] at h4
        rw [List.getElem?_set] at h3
        by_cases hi : j = i
        · subst hi
          rw [if_pos rfl, if_pos (by omega)] at h3
          simp at h3
          obtain ⟨rfl, rfl⟩ := h3
          rw [if_pos rfl, q6] at h4
          simp at h4
          subst h4
          exact ⟨hk, q7⟩
        · rw [if_neg hi] at h3 h4
          exact q5 i k' x' en h3 h4
/-- An entry of a map is written. -/
theorem entryStore_sound (hr : HR P w0 X w φ G) {t id i : Nat} {x : AV} {e : AV × AV} {es : List (AV × AV)} {m st xv : Value} (hb : G[id]? = some (.map es)) (hm : RV P w X φ G (.mp id) m) (hst : RV P w X φ G (.ent id i) st) (hx : RV P w X φ G x xv) (he : es[i]? = some e) :
    ∃ w', (Instr.entryStore t m st xv).run P w = .ok () w' ∧ HR P w0 X w' φ (G.set id (.map (es.set i (e.1, x)))) ∧ Turn w φ G w' φ (G.set id (.map (es.set i (e.1, x)))) ∧ ∀ j, φ j = none → φ j = none ∧ (G.set id (.map (es.set i (e.1, x))))[j]? = G[j]? := by
  cases hm with
  | ro h => cases h
  | mp g0 hid hv =>
    cases hst with
    | ro h => cases h
    | ent g1 _ hs =>
      obtain ⟨c, hc, rfl⟩ := hv es hb
      obtain ⟨c', ents, clock, ent, hc', hh', hi', rfl⟩ := hs es hb
      rw [hc] at hc'
      cases hc'
      obtain ⟨ents2, clock2, q1, q2, q3, q4, q5⟩ := hr.blk id _ c hb hc
      rw [hh'] at q1
      cases q1
      have hlast : ∀ j, φ j = none → φ j = none ∧ (G.set id (.map (es.set i (e.1, x))))[j]? = G[j]? := fun j hj => ⟨hj, List.getElem?_set_ne (fun e => by subst e; rw [hj] at hc; simp at hc)⟩
      have hbm : BornE ents (ents.modify i fun e => { e with val := xv }) clock clock := born_modify (f := fun e => { e with val := xv }) fun _ => rfl
      obtain ⟨hil, hie⟩ := Array.getElem?_eq_some_iff.1 hi'
      have hfi : ents.findIdx? (fun e => (e.born : Int) == (ent.born : Int)) = some i := by
        rw [Array.findIdx?_eq_some_iff_getElem]
        refine ⟨hil, by rw [hie]; simp, fun j hj => ?_⟩
        have hne := List.pairwise_iff_getElem.1 (List.nodup_iff_pairwise_ne.1 q4) j i (by simp; omega) (by simpa using hil) hj
        simp only [List.getElem_map, Array.getElem_toList, hie] at hne
        simpa using fun h => hne (by omega)
      refine ⟨_, by simp [Instr.entryStore, Go.MapKept.run_getObj_map hh', asInt, asIntOf, hfi, Go.MapKept.run_setObj_map _ hh'], hr_setMap hr hb hc hh' hbm (by simp [q2]) ?_ ?_ ?_, turn_setMap hr hb hc hh' hbm, hlast⟩
      · intro e he
        obtain ⟨j, hj, rfl⟩ := List.getElem_of_mem he
        simp only [Array.getElem_toList, Array.getElem_modify]
        have hj' : j < ents.size := by simpa using hj
        have := q3 ents[j] (by simp)
        split <;> exact this
      · rw [Array.toList_modify]
        have : (ents.toList.modify i fun e => { e with val := xv }).map (·.born) = ents.toList.map (·.born) := by
          apply List.ext_getElem?
          intro j
          simp only [List.getElem?_map, List.getElem?_modify]
          cases ents.toList[j]? with
          | none => rfl
          | some e => simp; split <;> rfl
        rw [this]; exact q4
      · intro j k' x' en h3 h4
        rw [Array.getElem?_modify] at h4
        rw [List.getElem?_set] at h3
        by_cases hj : i = j
        · subst hj
          rw [if_pos rfl, if_pos (by omega)] at h3
          simp at h3
          obtain ⟨rfl, rfl⟩ := h3
          rw [if_pos rfl, hi'] at h4
          simp at h4
          subst h4
          exact ⟨(q5 i e.1 e.2 ent he hi').1, hx⟩
        · rw [if_neg hj] at h3 h4
          exact q5 j k' x' en h3 h4
end
end Go.Proofs.YthiclaihlpkinaaGreat
namespace Go.Proofs.YthiclaihlpkinaaGreat
open Go.RowKit
variable [Glob]
section
variable {P : Program} {w0 w : World} {X : Nat → Prop} {φ : Nat → Option Nat} {G H : List Blk} {T : List (Nat × AV)} {a : Act}
/-! ### Iterators -/
theorem turn_drew' (w : World) (φ : Nat → Option Nat) (G : List Blk) : Turn w φ G w.drew φ G := turn_drew w φ G
theorem turn_setIter (hr : HR P w0 X w φ G) {id c : Nat} {m : Option Nat} {n : Nat} {s s' : List Nat} (hb : G[id]? = some (.iter m n s)) (hφ : φ id = some c) {o o' : Obj} (hc : w.heap[c]? = some o) (ho : ∀ ents clock, o ≠ .map ents clock) :
    Turn w φ G { w with heap := w.heap.setIfInBounds c o' } φ (G.set id (.iter m n s')) := by
  have hlt : c < w.heap.size := (Array.getElem?_eq_some_iff.1 hc).1
  have hne : ∀ k, k ≠ c → (World.heap { w with heap := w.heap.setIfInBounds c o' })[k]? = w.heap[k]? := fun k h => by simp [Ne.symm h]
  refine ⟨by simp, by simp, fun k h hl => ⟨hne k (fun e => h id (by rw [e]; exact hφ)), h⟩, fun i t cs' _ h => ?_, fun i e' nb rows' _ h => ?_, fun i es2 _ h => ?_, fun i m' n' s2 _ h => ?_⟩
  · by_cases e : id = i
    · subst e; rw [List.getElem?_set] at h; simp at h
    · rw [List.getElem?_set_ne e] at h; exact ⟨cs', h, fun _ h => h⟩
  · by_cases e : id = i
    · subst e; rw [List.getElem?_set] at h; simp at h
    · rw [List.getElem?_set_ne e] at h
      exact ⟨rows', h, Nat.le_refl _, fun _ => ⟨fun _ h => h, fun c' h' => ⟨h', fun cur h1 => ⟨cur, by rw [hne c' (fun e2 => e (hr.inj id i c hφ (by rw [← e2]; exact h')))]; exact h1, rfl⟩⟩⟩⟩
  · by_cases e : id = i
    · subst e; rw [List.getElem?_set] at h; simp at h
    · rw [List.getElem?_set_ne e] at h
      exact ⟨es2, h, fun c' h' => ⟨h', bornK_same (hne c' fun e2 => e (hr.inj id i c hφ (by rw [← e2]; exact h')))⟩⟩
  · by_cases e : id = i
    · subst e; exact ⟨m, n, s, hb, fun _ h => h⟩
    · rw [List.getElem?_set_ne e] at h; exact ⟨m', n', s2, h, fun _ h => h⟩
theorem hr_setIter (hr : HR P w0 X w φ G) {id c d mid n since st : Nat} {seenA : Array Nat} {B s s' : List Nat} (hb : G[id]? = some (.iter (some mid) n s)) (hφ : φ id = some c) {o : Obj} (hc : w.heap[c]? = some o) (ho : ∀ ents clock, o ≠ .map ents clock)
    (h2 : B.length = n) (h3 : seenA.toList = s'.map (fun i => B.getD i 0)) (h4 : ∀ i ∈ s', i < n) (h5 : ∀ b ∈ B, b < since) (h6 : ∀ b ∈ B, b < st) (h7 : mid < G.length)
    (h8 : ∀ es, G[mid]? = some (.map es) → φ mid = some d ∧ ∃ (ents : Array MapEntry) (clock : Nat), w.heap[d]? = some (.map ents clock) ∧ (∀ (i b : Nat), B[i]? = some b → ∃ ent, ents[i]? = some ent ∧ ent.born = b) ∧ (ents.size = n → clock = st)) :
    HR P w0 X { w with heap := w.heap.setIfInBounds c (.mapIter (some d) since seenA st) } φ (G.set id (.iter (some mid) n s')) := by
  have hT := turn_setIter (s' := s') (o' := .mapIter (some d) since seenA st) hr hb hφ hc ho
  have hlt : c < w.heap.size := (Array.getElem?_eq_some_iff.1 hc).1
  have hne : ∀ k, k ≠ c → (World.heap { w with heap := w.heap.setIfInBounds c (.mapIter (some d) since seenA st) })[k]? = w.heap[k]? := fun k h => by simp [Ne.symm h]
  refine ⟨hr.vo, hr.fr.trans ⟨rfl, rfl, rfl, by simp, fun k hk => hne k (by have := (hr.own id c hφ).1; omega)⟩, ext_turn hr hT, fun i c' hc' => ?_, hr.inj, fun i b2 c' hi hc' => ?_⟩
  · have := hr.own i c' hc'
    simpa using this
  · by_cases e : id = i
    · subst e
      rw [List.getElem?_set] at hi
      simp at hi
      obtain ⟨_, rfl⟩ := hi
      rw [hφ] at hc'
      simp at hc'
      subst hc'
      refine ⟨d, since, seenA, st, B, by simp [hlt], h2, h3, h4, h5, fun _ => h6, by simpa using h7, fun es hes => ?_⟩
      have hmi : id ≠ mid := fun e => by subst e; rw [List.getElem?_set] at hes; simp at hes
      rw [List.getElem?_set_ne hmi] at hes
      obtain ⟨q1, ents, clock, q2, q3, q4⟩ := h8 es hes
      exact ⟨q1, ents, clock, by rw [hne d fun e => hmi (hr.inj id mid c hφ (by rw [← e]; exact q1))]; exact q2, q3, fun _ => q4⟩
    · rw [List.getElem?_set_ne e] at hi
      exact (hr.blk i b2 c' hi hc').turn hT (hne c' fun e2 => e (hr.inj id i c hφ (by rw [← e2]; exact hc')))
/-- An iterator over a nil map. -/
theorem next_none (hr : HR P w0 X w φ G) {id n : Nat} {seen : List Nat} {v : Value} (hb : G[id]? = some (.iter none n seen)) (hv : RV P w X φ G (.it id) v) (t : TypeId) : (Instr.next v false t).run P w = .ok (.tuple #[.bool false]) w := by
  cases hv with
  | ro h => cases h
  | it g0 hid hv =>
    obtain ⟨c, hc, rfl⟩ := hv _ _ _ hb
    obtain ⟨since, seenA, stepped, h1⟩ := hr.blk id _ c hb hc
    have hget : (getObj c).run P w = .ok (.mapIter none since seenA stepped) w := by simp [getObj, Sem.run, h1]
    simp [Instr.next, hget]
/-- An iterator goes on: to any entry that was not seen yet, or to its end. -/
theorem next_sound (hr : HR P w0 X w φ G) {id mid n : Nat} {seen : List Nat} {es : List (AV × AV)} {v : Value} (hb : G[id]? = some (.iter (some mid) n seen)) (hmb : G[mid]? = some (.map es)) (hn : es.length = n) (hv : RV P w X φ G (.it id) v) (t : TypeId) :
    ∃ x w', (Instr.next v false t).run P w = .ok x w' ∧
      ((∃ i k y, i ∉ seen ∧ es[i]? = some (k, y) ∧ HR P w0 X w' φ (G.set id (.iter (some mid) n (seen ++ [i]))) ∧ Turn w φ G w' φ (G.set id (.iter (some mid) n (seen ++ [i]))) ∧ RV P w' X φ (G.set id (.iter (some mid) n (seen ++ [i]))) (.tup [.bool true, k, y]) x) ∨
       ((∀ i, i < n → i ∈ seen) ∧ HR P w0 X w' φ G ∧ Turn w φ G w' φ G ∧ RV P w' X φ G (.tup [.bool false]) x)) := by
  cases hv with
  | ro h => cases h
  | it g0 hid hv =>
    obtain ⟨c, hc, rfl⟩ := hv _ _ _ hb
    obtain ⟨d, since, seenA, stepped, B, h1, h2, h3, h4, h5, h6, h7, h8⟩ := hr.blk id _ c hb hc
    obtain ⟨hd, ents0, clock0, he0, hB, _⟩ := h8 es hmb
    obtain ⟨ents, clock, q1, q2, q3, q4, q5⟩ := hr.blk mid _ d hmb hd
    rw [he0] at q1
    cases q1
    have hBe : ∀ (i : Nat), (h : i < ents0.size) → ents0[i].born = B.getD i 0 := fun i h => by
      have hi : i < B.length := by omega
      obtain ⟨ent, k1, k2⟩ := hB i B[i] (by simp [hi])
      rw [Array.getElem?_eq_getElem h] at k1
      cases k1
      rw [k2]; simp [List.getD, hi]
    have hinj : ∀ i j (hi : i < ents0.size) (hj : j < ents0.size), ents0[i].born = ents0[j].born → i = j := fun i j hi hj e => by
      rcases Nat.lt_trichotomy i j with h | h | h
      · have := List.pairwise_iff_getElem.1 (List.nodup_iff_pairwise_ne.1 q4) i j (by simpa using hi) (by simpa using hj) h
        simp at this; exact absurd e this
      · exact h
      · have := List.pairwise_iff_getElem.1 (List.nodup_iff_pairwise_ne.1 q4) j i (by simpa using hj) (by simpa using hi) h
        simp at this; exact absurd e.symm this
    have hseen : ∀ i (hi : i < ents0.size), seenA.contains ents0[i].born = true ↔ i ∈ seen := fun i hi => by
      rw [Array.contains_iff_mem, ← Array.mem_toList_iff, h3, List.mem_map]
      constructor
      · rintro ⟨j, hj, e⟩
        have hjn := h4 j hj
        have hj' : j < ents0.size := by omega
        rw [← hBe j hj'] at e
        rw [← hinj j i hj' hi e]; exact hj
      · intro h; exact ⟨i, h, (hBe i hi).symm⟩
    have hold : ∀ e ∈ ents0.toList, e.born < since := fun e he => by
      obtain ⟨i, hi, rfl⟩ := List.getElem_of_mem he
      have hi' : i < ents0.size := by simpa using hi
      simp only [Array.getElem_toList]
      rw [hBe i hi']
      have hiB : i < B.length := by omega
      exact h5 _ (by simp [List.getD, hiB])
    have hguard : (!seenA.isEmpty && !ents0.isEmpty && ents0.all (·.born ≥ stepped)) = false := by
      by_cases hs : seen = []
      · subst hs
        have : seenA.toList = [] := by simpa using h3
        have : seenA = #[] := by simpa using this
        simp [this]
      · by_cases he : ents0.size = 0
        · have : ents0 = #[] := by simpa using he
          simp [this]
        · have h0 : 0 < ents0.size := by omega
          have hlt : ents0[0].born < stepped := by
            rw [hBe 0 h0]
            have h0B : 0 < B.length := by omega
            exact h6 hs _ (by simp [List.getD, h0B])
          have : ents0.all (·.born ≥ stepped) = false := by
            rw [Bool.eq_false_iff]
            intro hall
            rw [Array.all_eq_true] at hall
            have := hall 0 h0
            simp at this; omega
          simp [this]
    have hget : (getObj c).run P w = .ok (.mapIter (some d) since seenA stepped) w := by simp [getObj, Sem.run, h1]
    have hget2 : (getObj d).run P w = .ok (.map ents0 clock0) w := Go.MapKept.run_getObj_map he0
    have hold' : ∀ l : Array MapEntry, (∀ e ∈ l.toList, e ∈ ents0.toList) → l.filter (·.born < since) = l ∧ l.filter (·.born ≥ since) = #[] := fun l hl => by
      constructor
      · rw [Array.filter_eq_self]
        intro e he
        simpa using hold e (hl e (by simpa using he))
      · rw [Array.filter_eq_empty_iff]
        intro e he
        have := hold e (hl e (by simpa using he))
        simp; omega
    obtain ⟨left, hleft⟩ : ∃ left, ents0.filter (fun e => !seenA.contains e.born) = left := ⟨_, rfl⟩
    have hlm : ∀ e ∈ left.toList, e ∈ ents0.toList ∧ seenA.contains e.born = false := fun e he => by
      rw [← hleft] at he
      simp at he
      exact ⟨by simpa using he.1, by simpa using he.2⟩
    obtain ⟨ho1, ho2⟩ := hold' left fun e he => (hlm e he).1
    by_cases hem : left.isEmpty = true
    · -- its end
      have hle : left = #[] := by simpa using hem
      refine ⟨.tuple #[.bool false], w, ?_, .inr ⟨fun i hi => ?_, hr, Turn.refl _ _ _, .tup rfl fun j x u k1 k2 => ?_⟩⟩
      · simp only [Instr.next, Sem.run_bind, hget, Result.andThen_ok, hget2, hguard, Bool.false_eq_true, if_false, hleft, hle]
        simp [choose, Sem.run, Question.forced]
      · have hi' : i < ents0.size := by omega
        by_cases hc' : i ∈ seen
        · exact hc'
        · have : ents0[i] ∈ ents0.filter (fun e => !seenA.contains e.born) := by
            rw [Array.mem_filter]
            refine ⟨by simp, ?_⟩
            have : ¬ seenA.contains ents0[i].born = true := fun h => hc' ((hseen i hi').1 h)
            simpa using this
          rw [hleft, hle] at this
          simp at this
      · match j with
        | 0 => simp at k1 k2; subst k1 k2; exact .ro .bool
        | j + 1 => simp at k1
    · have hsz : 0 < left.size := by
        rcases Nat.eq_zero_or_pos left.size with h | h
        · exact absurd (by simp [Array.isEmpty, h]) hem
        · exact h
      have hem' : left.isEmpty = false := by simpa using hem
      obtain ⟨j, w1, hj, hal, hrun⟩ : ∃ (j : Nat) (w1 : World), j < left.size ∧ (w1 = w ∨ w1 = w.drew) ∧ (choose (Question.mapNext left.size)).run P w = .ok j w1 := by
        by_cases hf : left.size ≤ 1
        · exact ⟨0, w, by omega, Or.inl rfl, by simp [choose, Sem.run, Question.forced, hf]⟩
        · exact ⟨_, w.drew, Nat.mod_lt _ (by omega), Or.inr rfl, by
            simp only [choose, Sem.run, Question.forced, decide_eq_true_eq, hf, if_false, Question.cut]
            rfl⟩
      have hr1 : HR P w0 X w1 φ G := by rcases hal with rfl | rfl; exact hr; exact hr_drew hr
      have hT1 : Turn w φ G w1 φ G := by rcases hal with rfl | rfl; exact Turn.refl _ _ _; exact turn_drew _ _ _
      have hh : w1.heap = w.heap := by rcases hal with rfl | rfl <;> rfl
      obtain ⟨hin, hns⟩ := hlm left[j] (by simp)
      obtain ⟨i, hi, hei⟩ := List.getElem_of_mem hin
      have hi' : i < ents0.size := by simpa using hi
      rw [Array.getElem_toList] at hei
      have hci : i ∉ seen := fun h => by
        have := (hseen i hi').2 h
        rw [hei, hns] at this
        cases this
      have hie : i < es.length := by omega
      have h1' : w1.heap[c]? = some (.mapIter (some d) since seenA stepped) := by rw [hh]; exact h1
      have hset : (setObj c (.mapIter (some d) since (seenA.push left[j].born) clock0)).run P w1 = .ok () { w1 with heap := w1.heap.setIfInBounds c (.mapIter (some d) since (seenA.push left[j].born) clock0) } := by
        simp [setObj, Sem.run, h1']
      have hBj : left[j].born = B.getD i 0 := by rw [← hei]; exact hBe i hi'
      have hclk : ∀ b ∈ B, b < clock0 := fun b hb => by
        obtain ⟨k, hk, rfl⟩ := List.getElem_of_mem hb
        obtain ⟨ent, p1, p2⟩ := hB k B[k] (by simp [hk])
        rw [← p2]
        exact q3 ent (Array.mem_toList_iff.2 (Array.mem_of_getElem? p1))
      have hrn := hr_setIter (d := d) (s' := seen ++ [i]) (B := B) (since := since) (st := clock0) (seenA := seenA.push left[j].born) hr1 hb hc h1' (fun _ _ h => by cases h) h2
        (by rw [Array.toList_push, h3, List.map_append, hBj]; rfl) (fun x hx => by
          rw [List.mem_append, List.mem_singleton] at hx
          rcases hx with hx | rfl
          · exact h4 x hx
          · omega) h5 hclk h7 (fun es' h => by rw [hh]; obtain ⟨u1, u2, u3, u4, u5, _⟩ := h8 es' h; rw [he0] at u4; cases u4; exact ⟨u1, _, _, he0, u5, fun _ => rfl⟩)
      have hTn := turn_setIter (s' := seen ++ [i]) (o' := .mapIter (some d) since (seenA.push left[j].born) clock0) hr1 hb hc h1' (fun _ _ h => by cases h)
      refine ⟨.tuple #[.bool true, left[j].key, left[j].val], { w1 with heap := w1.heap.setIfInBounds c (.mapIter (some d) since (seenA.push left[j].born) clock0) }, ?_, .inl ⟨i, es[i].1, es[i].2, hci, by simp [hie], hrn, hT1.trans hTn, ?_⟩⟩
      · simp only [Instr.next, Sem.run_bind, hget, Result.andThen_ok, hget2, hguard, Bool.false_eq_true, if_false, hleft, ho1, ho2, hem', Array.append_empty, Array.empty_append, Array.size_map, hrun, Array.getElem?_map, Array.getElem?_eq_getElem hj, Option.map_some, hset]
        rfl
      · obtain ⟨p1, p2⟩ := q5 i es[i].1 es[i].2 ents0[i] (by simp [hie]) (by simp [hi'])
        rw [hei] at p1 p2
        refine .tup rfl fun k x u k1 k2 => ?_
        match k with
        | 0 => simp at k1 k2; subst k1 k2; exact .ro .bool
        | 1 => simp at k1 k2; subst k1 k2; exact p1.turn (hT1.trans hTn)
        | 2 => simp at k1 k2; subst k1 k2; exact p2.turn (hT1.trans hTn)
        | k + 3 => simp at k1
/-- The entry that the iterator's last step handed out. -/
theorem entry_sound (hr : HR P w0 X w φ G) {id mid n i : Nat} {seen : List Nat} {es : List (AV × AV)} {v : Value} {key y : AV} (hb : G[id]? = some (.iter (some mid) n seen)) (hmb : G[mid]? = some (.map es)) (hn : es.length = n) (hs : seen.getLast? = some i) (he : es[i]? = some (key, y)) (hv : RV P w X φ G (.it id) v) :
    ∃ x, (Instr.entry v).run P w = .ok x w ∧ RV P w X φ G (.tup [key, y]) x := by
  cases hv with
  | ro h => cases h
  | it g0 hid hv =>
    obtain ⟨c, hc, rfl⟩ := hv _ _ _ hb
    obtain ⟨d, since, seenA, stepped, B, h1, h2, h3, h4, h5, h6, h7, h8⟩ := hr.blk id _ c hb hc
    obtain ⟨hd, ents0, clock0, he0, hB, hck⟩ := h8 es hmb
    obtain ⟨ents, clock, q1, q2, q3, q4, q5⟩ := hr.blk mid _ d hmb hd
    rw [he0] at q1
    cases q1
    obtain ⟨pre, rfl⟩ : ∃ pre, seen = pre ++ [i] := by
      obtain ⟨pre, h⟩ := List.getLast?_eq_some_iff.1 hs
      exact ⟨pre, h⟩
    have hin : i < n := h4 i (by simp)
    obtain rfl := hck (by simp) (by omega)
    have hi' : i < ents0.size := by omega
    obtain ⟨ent, k1, k2⟩ := hB i B[i] (by simp [h2, hin])
    rw [Array.getElem?_eq_getElem hi'] at k1
    cases k1
    have hsa : seenA = (pre.map fun i => B.getD i 0).toArray.push ents0[i].born := by
      rw [← Array.toList_inj, h3, Array.toList_push, List.map_append, k2]
      simp [List.getD, h2, hin]
    rw [hsa] at h1
    refine ⟨_, run_entry_at w c d since _ ents0 clock0 ents0[i] h1 he0 (by simp) q4, ?_⟩
    obtain ⟨p1, p2⟩ := q5 i key y ents0[i] he (by simp [hi'])
    refine .tup rfl fun k x u k1 k2 => ?_
    match k with
    | 0 => simp at k1 k2; subst k1 k2; exact p1
    | 1 => simp at k1 k2; subst k1 k2; exact p2
    | k + 2 => simp at k1
/-- An iterator goes on: what it hands out, whichever entry it is. -/
def nextD (H : List Blk) (x : AV) (K : AV → List Blk → Prop) : Prop :=
  match x with
  | .it id => match H[id]? with
    | some (.iter none _ _) => K (.tup [.bool false]) H
    | some (.iter (some mid) n seen) => match H[mid]? with
      | some (.map es) => es.length = n ∧ (∀ i k y, i ∉ seen → es[i]? = some (k, y) → K (.tup [.bool true, k, y]) (H.set id (.iter (some mid) n (seen ++ [i])))) ∧ ((∀ i, i < n → i ∈ seen) → K (.tup [.bool false]) H)
      | _ => False
    | _ => False
  | _ => False
theorem nextD_mono {H : List Blk} {x : AV} {K K' : AV → List Blk → Prop} (h : nextD H x K) (hK : ∀ r H', K r H' → K' r H') : nextD H x K' := by
  cases x with
  | it id =>
    simp only [nextD] at h ⊢
    cases hb : H[id]? with
    | none => simp [hb] at h
    | some b =>
      cases b with
      | iter m n seen =>
        cases m with
        | none => simp only [hb] at h ⊢; exact hK _ _ h
        | some mid =>
          simp only [hb] at h ⊢
          cases hm : H[mid]? with
          | none => simp [hm] at h
          | some b2 =>
            cases b2 with
            | map es =>
              simp only [hm] at h ⊢
              exact ⟨h.1, fun i k y h1 h2 => hK _ _ (h.2.1 i k y h1 h2), fun h1 => hK _ _ (h.2.2 h1)⟩
            | _ => simp [hm] at h
      | _ => simp [hb] at h
  | _ => simp [nextD] at h
theorem nextD_sound (hr : HR P w0 X w φ G) {x : AV} {v : Value} {K : AV → List Blk → Prop} (h : nextD G x K) (hv : RV P w X φ G x v) (t : TypeId) :
    ∃ y w' r H', (Instr.next v false t).run P w = .ok y w' ∧ HR P w0 X w' φ H' ∧ Turn w φ G w' φ H' ∧ RV P w' X φ H' r y ∧ K r H' := by
  unfold nextD at h
  split at h
  · rename_i id
    split at h
    · rename_i n seen hb
      refine ⟨_, w, _, G, next_none hr hb hv t, hr, Turn.refl _ _ _, .tup rfl fun j x u k1 k2 => ?_, h⟩
      match j with
      | 0 => simp at k1 k2; subst k1 k2; exact .ro .bool
      | j + 1 => simp at k1
    · rename_i mid n seen hb
      split at h
      · rename_i es hm
        obtain ⟨h1, h2, h3⟩ := h
        obtain ⟨y, w', q1, ⟨i, k, z, q2, q3, q4, q5, q6⟩ | ⟨q2, q4, q5, q6⟩⟩ := next_sound hr hb hm h1 hv t
        · exact ⟨y, w', _, _, q1, q4, q5, q6, h2 i k z q2 q3⟩
        · exact ⟨y, w', _, _, q1, q4, q5, q6, h3 q2⟩
      · exact h.elim
    · exact h.elim
  · exact h.elim
end
end Go.Proofs.YthiclaihlpkinaaGreat
