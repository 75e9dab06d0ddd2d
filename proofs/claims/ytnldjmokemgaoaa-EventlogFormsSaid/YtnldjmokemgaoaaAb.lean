/- An abstract machine for the program's code: plain data in the place of memory. What it says of a function is carried over to the model by the texts behind this one. Definitions; nothing is claimed here. -/
import Derived.WalkKit
namespace Go.Proofs.Ytnldjmokemgaoaa
set_option linter.unusedSimpArgs false
set_option linter.unusedVariables false
set_option linter.unnecessarySimpa false
set_option linter.unusedSectionVars false
open Go.RowKit

/-- Abstract values. 'rp' and 'rs' are memory that nobody writes: what stands there. 'op', 'ep', 'os', 'mp' point into the call's own blocks. -/
inductive AV where
  | any
  | und
  | int (k : IntKind) (n : Int)
  | bool (b : Bool)
  | str (s : ByteArray)
  | nilp | nils | nilf | nilm
  | nilc
  | rp (row : List AV)
  | rs (rows : List (List AV))
  | op (id off : Nat)
  | ep (id n i off : Nat)
  | os (id n : Nat)
  | agg (cells : List AV)
  | tup (vs : List AV)
  | fn (f : Nat) (caps : List AV)
  | mp (id : Nat)

/-- What is known of package variables: the memory of some of them, which nobody writes. -/
class Glob where
  row : Nat → Option (List AV)
variable [Glob]
/-- The call's own blocks: one variable, a row of elements (nb: it may be that there is none as yet, the slice being nil), a map. -/
inductive Blk where
  | box (t : TypeId) (cells : List AV)
  | row (e : TypeId) (nb : Bool) (rows : List (List AV))
  | map (es : List (AV × AV))
  | gone

structure St where
  T : List (Nat × AV)
  H : List Blk

def tget : List (Nat × AV) → Nat → AV
  | [], _ => .any
  | (j, v) :: r, k => if j = k then v else tget r k
def tput : List (Nat × AV) → Nat → AV → List (Nat × AV)
  | [], k, v => [(k, v)]
  | (j, u) :: r, k, v => if j = k then (k, v) :: r else (j, u) :: tput r k v
def tputD (T : List (Nat × AV)) : Option Nat → AV → List (Nat × AV)
  | none, _ => T
  | some d, v => tput T d v

/-- One cell of a constant. -/
def ofCell : Value → AV
  | .int k n => .int k n
  | .bool b => .bool b
  | .string s => .str s
  | .pointer none => .nilp
  | .slice none 0 0 => .nils
  | .nilFunc => .nilf
  | .map none => .nilm
  | _ => .any
def ofV : Value → AV
  | .agg cs => if cs.all (·.oneCell') then .agg (cs.toList.map ofCell) else .any
  | v => ofCell v
def ev (T : List (Nat × AV)) : Operand → AV
  | .tmp t => tget T t
  | .const v => ofV v
  | .func f => .fn f []
  | .global g => match Glob.row g with | some r => .rp r | none => .any

/-- What is needed of a type. -/
structure Ty where
  sz : Nat
  ag : Bool
  zero : List AV
  sl : Bool
  elem : Nat
  arr : Option Nat
  flds : List (Nat × Nat)
  int : Option IntKind
  str : Bool
  pls : List (Nat × Nat)
  esz : Nat
def descTy (d : TypeDesc) (sz : Nat) (z : List AV) (pls : List (Nat × Nat)) (esz : Nat) : Ty :=
  match d with
  | .struct fs => ⟨sz, true, z, false, 0, none, fs.toList.map fun f => (f.offset, f.type), none, false, pls, esz⟩
  | .array n e => ⟨sz, true, z, false, e, some n, [], none, false, pls, esz⟩
  | .slice e => ⟨sz, false, z, true, e, none, [], none, false, pls, esz⟩
  | .int k => ⟨sz, false, z, false, 0, none, [], some k, false, pls, esz⟩
  | .string => ⟨sz, false, z, false, 0, none, [], none, true, pls, esz⟩
  | _ => ⟨sz, false, z, false, 0, none, [], none, false, pls, esz⟩
/-- Where the fields of a struct stand, and how large they are; and the size of an array's elements. -/
def inner (P : Program) (d : TypeDesc) : Option (List (Nat × Nat) × Nat) :=
  match d with
  | .struct fs => match fs.toList.mapM fun f => (P.info? f.type).map fun i => (f.offset, i.size) with | some l => some (l, 0) | none => none
  | .array _ e => match P.info? e with | some i => some ([], i.size) | none => none
  | _ => some ([], 0)
def ty (P : Program) (t : TypeId) : Option Ty :=
  match P.info? t, P.underlying t with
  | some i, some d => match i.zero, inner P d with
    | some z, some (pls, esz) => if z.cells.size = i.size ∧ 0 < i.size ∧ z.cells.all (·.oneCell') = true ∧ i.bytes ≤ 4096 then some (descTy d i.size (z.cells.toList.map ofCell) pls esz) else none
    | _, _ => none
  | _, _ => none

/-- A part of a value's cells. -/
def part (i : Ty) (cs : List AV) (off : Nat) : Option AV :=
  if off + i.sz ≤ cs.length then
    if i.ag then some (.agg ((cs.drop off).take i.sz)) else (cs.drop off).head?
  else none
def cellsOf : AV → Option (List AV)
  | .agg cs => some cs
  | .any => none
  | .und => none
  | .tup _ => none
  | v => some [v]
/-- The cells of a value of a type of this size. -/
def cellsN (n : Nat) (v : AV) : Option (List AV) := match cellsOf v with | some cs => if cs.length = n then some cs else none | none => none

/-- What an operation does to the blocks. -/
inductive Upd where
  | no
  | new (b : Blk)
  | set (id : Nat) (b : Blk)
def upd (H : List Blk) : Upd → List Blk
  | .no => H
  | .new b => H ++ [b]
  | .set id b => H.set id b

/-- The cells from a place on. -/
def rd (H : List Blk) : AV → Option (List AV)
  | .rp row => some row
  | .op id o => match H[id]? with | some (.box _ cs) => some (cs.drop o) | _ => none
  | .ep id n i o => match H[id]? with | some (.row _ _ rows) => if rows.length = n then match rows[i]? with | some row => some (row.drop o) | none => none else none | _ => none
  | _ => none
def over (cs : List AV) (o : Nat) (new : List AV) : Option (List AV) :=
  if o + new.length ≤ cs.length then some (cs.take o ++ new ++ cs.drop (o + new.length)) else none
def wr (H : List Blk) (p : AV) (new : List AV) : Option Upd :=
  match p with
  | .op id o => match H[id]? with
    | some (.box t cs) => match over cs o new with | some c => some (.set id (.box t c)) | none => none
    | _ => none
  | .ep id n i o => match H[id]? with
    | some (.row e nb rows) => if rows.length = n then match rows[i]? with
      | some row => match over row o new with | some c => some (.set id (.row e nb (rows.set i c))) | none => none
      | none => none else none
    | _ => none
  | _ => none
def allLen (n : Nat) (rows : List (List AV)) : Bool := rows.all fun r => r.length == n
/-- The elements that a slice reads as, each of so many cells. -/
def elems (H : List Blk) (sz : Nat) : AV → Option (List (List AV))
  | .rs rows => if sz = 0 ∨ allLen sz rows = true then some rows else none
  | .nils => some []
  | .nilc => some []
  | .os id n => match H[id]? with | some (.row _ _ rows) => if rows.length = n ∧ (sz = 0 ∨ allLen sz rows = true) then some rows else none | _ => none
  | _ => none
def shift (H : List Blk) (p : AV) (k : Nat) : Option AV :=
  match p with
  | .rp row => some (.rp (row.drop k))
  | .op id o => match H[id]? with | some (.box _ _) => some (.op id (o + k)) | _ => none
  | .ep id n i o => match H[id]? with | some (.row _ _ rows) => if rows.length = n then some (.ep id n i (o + k)) else none | _ => none
  | _ => none
def elemAt (H : List Blk) (sz : Nat) (e : TypeId) (x : AV) (i : Int) : Option AV :=
  match x with
  | .rs rows => if 0 ≤ i then match rows[i.toNat]? with | some row => if row.length = sz then some (.rp row) else none | none => none else none
  | .os id n => match H[id]? with | some (.row e' _ rows) => if 0 ≤ i ∧ i.toNat < n ∧ rows.length = n ∧ e' = e then some (.ep id n i.toNat 0) else none | _ => none
  | _ => none

/-- The remainder of a number in so many bits, sealed: so that the kernel does not reckon it where two of them are held side by side. -/
inductive IsWrap (k : IntKind) (n : Int) : Int → Prop
  | mk : IsWrap k n (k.wrap n)
noncomputable def wrapI (k : IntKind) (n : Int) : Int := Classical.choose (show ∃ m, IsWrap k n m from ⟨_, .mk⟩)
theorem wrapI_eq (k : IntKind) (n : Int) : wrapI k n = k.wrap n := by
  have h : IsWrap k n (wrapI k n) := Classical.choose_spec (show ∃ m, IsWrap k n m from ⟨_, .mk⟩)
  generalize wrapI k n = m at h
  cases h; rfl
noncomputable def ebin (op : BinOp) (x y : AV) : Option AV :=
  match x, y with
  | .int k a, .int k' b =>
    if k = k' then
      match op with
      | .add => some (.int k (wrapI k (a + b)))
      | .sub => some (.int k (wrapI k (a - b)))
      | .mul => some (.int k (wrapI k (a * b)))
      | .quo => if b = 0 then none else some (.int k (wrapI k (a.tdiv b)))
      | .rem => if b = 0 then none else some (.int k (a.tmod b))
      | .shr => if 0 ≤ b ∧ b ≤ 8 then some (.int k (a / 2 ^ b.toNat)) else none
      | .eql => some (.bool (a == b))
      | .neq => some (.bool (a != b))
      | .lss => some (.bool (decide (a < b)))
      | .leq => some (.bool (decide (a ≤ b)))
      | .gtr => some (.bool (decide (a > b)))
      | .geq => some (.bool (decide (a ≥ b)))
      | _ => none
    else none
  | .str a, .str b =>
    match op with
    | .add => if a.size + b.size ≤ 1073741824 then some (.str (a ++ b)) else none
    | .eql => some (.bool (a.toList == b.toList))
    | .neq => some (.bool (!(a.toList == b.toList)))
    | .lss => some (.bool (Op.bytesLess a.toList b.toList))
    | .leq => some (.bool (Op.bytesLess a.toList b.toList || a.toList == b.toList))
    | .gtr => some (.bool (!(Op.bytesLess a.toList b.toList || a.toList == b.toList)))
    | .geq => some (.bool (!Op.bytesLess a.toList b.toList))
    | _ => none
  | _, _ => none
noncomputable def eun (op : UnOp) (x : AV) : Option AV :=
  match op, x with
  | .neg, .int k n => some (.int k (wrapI k (0 - n)))
  | .not, .bool b => some (.bool !b)
  | _, _ => none

def fillA (place : Nat → Option (Nat × Nat)) (cells : List AV) : List (Nat × AV) → Option (List AV)
  | [] => some cells
  | (i, v) :: rest =>
    match place i with
    | none => none
    | some (off, size) => match cellsN size v with
      | some vs => match over cells off vs with | some c => fillA place c rest | none => none
      | none => none
def subStr (s : ByteArray) (lo hi : Int) : Option AV := if 0 ≤ lo ∧ lo ≤ hi ∧ hi ≤ s.size then some (.str (s.extract lo.toNat hi.toNat)) else none
def subSl (sz : Nat) (rows : List (List AV)) (lo hi : Int) : Option AV := if 0 ≤ lo ∧ lo ≤ hi ∧ hi ≤ rows.length ∧ allLen sz rows = true then some (.rs ((rows.drop lo.toNat).take (hi.toNat - lo.toNat))) else none
/-- Bytes in a slice. -/
def bytesRows (b : ByteArray) : List (List AV) := b.data.toList.map fun c => [.int .u8 c.toNat]
def unbytes : List (List AV) → Option (List UInt8)
  | [] => some []
  | r :: l => match r, unbytes l with | [.int .u8 n], some q => some (UInt8.ofNat n.toNat :: q) | _, _ => none
def bound (T : List (Nat × AV)) (d : Int) : Option Operand → Option Int
  | none => some d
  | some x => match ev T x with | .int _ n => some n | _ => none
def foldA (f : Int → Int → Int) : AV → List AV → Option AV
  | x, [] => some x
  | .int k a, .int _ b :: r => foldA f (.int k (f a b)) r
  | _, _ => none

section
variable (P : Program)
/-- The size of a field, for 'build'. -/
def place (i : Ty) (k : Nat) : Option (Nat × Nat) :=
  match i.arr with
  | some _ => some (k * i.esz, i.esz)
  | none => i.pls[k]?
/-- The kinds of the fields of a struct whose values are compared field by field. -/
def skind (t : TypeId) : Option Nat := match P.underlying t with | some (.int _) => some 0 | some .bool => some 1 | some .string => some 2 | _ => none
def eqKinds (t : TypeId) : Option (List Nat) :=
  match P.underlying t with
  | some (.struct fs) => if P.stoodInHeld t = false ∧ P.eqGuardType P.depth t = false ∧ fs.toList.map (·.offset) = List.range' 0 fs.toList.length then fs.toList.mapM fun f => if f.name ≠ "_" then skind P f.type else none else none
  | _ => none
/-- The same, where fields may be such structs themselves. -/
def deepF : List Field → Nat → Option (List Nat)
  | [], _ => some []
  | f :: r, k => if f.name ≠ "_" ∧ f.offset = k then
      (match skind P f.type with
      | some n => (match deepF r (k + 1) with | some ks => some (n :: ks) | none => none)
      | none => match eqKinds P f.type, ty P f.type with
        | some ks1, some i => if i.ag = true ∧ i.sz = ks1.length then (match deepF r (k + ks1.length) with | some ks => some (ks1 ++ ks) | none => none) else none
        | _, _ => none)
    else none
def eqKindsN (t : TypeId) : Option (List Nat) :=
  match eqKinds P t with
  | some ks => some ks
  | none => match P.underlying t with
    | some (.struct fs) => if P.stoodInHeld t = false ∧ P.eqGuardType P.depth t = false then deepF P fs.toList 0 else none
    | _ => none
def eqCs : List Nat → List AV → List AV → Option Bool
  | [], [], [] => some true
  | 0 :: ks, .int k a :: r, .int k' b :: r' => if k = k' then (match eqCs ks r r' with | some e => some ((a == b) && e) | none => none) else none
  | 1 :: ks, .bool a :: r, .bool b :: r' => (match eqCs ks r r' with | some e => some ((a == b) && e) | none => none)
  | 2 :: ks, .str a :: r, .str b :: r' => (match eqCs ks r r' with | some e => some ((a.toList == b.toList) && e) | none => none)
  | _, _, _ => none
def eqAgg (ks : Option (List Nat)) (op : BinOp) (xs ys : List AV) : Option AV :=
  match ks with
  | some ks => match eqCs ks xs ys with
    | some b => match op with | .eql => some (.bool b) | .neq => some (.bool !b) | _ => none
    | none => none
  | none => none
/-- How the keys of a map are compared: field by field (true), or at once. -/
def keyKs (t : TypeId) : Option (Bool × List Nat) := match skind P t with | some n => some (false, [n]) | none => match eqKinds P t with | some ks => some (true, ks) | none => none
def keq (ks : Bool × List Nat) (x y : AV) : Option Bool :=
  match ks with
  | (false, ks) => eqCs ks [x] [y]
  | (true, ks) => match x, y with | .agg xs, .agg ys => eqCs ks xs ys | _, _ => none
def mfind (ks : Bool × List Nat) (k : AV) : List (AV × AV) → Nat → Option (Option (Nat × AV))
  | [], _ => some none
  | e :: r, i => match keq ks k e.1 with | some true => some (some (i, e.2)) | some false => mfind ks k r (i + 1) | none => none
/-- What a map without the key hands back, and how its keys are compared. -/
def mapTy (t : TypeId) : Option (AV × Bool × List Nat) :=
  match P.underlying t with
  | some (.map kt et) => match keyKs P kt, (P.info? et).bind (·.zero) with | some ks, some z => some (ofV z, ks) | _, _ => none
  | _ => none
def mval (z : AV) (r : Option (Nat × AV)) : AV := match r with | some e => e.2 | none => z
def mput (es : List (AV × AV)) (r : Option (Nat × AV)) (k x : AV) : List (AV × AV) := match r with | some e => es.set e.1 (k, x) | none => es ++ [(k, x)]
/-- What is appended: the elements of a slice, or a string's bytes. -/
def srcE (H : List Blk) (t t' : TypeId) (e : Ty) (y : AV) : Option (List (List AV)) :=
  if t' = t then elems H e.sz y else match y with
    | .str b => match ty P t' with | some i => if i.str = true ∧ e.int = some .u8 ∧ e.sz = 1 then some (bytesRows b) else none | none => none
    | _ => none
/-- The builtin functions. -/
def ebi (s : St) (b : Builtin) (ts : List TypeId) (args : List AV) : Option (AV × Upd) :=
  match b, ts, args with
  | .len, [t], [x] => match ty P t with
    | some i => match x with
      | .os id n => match s.H[id]? with | some (.row _ _ rows) => if rows.length = n ∧ i.sl = true then some (.int .i64 n, .no) else none | _ => none
      | .rs rows => if i.sl then some (.int .i64 rows.length, .no) else none
      | .nils => if i.sl then some (.int .i64 0, .no) else none
      | .nilc => if i.sl then some (.int .i64 0, .no) else none
      | .str b => if i.str then some (.int .i64 b.size, .no) else none
      | .mp id => match s.H[id]? with | some (.map es) => if (mapTy P t).isSome then some (.int .i64 es.length, .no) else none | _ => none
      | _ => none
    | none => none
  | .append, [t, t'], [x, y] => match ty P t with
    | some i => if i.sl = true then match ty P i.elem with
      | some e => match srcE P s.H t t' e y with
        | some ys => match x with
          | .nils => if ys.isEmpty then some (.nils, .no) else if ys.length ≤ 1073741824 then some (.os s.H.length ys.length, .new (.row i.elem false ys)) else none
          | .nilc => if ys.isEmpty then some (.nilc, .no) else if ys.length ≤ 1073741824 then some (.os s.H.length ys.length, .new (.row i.elem false ys)) else none
          | .os id n => match s.H[id]? with
            | some (.row e' nb rows) => if rows.length = n ∧ n + ys.length ≤ 1073741824 ∧ e' = i.elem then some (.os id (n + ys.length), .set id (.row e' nb (rows ++ ys))) else none
            | _ => none
          | _ => none
        | none => none
      | none => none else none
    | none => none
  | .min, _, x :: r => match foldA (fun a b => if b < a then b else a) x r with | some v => some (v, .no) | none => none
  | .max, _, x :: r => match foldA (fun a b => if b > a then b else a) x r with | some v => some (v, .no) | none => none
  | _, _, _ => none

noncomputable def ebinT (op : BinOp) (t : TypeId) (x y : AV) : Option AV :=
  match x, y with
  | .agg xs, .agg ys => eqAgg (eqKindsN P t) op xs ys
  | .bool a, .bool b => match skind P t with
    | some 1 => (match op with | .eql => some (.bool (a == b)) | .neq => some (.bool (!(a == b))) | _ => none)
    | _ => none
  | x, y => ebin op x y
/-- A slice is compared with nil. -/
def isNilS : Operand → Bool
  | .const (.slice none 0 0) => true
  | _ => false
def nilCmp (op : BinOp) (x : AV) : Option AV :=
  match x with
  | .rs rows => if rows.isEmpty then none else match op with | .eql => some (.bool false) | .neq => some (.bool true) | _ => none
  | _ => none
/-- Does what an operation yields hang on the blocks? -/
def sens : Op → Bool
  | .move _ | .assign _ | .pick .. | .alloc _ | .box .. | .build .. | .buildSlice .. | .binOp .. | .unOp .. | .makeFunc .. | .makeSlice .. | .field .. | .index .. | .extract .. | .slice _ _ _ _ none => false
  | .call { callee := .builtin .min, .. } | .call { callee := .builtin .max, .. } => false
  | _ => true
def same (o : Option AV) : Option (AV × Upd) := match o with | some v => some (v, .no) | none => none
/-- An operation that calls no function. -/
noncomputable def eop (o : Oper) (s : St) : Option (AV × Upd) :=
  match o.op with
  | .move x => some (ev s.T x, .no)
  | .assign x => some (ev s.T x, .no)
  | .pick c a b => match ev s.T c with | .bool c => some (if c then ev s.T a else ev s.T b, .no) | _ => none
  | .alloc t => match ty P t with | some i => some (.op s.H.length 0, .new (.box t i.zero)) | none => none
  | .box t x => match ty P t with | some i => (match cellsN i.sz (ev s.T x) with | some cs => some (.op s.H.length 0, .new (.box t cs)) | none => none) | none => none
  | .build t parts => match ty P t with
    | some i => if i.ag then match fillA (place i) i.zero (parts.toList.map fun (p : Nat × Operand) => (p.1, ev s.T p.2)) with | some c => some (.agg c, .no) | none => none else none
    | none => none
  | .buildSlice t len parts => match ty P t with
    | some i => if i.sl then match ty P i.elem with
      | some e => match parts.toList.mapM (fun (p : Nat × Operand) => cellsN e.sz (ev s.T p.2)) with
        | some rows => if parts.toList.map (fun (p : Nat × Operand) => p.1) = List.range len ∧ len ≤ 1000 ∧ e.sz ≤ 1000 then some (.os s.H.length len, .new (.row i.elem false rows)) else none
        | none => none
      | none => none else none
    | none => none
  | .load t a => match ty P t, rd s.H (ev s.T a) with | some i, some cs => same (part i cs 0) | _, _ => none
  | .store t a x => match ty P t with
    | some i => match cellsN i.sz (ev s.T x) with
      | some cs => match wr s.H (ev s.T a) cs with | some u => some (.any, u) | none => none
      | none => none
    | none => none
  | .nilCheck x => match rd s.H (ev s.T x) with | some _ => some (ev s.T x, .no) | none => none
  | .binOp op t x y _ => if isNilS y then (match ty P t with | some i => if i.sl then same (nilCmp op (ev s.T x)) else none | none => none) else same (ebinT P op t (ev s.T x) (ev s.T y))
  | .unOp op _ x => same (eun op (ev s.T x))
  | .convert src dst x => match ty P src, ty P dst, ev s.T x with
    | some _, some d, .int _ n => match d.int with | some k => some (.int k (wrapI k n), .no) | none => none
    | some _, some d, .str b => if d.str then some (.str b, .no) else if d.sl then match ty P d.elem with | some e => if e.int = some .u8 ∧ e.sz = 1 then some (.rs (bytesRows b), .no) else none | none => none else none
    | some i, some d, x => if i.sl ∧ d.str then match ty P i.elem, elems s.H 1 x with | some e, some rows => if e.int = some .u8 ∧ e.sz = 1 then match unbytes rows with | some q => some (.str ⟨q.toArray⟩, .no) | none => none else none | _, _ => none else none
    | _, _, _ => none
  | .makeFunc (.func f) first caps => if first.size = 0 then some (.fn f (caps.toList.map (ev s.T)), .no) else none
  | .makeSlice t l c => match ty P t, ev s.T l, ev s.T c with
    | some i, .int .i64 n, .int .i64 m => if i.sl then match ty P i.elem with
      | some e => if 0 ≤ n ∧ n = m ∧ n ≤ 1073741824 then some (.os s.H.length n.toNat, .new (.row i.elem false (List.replicate n.toNat e.zero))) else none
      | none => none else none
    | _, _, _ => none
  | .slice t x lo hi (some mx) => match ty P t with
    | some i => if i.sl then match bound s.T 0 lo, bound s.T 1 hi, bound s.T 1 (some mx) with
      | some 0, some 0, some 0 => (match elems s.H 0 (ev s.T x), ty P i.elem with | some _, some _ => some (.nilc, .no) | _, _ => none)
      | _, _, _ => none
      else none
    | none => none
  | .slice t x lo hi none => match ty P t with
    | some i => match ev s.T x with
      | .str b => if i.str then match bound s.T 0 lo, bound s.T b.size hi with | some l, some h => same (subStr b l h) | _, _ => none else none
      | .rs rows => if i.sl then match ty P i.elem with
        | some e => match bound s.T 0 lo, bound s.T rows.length hi with | some l, some h => same (subSl e.sz rows l h) | _, _ => none
        | none => none else none
      | _ => none
    | none => none
  | .fieldAddr t x f => match ty P t with
    | some i => match i.flds[f]? with
      | some (off, ft) => match ty P ft with | some _ => same (shift s.H (ev s.T x) off) | none => none
      | none => none
    | none => none
  | .field t x f => match ty P t with
    | some i => match i.flds[f]?, ev s.T x with
      | some (off, ft), .agg cs => match ty P ft with | some fi => same (part fi cs off) | none => none
      | _, _ => none
    | none => none
  | .indexAddr t x i => match ty P t, ev s.T i with
    | some ti, .int _ n => match ty P ti.elem with
      | some e => if ti.sl then same (elemAt s.H e.sz ti.elem (ev s.T x) n)
        else match ti.arr with | some l => if 0 ≤ n ∧ n < l then same (shift s.H (ev s.T x) (n.toNat * e.sz)) else none | none => none
      | none => none
    | _, _ => none
  | .index t x i => match ty P t, ev s.T i, ev s.T x with
    | some ti, .int _ n, .str b => if ti.str ∧ 0 ≤ n then match b.data[n.toNat]? with | some c => some (.int .u8 c.toNat, .no) | none => none else none
    | some ti, .int _ n, .agg cs => match ti.arr, ty P ti.elem with
      | some l, some e => if 0 ≤ n ∧ n < l then same (part e cs (n.toNat * e.sz)) else none
      | _, _ => none
    | _, _, _ => none
  | .makeMap t none => match mapTy P t with | some _ => some (.mp s.H.length, .new (.map [])) | none => none
  | .lookup t m k ok => match mapTy P t, ev s.T m with
    | some (z, ks), .mp id => match s.H[id]? with
      | some (.map es) => match keq ks (ev s.T k) (ev s.T k), mfind ks (ev s.T k) es 0 with
        | some _, some r => some (if ok then .tup [mval z r, .bool r.isSome] else mval z r, .no)
        | _, _ => none
      | _ => none
    | _, _ => none
  | .mapUpdate t m k x => match mapTy P t, ev s.T m with
    | some (_, ks), .mp id => match s.H[id]? with
      | some (.map es) => match keq ks (ev s.T k) (ev s.T k), mfind ks (ev s.T k) es 0 with
        | some _, some r => some (.any, .set id (.map (mput es r (ev s.T k) (ev s.T x))))
        | _, _ => none
      | _ => none
    | _, _ => none
  | .extract t i => match ev s.T t with | .tup l => same l[i]? | _ => none
  | .call { callee := .builtin b, args, argTypes } => ebi P s b argTypes.toList (args.toList.map (ev s.T))
  | _ => none
end

/-- A value without the call's own memory in it. -/
def reify (H : List Blk) : Nat → AV → Option AV
  | 0, _ => none
  | n + 1, v => match v with
    | .op id o => match H[id]? with | some (.box _ cs) => ((cs.drop o).mapM (reify H n)).map .rp | _ => none
    | .ep id m i o => match H[id]? with | some (.row _ _ rows) => if rows.length = m then (rows[i]?).bind fun row => ((row.drop o).mapM (reify H n)).map .rp else none | _ => none
    | .os id m => match H[id]? with | some (.row _ _ rows) => if rows.length = m then (rows.mapM fun (row : List AV) => row.mapM (reify H n)).map .rs else none | _ => none
    | .agg cs => (cs.mapM (reify H n)).map .agg
    | .fn f cs => (cs.mapM (reify H n)).map (.fn f)
    | .tup cs => (cs.mapM (reify H n)).map .tup
    | .mp _ => none
    | .nils => some (.rs [])
    | .nilc => some (.rs [])
    | v => some v
mutual
/-- Does a value hold memory of the call's own? -/
def owns : AV → Bool
  | .op .. | .ep .. | .os .. | .mp _ => true
  | .agg l => ownsL l
  | .tup l => ownsL l
  | .fn _ l => ownsL l
  | _ => false
def ownsL : List AV → Bool
  | [] => false
  | x :: r => owns x || ownsL r
end
mutual
/-- A value without memory. -/
def flat : AV → Bool
  | .int .. | .bool _ | .str _ | .nilp | .nils | .nilf | .nilm | .nilc => true
  | .rs rows => rows.isEmpty
  | .agg l => flatL l
  | .tup l => flatL l
  | _ => false
def flatL : List AV → Bool
  | [] => true
  | x :: r => flat x && flatL r
end
end Go.Proofs.Ytnldjmokemgaoaa
