/- Events as data. -/
import Derived.Test.YthemglpccpjokaaGreatAbBase
set_option linter.unusedSimpArgs false
set_option linter.unusedVariables false
set_option linter.unnecessarySimpa false
set_option linter.unusedSectionVars false
set_option maxRecDepth 100000
namespace Go.Proofs.YthemglpccpjokaaGreat
open Go.RowKit
variable [Glob]
structure Val where
  kind : Int
  n : Int
  s : ByteArray
structure Fld where
  name : ByteArray
  v : Val
def fldC (f : Fld) : List AV := [.str f.name, .int .i64 f.v.kind, .int .i64 f.v.n, .str f.v.s]
structure Evt where
  case_ : ByteArray
  act : ByteArray
  res : ByteArray
  life : Int
  time : Int
  data : List Fld
def evtC (e : Evt) : List AV := [.str e.case_, .str e.act, .str e.res, .int .i64 e.life, .int .i64 e.time, .rs (rowsOf fldC e.data)]
end Go.Proofs.YthemglpccpjokaaGreat
