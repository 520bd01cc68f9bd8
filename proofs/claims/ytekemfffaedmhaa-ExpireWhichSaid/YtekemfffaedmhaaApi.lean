/- The program's plain data, as data of the machine. -/
import Derived.Test.YtekemfffaedmhaaAbBase
set_option linter.all false
namespace Go.Am.Ab
structure Fld where
  id : Int
  name : ByteArray
  kind : Int
  need : Bool
structure Sch where
  id : Int
  fields : List Fld
structure Snap where
  id : Int
  parent : Int
  seq : Int
  offset : Int
  time : Int
  schema : Int
  mans : List ByteArray
structure Tab where
  schemas : List Sch
  snaps : List Snap
  current : Int
structure Pol where
  keep : Int
  age : Int
abbrev u64 (n : Int) : D := .int .u64 n
abbrev i64 (n : Int) : D := .int .i64 n
def Fld.d (f : Fld) : D := .agg [.int .u32 f.id, .str f.name, .int .u8 f.kind, .bool f.need]
def Sch.d (s : Sch) : D := .agg [.int .u32 s.id, .list (s.fields.map Fld.d)]
def Snap.d (s : Snap) : D := .agg [.int .u64 s.id, .int .u64 s.parent, .int .u64 s.seq, .int .u64 s.offset, .int .u64 s.time, .int .u32 s.schema, .list (s.mans.map .str)]
def Tab.d (t : Tab) : D := .agg [.list (t.schemas.map Sch.d), .list (t.snaps.map Snap.d), .int .u64 t.current]
def Pol.d (p : Pol) : D := .agg [.int .i64 p.keep, .int .u64 p.age]
attribute [simp] Fld.d Sch.d Snap.d Tab.d Pol.d
end Go.Am.Ab
