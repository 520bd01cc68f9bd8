/- Facts on the types of the program, what loops keep, numbers. -/
import Derived.Test.YtlgdomajdebbdaaGreatProg
import Derived.KernelRfl
import Derived.Test.YtlgdomajdebbdaaGreatMachD
set_option linter.all false
namespace Go.Am.Ab
open Go.Proofs
attribute [simp] Tryz.underlying0
@[simp] theorem sz0 : sizeOf? Tryz.prog 0 = some 1 := by kernel_rfl
@[simp] theorem ag0 : agg? Tryz.prog 0 = some false := by kernel_rfl
attribute [simp] Tryz.underlying2
@[simp] theorem sz2 : sizeOf? Tryz.prog 2 = some 1 := by kernel_rfl
@[simp] theorem ag2 : agg? Tryz.prog 2 = some false := by kernel_rfl
@[simp] theorem zs2 : zeroVs? Tryz.prog 2 = some [.d (.int .i64 0)] := by kernel_rfl
@[simp] theorem al2 (h : List Am.Obj) : allocV Tryz.prog h 2 = some (.ptr h.length 0,h ++ [.box [.d (.int .i64 0)]]) := allocV_of zs2
@[simp] theorem zv2 : (zero? Tryz.prog 2).isSome = true := by kernel_rfl
@[simp] theorem ap2 : appElem? Tryz.prog 2 = some 1 := by kernel_rfl
@[simp] theorem mk2 : makeElem? Tryz.prog 2 = some (1,.int .i64 0) := by kernel_rfl
@[simp] theorem zd2 : zeroD? Tryz.prog 2 = some (.int .i64 0) := by kernel_rfl
attribute [simp] Tryz.underlying3
@[simp] theorem sz3 : sizeOf? Tryz.prog 3 = some 1 := by kernel_rfl
@[simp] theorem ag3 : agg? Tryz.prog 3 = some false := by kernel_rfl
@[simp] theorem zs3 : zeroVs? Tryz.prog 3 = some [.d (.int .i64 0)] := by kernel_rfl
@[simp] theorem al3 (h : List Am.Obj) : allocV Tryz.prog h 3 = some (.ptr h.length 0,h ++ [.box [.d (.int .i64 0)]]) := allocV_of zs3
@[simp] theorem zv3 : (zero? Tryz.prog 3).isSome = true := by kernel_rfl
@[simp] theorem ap3 : appElem? Tryz.prog 3 = some 1 := by kernel_rfl
@[simp] theorem mk3 : makeElem? Tryz.prog 3 = some (1,.int .i64 0) := by kernel_rfl
@[simp] theorem zd3 : zeroD? Tryz.prog 3 = some (.int .i64 0) := by kernel_rfl
attribute [simp] Tryz.underlying4
@[simp] theorem sz4 : sizeOf? Tryz.prog 4 = some 1 := by kernel_rfl
@[simp] theorem ag4 : agg? Tryz.prog 4 = some false := by kernel_rfl
@[simp] theorem zs4 : zeroVs? Tryz.prog 4 = some [.d (.bool false)] := by kernel_rfl
@[simp] theorem al4 (h : List Am.Obj) : allocV Tryz.prog h 4 = some (.ptr h.length 0,h ++ [.box [.d (.bool false)]]) := allocV_of zs4
@[simp] theorem zv4 : (zero? Tryz.prog 4).isSome = true := by kernel_rfl
@[simp] theorem ap4 : appElem? Tryz.prog 4 = some 1 := by kernel_rfl
@[simp] theorem mk4 : makeElem? Tryz.prog 4 = some (1,.bool false) := by kernel_rfl
@[simp] theorem zd4 : zeroD? Tryz.prog 4 = some (.bool false) := by kernel_rfl
attribute [simp] Tryz.underlying5
@[simp] theorem sz5 : sizeOf? Tryz.prog 5 = some 1 := by kernel_rfl
@[simp] theorem ag5 : agg? Tryz.prog 5 = some false := by kernel_rfl
@[simp] theorem zs5 : zeroVs? Tryz.prog 5 = some [.d (.int .u8 0)] := by kernel_rfl
@[simp] theorem al5 (h : List Am.Obj) : allocV Tryz.prog h 5 = some (.ptr h.length 0,h ++ [.box [.d (.int .u8 0)]]) := allocV_of zs5
@[simp] theorem zv5 : (zero? Tryz.prog 5).isSome = true := by kernel_rfl
@[simp] theorem ap5 : appElem? Tryz.prog 5 = some 1 := by kernel_rfl
@[simp] theorem mk5 : makeElem? Tryz.prog 5 = some (1,.int .u8 0) := by kernel_rfl
@[simp] theorem zd5 : zeroD? Tryz.prog 5 = some (.int .u8 0) := by kernel_rfl
attribute [simp] Tryz.underlying9
@[simp] theorem sz9 : sizeOf? Tryz.prog 9 = some 1 := by kernel_rfl
@[simp] theorem ag9 : agg? Tryz.prog 9 = some false := by kernel_rfl
@[simp] theorem zs9 : zeroVs? Tryz.prog 9 = some [.d (.str ⟨#[]⟩)] := by kernel_rfl
@[simp] theorem al9 (h : List Am.Obj) : allocV Tryz.prog h 9 = some (.ptr h.length 0,h ++ [.box [.d (.str ⟨#[]⟩)]]) := allocV_of zs9
@[simp] theorem zv9 : (zero? Tryz.prog 9).isSome = true := by kernel_rfl
@[simp] theorem ap9 : appElem? Tryz.prog 9 = some 1 := by kernel_rfl
@[simp] theorem mk9 : makeElem? Tryz.prog 9 = some (1,.str ⟨#[]⟩) := by kernel_rfl
@[simp] theorem zd9 : zeroD? Tryz.prog 9 = some (.str ⟨#[]⟩) := by kernel_rfl
attribute [simp] Tryz.underlying20
@[simp] theorem sz20 : sizeOf? Tryz.prog 20 = some 1 := by kernel_rfl
@[simp] theorem ag20 : agg? Tryz.prog 20 = some false := by kernel_rfl
@[simp] theorem zs20 : zeroVs? Tryz.prog 20 = some [.d .nilI] := by kernel_rfl
@[simp] theorem al20 (h : List Am.Obj) : allocV Tryz.prog h 20 = some (.ptr h.length 0,h ++ [.box [.d .nilI]]) := allocV_of zs20
@[simp] theorem zv20 : (zero? Tryz.prog 20).isSome = true := by kernel_rfl
@[simp] theorem ap20 : appElem? Tryz.prog 20 = some 1 := by kernel_rfl
@[simp] theorem mk20 : makeElem? Tryz.prog 20 = some (1,.nilI) := by kernel_rfl
@[simp] theorem zd20 : zeroD? Tryz.prog 20 = some (.nilI) := by kernel_rfl
attribute [simp] Tryz.underlying22
@[simp] theorem sz22 : sizeOf? Tryz.prog 22 = some 1 := by kernel_rfl
@[simp] theorem ag22 : agg? Tryz.prog 22 = some false := by kernel_rfl
@[simp] theorem zs22 : zeroVs? Tryz.prog 22 = some [.nilS] := by kernel_rfl
@[simp] theorem al22 (h : List Am.Obj) : allocV Tryz.prog h 22 = some (.ptr h.length 0,h ++ [.box [.nilS]]) := allocV_of zs22
@[simp] theorem zv22 : (zero? Tryz.prog 22).isSome = true := by kernel_rfl
@[simp] theorem ap22 : appElem? Tryz.prog 22 = some 1 := by kernel_rfl
@[simp] theorem mk22 : makeElem? Tryz.prog 22 = some (1,.list []) := by kernel_rfl
@[simp] theorem zd22 : zeroD? Tryz.prog 22 = some (.list []) := by kernel_rfl
@[simp] theorem es22 : elemSize Tryz.prog 22 = 1 := by kernel_rfl
attribute [simp] Tryz.underlying24
@[simp] theorem sz24 : sizeOf? Tryz.prog 24 = some 1 := by kernel_rfl
@[simp] theorem ag24 : agg? Tryz.prog 24 = some false := by kernel_rfl
@[simp] theorem zs24 : zeroVs? Tryz.prog 24 = some [.nilS] := by kernel_rfl
@[simp] theorem al24 (h : List Am.Obj) : allocV Tryz.prog h 24 = some (.ptr h.length 0,h ++ [.box [.nilS]]) := allocV_of zs24
@[simp] theorem zv24 : (zero? Tryz.prog 24).isSome = true := by kernel_rfl
@[simp] theorem ap24 : appElem? Tryz.prog 24 = some 1 := by kernel_rfl
@[simp] theorem mk24 : makeElem? Tryz.prog 24 = some (1,.list []) := by kernel_rfl
@[simp] theorem zd24 : zeroD? Tryz.prog 24 = some (.list []) := by kernel_rfl
@[simp] theorem es24 : elemSize Tryz.prog 24 = 1 := by kernel_rfl
attribute [simp] Tryz.underlying25
@[simp] theorem sz25 : sizeOf? Tryz.prog 25 = some 1 := by kernel_rfl
@[simp] theorem ag25 : agg? Tryz.prog 25 = some false := by kernel_rfl
@[simp] theorem zs25 : zeroVs? Tryz.prog 25 = some [.d (.int .i64 0)] := by kernel_rfl
@[simp] theorem al25 (h : List Am.Obj) : allocV Tryz.prog h 25 = some (.ptr h.length 0,h ++ [.box [.d (.int .i64 0)]]) := allocV_of zs25
@[simp] theorem zv25 : (zero? Tryz.prog 25).isSome = true := by kernel_rfl
@[simp] theorem ap25 : appElem? Tryz.prog 25 = some 1 := by kernel_rfl
@[simp] theorem mk25 : makeElem? Tryz.prog 25 = some (1,.int .i64 0) := by kernel_rfl
@[simp] theorem zd25 : zeroD? Tryz.prog 25 = some (.int .i64 0) := by kernel_rfl
attribute [simp] Tryz.underlying26
@[simp] theorem sz26 : sizeOf? Tryz.prog 26 = some 1 := by kernel_rfl
@[simp] theorem ag26 : agg? Tryz.prog 26 = some false := by kernel_rfl
attribute [simp] Tryz.underlying28
@[simp] theorem sz28 : sizeOf? Tryz.prog 28 = some 1 := by kernel_rfl
@[simp] theorem ag28 : agg? Tryz.prog 28 = some false := by kernel_rfl
@[simp] theorem zs28 : zeroVs? Tryz.prog 28 = some [.d (.int .u8 0)] := by kernel_rfl
@[simp] theorem al28 (h : List Am.Obj) : allocV Tryz.prog h 28 = some (.ptr h.length 0,h ++ [.box [.d (.int .u8 0)]]) := allocV_of zs28
@[simp] theorem zv28 : (zero? Tryz.prog 28).isSome = true := by kernel_rfl
@[simp] theorem ap28 : appElem? Tryz.prog 28 = some 1 := by kernel_rfl
@[simp] theorem mk28 : makeElem? Tryz.prog 28 = some (1,.int .u8 0) := by kernel_rfl
@[simp] theorem zd28 : zeroD? Tryz.prog 28 = some (.int .u8 0) := by kernel_rfl
attribute [simp] Tryz.underlying29
@[simp] theorem sz29 : sizeOf? Tryz.prog 29 = some 1 := by kernel_rfl
@[simp] theorem ag29 : agg? Tryz.prog 29 = some false := by kernel_rfl
@[simp] theorem zs29 : zeroVs? Tryz.prog 29 = some [.nilS] := by kernel_rfl
@[simp] theorem al29 (h : List Am.Obj) : allocV Tryz.prog h 29 = some (.ptr h.length 0,h ++ [.box [.nilS]]) := allocV_of zs29
@[simp] theorem zv29 : (zero? Tryz.prog 29).isSome = true := by kernel_rfl
@[simp] theorem ap29 : appElem? Tryz.prog 29 = some 1 := by kernel_rfl
@[simp] theorem mk29 : makeElem? Tryz.prog 29 = some (1,.list []) := by kernel_rfl
@[simp] theorem zd29 : zeroD? Tryz.prog 29 = some (.list []) := by kernel_rfl
@[simp] theorem es29 : elemSize Tryz.prog 29 = 3 := by kernel_rfl
attribute [simp] Tryz.underlying30
@[simp] theorem sz30 : sizeOf? Tryz.prog 30 = some 1 := by kernel_rfl
@[simp] theorem ag30 : agg? Tryz.prog 30 = some false := by kernel_rfl
attribute [simp] Tryz.underlying35
@[simp] theorem sz35 : sizeOf? Tryz.prog 35 = some 1 := by kernel_rfl
@[simp] theorem ag35 : agg? Tryz.prog 35 = some false := by kernel_rfl
attribute [simp] Tryz.underlying37
@[simp] theorem sz37 : sizeOf? Tryz.prog 37 = some 3 := by kernel_rfl
@[simp] theorem ag37 : agg? Tryz.prog 37 = some true := by kernel_rfl
@[simp] theorem zs37 : zeroVs? Tryz.prog 37 = some [.d (.int .u8 0),.d (.int .i64 0),.d (.str ⟨#[]⟩)] := by kernel_rfl
@[simp] theorem al37 (h : List Am.Obj) : allocV Tryz.prog h 37 = some (.ptr h.length 0,h ++ [.box [.d (.int .u8 0),.d (.int .i64 0),.d (.str ⟨#[]⟩)]]) := allocV_of zs37
@[simp] theorem zv37 : (zero? Tryz.prog 37).isSome = true := by kernel_rfl
@[simp] theorem ap37 : appElem? Tryz.prog 37 = some 3 := by kernel_rfl
@[simp] theorem bv37 (parts : List (Nat × V)) : buildV Tryz.prog 37 parts = (fillV (fun i => [(0,1),(1,1),(2,1)][i]?) [.d (.int .u8 0),.d (.int .i64 0),.d (.str ⟨#[]⟩)] parts).map mkAgg := buildV_struct (by kernel_rfl) (by kernel_rfl)
@[simp] theorem fo37_0 : fieldOff? Tryz.prog 37 0 = some (0,28) := by kernel_rfl
@[simp] theorem fo37_1 : fieldOff? Tryz.prog 37 1 = some (1,2) := by kernel_rfl
@[simp] theorem fo37_2 : fieldOff? Tryz.prog 37 2 = some (2,9) := by kernel_rfl
@[simp] theorem fs37 : flatStruct Tryz.prog 37 = some [(0,0),(1,0),(2,2)] := by kernel_rfl
@[simp] theorem mk37 : makeElem? Tryz.prog 37 = some (3,.agg [.int .u8 0,.int .i64 0,.str ⟨#[]⟩]) := by kernel_rfl
@[simp] theorem zd37 : zeroD? Tryz.prog 37 = some (.agg [.int .u8 0,.int .i64 0,.str ⟨#[]⟩]) := by kernel_rfl
attribute [simp] Tryz.underlying38
@[simp] theorem sz38 : sizeOf? Tryz.prog 38 = some 3 := by kernel_rfl
@[simp] theorem ag38 : agg? Tryz.prog 38 = some true := by kernel_rfl
@[simp] theorem zs38 : zeroVs? Tryz.prog 38 = some [.d (.int .u8 0),.d (.int .i64 0),.d (.str ⟨#[]⟩)] := by kernel_rfl
@[simp] theorem al38 (h : List Am.Obj) : allocV Tryz.prog h 38 = some (.ptr h.length 0,h ++ [.box [.d (.int .u8 0),.d (.int .i64 0),.d (.str ⟨#[]⟩)]]) := allocV_of zs38
@[simp] theorem zv38 : (zero? Tryz.prog 38).isSome = true := by kernel_rfl
@[simp] theorem ap38 : appElem? Tryz.prog 38 = some 3 := by kernel_rfl
@[simp] theorem bv38 (parts : List (Nat × V)) : buildV Tryz.prog 38 parts = (fillV (fun i => [(0,1),(1,1),(2,1)][i]?) [.d (.int .u8 0),.d (.int .i64 0),.d (.str ⟨#[]⟩)] parts).map mkAgg := buildV_struct (by kernel_rfl) (by kernel_rfl)
@[simp] theorem fo38_0 : fieldOff? Tryz.prog 38 0 = some (0,28) := by kernel_rfl
@[simp] theorem fo38_1 : fieldOff? Tryz.prog 38 1 = some (1,2) := by kernel_rfl
@[simp] theorem fo38_2 : fieldOff? Tryz.prog 38 2 = some (2,9) := by kernel_rfl
@[simp] theorem fs38 : flatStruct Tryz.prog 38 = some [(0,0),(1,0),(2,2)] := by kernel_rfl
@[simp] theorem mk38 : makeElem? Tryz.prog 38 = some (3,.agg [.int .u8 0,.int .i64 0,.str ⟨#[]⟩]) := by kernel_rfl
@[simp] theorem zd38 : zeroD? Tryz.prog 38 = some (.agg [.int .u8 0,.int .i64 0,.str ⟨#[]⟩]) := by kernel_rfl
attribute [simp] Tryz.underlying40
@[simp] theorem sz40 : sizeOf? Tryz.prog 40 = some 1 := by kernel_rfl
@[simp] theorem ag40 : agg? Tryz.prog 40 = some false := by kernel_rfl
@[simp] theorem zs40 : zeroVs? Tryz.prog 40 = some [.d .nilI] := by kernel_rfl
@[simp] theorem al40 (h : List Am.Obj) : allocV Tryz.prog h 40 = some (.ptr h.length 0,h ++ [.box [.d .nilI]]) := allocV_of zs40
@[simp] theorem zv40 : (zero? Tryz.prog 40).isSome = true := by kernel_rfl
@[simp] theorem ap40 : appElem? Tryz.prog 40 = some 1 := by kernel_rfl
@[simp] theorem mk40 : makeElem? Tryz.prog 40 = some (1,.nilI) := by kernel_rfl
@[simp] theorem zd40 : zeroD? Tryz.prog 40 = some (.nilI) := by kernel_rfl
attribute [simp] Tryz.underlying43
@[simp] theorem sz43 : sizeOf? Tryz.prog 43 = some 1 := by kernel_rfl
@[simp] theorem ag43 : agg? Tryz.prog 43 = some false := by kernel_rfl
@[simp] theorem zs43 : zeroVs? Tryz.prog 43 = some [.nilS] := by kernel_rfl
@[simp] theorem al43 (h : List Am.Obj) : allocV Tryz.prog h 43 = some (.ptr h.length 0,h ++ [.box [.nilS]]) := allocV_of zs43
@[simp] theorem zv43 : (zero? Tryz.prog 43).isSome = true := by kernel_rfl
@[simp] theorem ap43 : appElem? Tryz.prog 43 = some 1 := by kernel_rfl
@[simp] theorem mk43 : makeElem? Tryz.prog 43 = some (1,.list []) := by kernel_rfl
@[simp] theorem zd43 : zeroD? Tryz.prog 43 = some (.list []) := by kernel_rfl
@[simp] theorem es43 : elemSize Tryz.prog 43 = 1 := by kernel_rfl
attribute [simp] Tryz.underlying44
@[simp] theorem sz44 : sizeOf? Tryz.prog 44 = some 1 := by kernel_rfl
@[simp] theorem ag44 : agg? Tryz.prog 44 = some false := by kernel_rfl
@[simp] theorem zs44 : zeroVs? Tryz.prog 44 = some [.d (.int .u64 0)] := by kernel_rfl
@[simp] theorem al44 (h : List Am.Obj) : allocV Tryz.prog h 44 = some (.ptr h.length 0,h ++ [.box [.d (.int .u64 0)]]) := allocV_of zs44
@[simp] theorem zv44 : (zero? Tryz.prog 44).isSome = true := by kernel_rfl
@[simp] theorem ap44 : appElem? Tryz.prog 44 = some 1 := by kernel_rfl
@[simp] theorem mk44 : makeElem? Tryz.prog 44 = some (1,.int .u64 0) := by kernel_rfl
@[simp] theorem zd44 : zeroD? Tryz.prog 44 = some (.int .u64 0) := by kernel_rfl
attribute [simp] Tryz.underlying45
@[simp] theorem sz45 : sizeOf? Tryz.prog 45 = some 1 := by kernel_rfl
@[simp] theorem ag45 : agg? Tryz.prog 45 = some false := by kernel_rfl
attribute [simp] Tryz.underlying47
@[simp] theorem sz47 : sizeOf? Tryz.prog 47 = some 1 := by kernel_rfl
@[simp] theorem ag47 : agg? Tryz.prog 47 = some false := by kernel_rfl
@[simp] theorem zs47 : zeroVs? Tryz.prog 47 = some [.nilS] := by kernel_rfl
@[simp] theorem al47 (h : List Am.Obj) : allocV Tryz.prog h 47 = some (.ptr h.length 0,h ++ [.box [.nilS]]) := allocV_of zs47
@[simp] theorem zv47 : (zero? Tryz.prog 47).isSome = true := by kernel_rfl
@[simp] theorem ap47 : appElem? Tryz.prog 47 = some 1 := by kernel_rfl
@[simp] theorem mk47 : makeElem? Tryz.prog 47 = some (1,.list []) := by kernel_rfl
@[simp] theorem zd47 : zeroD? Tryz.prog 47 = some (.list []) := by kernel_rfl
@[simp] theorem es47 : elemSize Tryz.prog 47 = 1 := by kernel_rfl
attribute [simp] Tryz.underlying48
@[simp] theorem sz48 : sizeOf? Tryz.prog 48 = some 1 := by kernel_rfl
@[simp] theorem ag48 : agg? Tryz.prog 48 = some false := by kernel_rfl
attribute [simp] Tryz.underlying50
@[simp] theorem sz50 : sizeOf? Tryz.prog 50 = some 1 := by kernel_rfl
@[simp] theorem ag50 : agg? Tryz.prog 50 = some false := by kernel_rfl
@[simp] theorem zs50 : zeroVs? Tryz.prog 50 = some [.nilS] := by kernel_rfl
@[simp] theorem al50 (h : List Am.Obj) : allocV Tryz.prog h 50 = some (.ptr h.length 0,h ++ [.box [.nilS]]) := allocV_of zs50
@[simp] theorem zv50 : (zero? Tryz.prog 50).isSome = true := by kernel_rfl
@[simp] theorem ap50 : appElem? Tryz.prog 50 = some 1 := by kernel_rfl
@[simp] theorem mk50 : makeElem? Tryz.prog 50 = some (1,.list []) := by kernel_rfl
@[simp] theorem zd50 : zeroD? Tryz.prog 50 = some (.list []) := by kernel_rfl
@[simp] theorem es50 : elemSize Tryz.prog 50 = 1 := by kernel_rfl
attribute [simp] Tryz.underlying51
@[simp] theorem sz51 : sizeOf? Tryz.prog 51 = some 1 := by kernel_rfl
@[simp] theorem ag51 : agg? Tryz.prog 51 = some false := by kernel_rfl
attribute [simp] Tryz.underlying53
@[simp] theorem sz53 : sizeOf? Tryz.prog 53 = some 1 := by kernel_rfl
@[simp] theorem ag53 : agg? Tryz.prog 53 = some false := by kernel_rfl
attribute [simp] Tryz.underlying56
@[simp] theorem sz56 : sizeOf? Tryz.prog 56 = some 1 := by kernel_rfl
@[simp] theorem ag56 : agg? Tryz.prog 56 = some false := by kernel_rfl
@[simp] theorem zs56 : zeroVs? Tryz.prog 56 = some [.nilS] := by kernel_rfl
@[simp] theorem al56 (h : List Am.Obj) : allocV Tryz.prog h 56 = some (.ptr h.length 0,h ++ [.box [.nilS]]) := allocV_of zs56
@[simp] theorem zv56 : (zero? Tryz.prog 56).isSome = true := by kernel_rfl
@[simp] theorem ap56 : appElem? Tryz.prog 56 = some 1 := by kernel_rfl
@[simp] theorem mk56 : makeElem? Tryz.prog 56 = some (1,.list []) := by kernel_rfl
@[simp] theorem zd56 : zeroD? Tryz.prog 56 = some (.list []) := by kernel_rfl
@[simp] theorem es56 : elemSize Tryz.prog 56 = 1 := by kernel_rfl
attribute [simp] Tryz.underlying57
@[simp] theorem sz57 : sizeOf? Tryz.prog 57 = some 1 := by kernel_rfl
@[simp] theorem ag57 : agg? Tryz.prog 57 = some false := by kernel_rfl
attribute [simp] Tryz.underlying58
@[simp] theorem sz58 : sizeOf? Tryz.prog 58 = some 1 := by kernel_rfl
@[simp] theorem ag58 : agg? Tryz.prog 58 = some false := by kernel_rfl
attribute [simp] Tryz.underlying59
@[simp] theorem sz59 : sizeOf? Tryz.prog 59 = some 1 := by kernel_rfl
@[simp] theorem ag59 : agg? Tryz.prog 59 = some false := by kernel_rfl
attribute [simp] Tryz.underlying62
@[simp] theorem sz62 : sizeOf? Tryz.prog 62 = some 1 := by kernel_rfl
@[simp] theorem ag62 : agg? Tryz.prog 62 = some false := by kernel_rfl
attribute [simp] Tryz.underlying66
@[simp] theorem sz66 : sizeOf? Tryz.prog 66 = some 1 := by kernel_rfl
@[simp] theorem ag66 : agg? Tryz.prog 66 = some false := by kernel_rfl
attribute [simp] Tryz.underlying68
@[simp] theorem sz68 : sizeOf? Tryz.prog 68 = some 1 := by kernel_rfl
@[simp] theorem ag68 : agg? Tryz.prog 68 = some false := by kernel_rfl
@[simp] theorem zs68 : zeroVs? Tryz.prog 68 = some [.d (.int .u64 0)] := by kernel_rfl
@[simp] theorem al68 (h : List Am.Obj) : allocV Tryz.prog h 68 = some (.ptr h.length 0,h ++ [.box [.d (.int .u64 0)]]) := allocV_of zs68
@[simp] theorem zv68 : (zero? Tryz.prog 68).isSome = true := by kernel_rfl
@[simp] theorem ap68 : appElem? Tryz.prog 68 = some 1 := by kernel_rfl
@[simp] theorem mk68 : makeElem? Tryz.prog 68 = some (1,.int .u64 0) := by kernel_rfl
@[simp] theorem zd68 : zeroD? Tryz.prog 68 = some (.int .u64 0) := by kernel_rfl
attribute [simp] Tryz.underlying69
@[simp] theorem sz69 : sizeOf? Tryz.prog 69 = some 1 := by kernel_rfl
@[simp] theorem ag69 : agg? Tryz.prog 69 = some false := by kernel_rfl
@[simp] theorem zs69 : zeroVs? Tryz.prog 69 = some [.d .nilP] := by kernel_rfl
@[simp] theorem al69 (h : List Am.Obj) : allocV Tryz.prog h 69 = some (.ptr h.length 0,h ++ [.box [.d .nilP]]) := allocV_of zs69
@[simp] theorem zv69 : (zero? Tryz.prog 69).isSome = true := by kernel_rfl
@[simp] theorem ap69 : appElem? Tryz.prog 69 = some 1 := by kernel_rfl
@[simp] theorem mk69 : makeElem? Tryz.prog 69 = some (1,.nilP) := by kernel_rfl
@[simp] theorem zd69 : zeroD? Tryz.prog 69 = some (.nilP) := by kernel_rfl
attribute [simp] Tryz.underlying70
@[simp] theorem sz70 : sizeOf? Tryz.prog 70 = some 2 := by kernel_rfl
@[simp] theorem ag70 : agg? Tryz.prog 70 = some true := by kernel_rfl
@[simp] theorem zs70 : zeroVs? Tryz.prog 70 = some [.nilS,.d (.int .i64 0)] := by kernel_rfl
@[simp] theorem al70 (h : List Am.Obj) : allocV Tryz.prog h 70 = some (.ptr h.length 0,h ++ [.box [.nilS,.d (.int .i64 0)]]) := allocV_of zs70
@[simp] theorem zv70 : (zero? Tryz.prog 70).isSome = true := by kernel_rfl
@[simp] theorem ap70 : appElem? Tryz.prog 70 = some 2 := by kernel_rfl
@[simp] theorem bv70 (parts : List (Nat × V)) : buildV Tryz.prog 70 parts = (fillV (fun i => [(0,1),(1,1)][i]?) [.nilS,.d (.int .i64 0)] parts).map mkAgg := buildV_struct (by kernel_rfl) (by kernel_rfl)
@[simp] theorem fo70_0 : fieldOff? Tryz.prog 70 0 = some (0,22) := by kernel_rfl
@[simp] theorem fo70_1 : fieldOff? Tryz.prog 70 1 = some (1,3) := by kernel_rfl
@[simp] theorem mk70 : makeElem? Tryz.prog 70 = some (2,.agg [.list [],.int .i64 0]) := by kernel_rfl
@[simp] theorem zd70 : zeroD? Tryz.prog 70 = some (.agg [.list [],.int .i64 0]) := by kernel_rfl
attribute [simp] Tryz.underlying71
@[simp] theorem sz71 : sizeOf? Tryz.prog 71 = some 2 := by kernel_rfl
@[simp] theorem ag71 : agg? Tryz.prog 71 = some true := by kernel_rfl
@[simp] theorem zs71 : zeroVs? Tryz.prog 71 = some [.nilS,.d (.int .i64 0)] := by kernel_rfl
@[simp] theorem al71 (h : List Am.Obj) : allocV Tryz.prog h 71 = some (.ptr h.length 0,h ++ [.box [.nilS,.d (.int .i64 0)]]) := allocV_of zs71
@[simp] theorem zv71 : (zero? Tryz.prog 71).isSome = true := by kernel_rfl
@[simp] theorem ap71 : appElem? Tryz.prog 71 = some 2 := by kernel_rfl
@[simp] theorem bv71 (parts : List (Nat × V)) : buildV Tryz.prog 71 parts = (fillV (fun i => [(0,1),(1,1)][i]?) [.nilS,.d (.int .i64 0)] parts).map mkAgg := buildV_struct (by kernel_rfl) (by kernel_rfl)
@[simp] theorem fo71_0 : fieldOff? Tryz.prog 71 0 = some (0,22) := by kernel_rfl
@[simp] theorem fo71_1 : fieldOff? Tryz.prog 71 1 = some (1,3) := by kernel_rfl
@[simp] theorem mk71 : makeElem? Tryz.prog 71 = some (2,.agg [.list [],.int .i64 0]) := by kernel_rfl
@[simp] theorem zd71 : zeroD? Tryz.prog 71 = some (.agg [.list [],.int .i64 0]) := by kernel_rfl
attribute [simp] Tryz.underlying74
@[simp] theorem sz74 : sizeOf? Tryz.prog 74 = some 1 := by kernel_rfl
@[simp] theorem ag74 : agg? Tryz.prog 74 = some false := by kernel_rfl
attribute [simp] Tryz.underlying76
@[simp] theorem sz76 : sizeOf? Tryz.prog 76 = some 1 := by kernel_rfl
@[simp] theorem ag76 : agg? Tryz.prog 76 = some false := by kernel_rfl
attribute [simp] Tryz.underlying78
@[simp] theorem sz78 : sizeOf? Tryz.prog 78 = some 1 := by kernel_rfl
@[simp] theorem ag78 : agg? Tryz.prog 78 = some false := by kernel_rfl
attribute [simp] Tryz.underlying86
@[simp] theorem sz86 : sizeOf? Tryz.prog 86 = some 1 := by kernel_rfl
@[simp] theorem ag86 : agg? Tryz.prog 86 = some false := by kernel_rfl
attribute [simp] Tryz.underlying87
@[simp] theorem sz87 : sizeOf? Tryz.prog 87 = some 1 := by kernel_rfl
@[simp] theorem ag87 : agg? Tryz.prog 87 = some false := by kernel_rfl
attribute [simp] Tryz.underlying89
@[simp] theorem sz89 : sizeOf? Tryz.prog 89 = some 1 := by kernel_rfl
@[simp] theorem ag89 : agg? Tryz.prog 89 = some false := by kernel_rfl
attribute [simp] Tryz.underlying91
@[simp] theorem sz91 : sizeOf? Tryz.prog 91 = some 1 := by kernel_rfl
@[simp] theorem ag91 : agg? Tryz.prog 91 = some false := by kernel_rfl
attribute [simp] Tryz.underlying93
@[simp] theorem sz93 : sizeOf? Tryz.prog 93 = some 1 := by kernel_rfl
@[simp] theorem ag93 : agg? Tryz.prog 93 = some false := by kernel_rfl
attribute [simp] Tryz.underlying95
@[simp] theorem sz95 : sizeOf? Tryz.prog 95 = some 1 := by kernel_rfl
@[simp] theorem ag95 : agg? Tryz.prog 95 = some false := by kernel_rfl
attribute [simp] Tryz.underlying104
@[simp] theorem sz104 : sizeOf? Tryz.prog 104 = some 5 := by kernel_rfl
@[simp] theorem ag104 : agg? Tryz.prog 104 = some true := by kernel_rfl
@[simp] theorem zs104 : zeroVs? Tryz.prog 104 = some [.d .nilF,.d .nilF,.d .nilF,.d .nilF,.d .nilF] := by kernel_rfl
@[simp] theorem al104 (h : List Am.Obj) : allocV Tryz.prog h 104 = some (.ptr h.length 0,h ++ [.box [.d .nilF,.d .nilF,.d .nilF,.d .nilF,.d .nilF]]) := allocV_of zs104
@[simp] theorem zv104 : (zero? Tryz.prog 104).isSome = true := by kernel_rfl
@[simp] theorem ap104 : appElem? Tryz.prog 104 = some 5 := by kernel_rfl
@[simp] theorem bv104 (parts : List (Nat × V)) : buildV Tryz.prog 104 parts = (fillV (fun i => some (i * 1,1)) [.d .nilF,.d .nilF,.d .nilF,.d .nilF,.d .nilF] parts).map mkAgg := buildV_array (by kernel_rfl) Tryz.underlying104 (by kernel_rfl)
@[simp] theorem mk104 : makeElem? Tryz.prog 104 = some (5,.agg [.nilF,.nilF,.nilF,.nilF,.nilF]) := by kernel_rfl
@[simp] theorem zd104 : zeroD? Tryz.prog 104 = some (.agg [.nilF,.nilF,.nilF,.nilF,.nilF]) := by kernel_rfl
attribute [simp] Tryz.underlying109
@[simp] theorem sz109 : sizeOf? Tryz.prog 109 = some 1 := by kernel_rfl
@[simp] theorem ag109 : agg? Tryz.prog 109 = some false := by kernel_rfl
@[simp] theorem zs109 : zeroVs? Tryz.prog 109 = some [.d (.int .u32 0)] := by kernel_rfl
@[simp] theorem al109 (h : List Am.Obj) : allocV Tryz.prog h 109 = some (.ptr h.length 0,h ++ [.box [.d (.int .u32 0)]]) := allocV_of zs109
@[simp] theorem zv109 : (zero? Tryz.prog 109).isSome = true := by kernel_rfl
@[simp] theorem ap109 : appElem? Tryz.prog 109 = some 1 := by kernel_rfl
@[simp] theorem mk109 : makeElem? Tryz.prog 109 = some (1,.int .u32 0) := by kernel_rfl
@[simp] theorem zd109 : zeroD? Tryz.prog 109 = some (.int .u32 0) := by kernel_rfl
attribute [simp] Tryz.underlying110
@[simp] theorem sz110 : sizeOf? Tryz.prog 110 = some 1 := by kernel_rfl
@[simp] theorem ag110 : agg? Tryz.prog 110 = some false := by kernel_rfl
attribute [simp] Tryz.underlying112
@[simp] theorem sz112 : sizeOf? Tryz.prog 112 = some 1 := by kernel_rfl
@[simp] theorem ag112 : agg? Tryz.prog 112 = some false := by kernel_rfl
attribute [simp] Tryz.underlying114
@[simp] theorem sz114 : sizeOf? Tryz.prog 114 = some 1 := by kernel_rfl
@[simp] theorem ag114 : agg? Tryz.prog 114 = some false := by kernel_rfl
@[simp] theorem zs114 : zeroVs? Tryz.prog 114 = some [.d .nilP] := by kernel_rfl
@[simp] theorem al114 (h : List Am.Obj) : allocV Tryz.prog h 114 = some (.ptr h.length 0,h ++ [.box [.d .nilP]]) := allocV_of zs114
@[simp] theorem zv114 : (zero? Tryz.prog 114).isSome = true := by kernel_rfl
@[simp] theorem ap114 : appElem? Tryz.prog 114 = some 1 := by kernel_rfl
@[simp] theorem mk114 : makeElem? Tryz.prog 114 = some (1,.nilP) := by kernel_rfl
@[simp] theorem zd114 : zeroD? Tryz.prog 114 = some (.nilP) := by kernel_rfl
attribute [simp] Tryz.underlying115
@[simp] theorem sz115 : sizeOf? Tryz.prog 115 = some 2 := by kernel_rfl
@[simp] theorem ag115 : agg? Tryz.prog 115 = some true := by kernel_rfl
@[simp] theorem zs115 : zeroVs? Tryz.prog 115 = some [.nilS,.d (.int .i64 0)] := by kernel_rfl
@[simp] theorem al115 (h : List Am.Obj) : allocV Tryz.prog h 115 = some (.ptr h.length 0,h ++ [.box [.nilS,.d (.int .i64 0)]]) := allocV_of zs115
@[simp] theorem zv115 : (zero? Tryz.prog 115).isSome = true := by kernel_rfl
@[simp] theorem ap115 : appElem? Tryz.prog 115 = some 2 := by kernel_rfl
@[simp] theorem bv115 (parts : List (Nat × V)) : buildV Tryz.prog 115 parts = (fillV (fun i => [(0,1),(1,1)][i]?) [.nilS,.d (.int .i64 0)] parts).map mkAgg := buildV_struct (by kernel_rfl) (by kernel_rfl)
@[simp] theorem fo115_0 : fieldOff? Tryz.prog 115 0 = some (0,22) := by kernel_rfl
@[simp] theorem fo115_1 : fieldOff? Tryz.prog 115 1 = some (1,25) := by kernel_rfl
@[simp] theorem mk115 : makeElem? Tryz.prog 115 = some (2,.agg [.list [],.int .i64 0]) := by kernel_rfl
@[simp] theorem zd115 : zeroD? Tryz.prog 115 = some (.agg [.list [],.int .i64 0]) := by kernel_rfl
attribute [simp] Tryz.underlying116
@[simp] theorem sz116 : sizeOf? Tryz.prog 116 = some 2 := by kernel_rfl
@[simp] theorem ag116 : agg? Tryz.prog 116 = some true := by kernel_rfl
@[simp] theorem zs116 : zeroVs? Tryz.prog 116 = some [.nilS,.d (.int .i64 0)] := by kernel_rfl
@[simp] theorem al116 (h : List Am.Obj) : allocV Tryz.prog h 116 = some (.ptr h.length 0,h ++ [.box [.nilS,.d (.int .i64 0)]]) := allocV_of zs116
@[simp] theorem zv116 : (zero? Tryz.prog 116).isSome = true := by kernel_rfl
@[simp] theorem ap116 : appElem? Tryz.prog 116 = some 2 := by kernel_rfl
@[simp] theorem bv116 (parts : List (Nat × V)) : buildV Tryz.prog 116 parts = (fillV (fun i => [(0,1),(1,1)][i]?) [.nilS,.d (.int .i64 0)] parts).map mkAgg := buildV_struct (by kernel_rfl) (by kernel_rfl)
@[simp] theorem fo116_0 : fieldOff? Tryz.prog 116 0 = some (0,22) := by kernel_rfl
@[simp] theorem fo116_1 : fieldOff? Tryz.prog 116 1 = some (1,25) := by kernel_rfl
@[simp] theorem mk116 : makeElem? Tryz.prog 116 = some (2,.agg [.list [],.int .i64 0]) := by kernel_rfl
@[simp] theorem zd116 : zeroD? Tryz.prog 116 = some (.agg [.list [],.int .i64 0]) := by kernel_rfl
attribute [simp] Tryz.underlying119
@[simp] theorem sz119 : sizeOf? Tryz.prog 119 = some 1 := by kernel_rfl
@[simp] theorem ag119 : agg? Tryz.prog 119 = some false := by kernel_rfl
attribute [simp] Tryz.underlying121
@[simp] theorem sz121 : sizeOf? Tryz.prog 121 = some 1 := by kernel_rfl
@[simp] theorem ag121 : agg? Tryz.prog 121 = some false := by kernel_rfl
attribute [simp] Tryz.underlying123
@[simp] theorem sz123 : sizeOf? Tryz.prog 123 = some 1 := by kernel_rfl
@[simp] theorem ag123 : agg? Tryz.prog 123 = some false := by kernel_rfl
attribute [simp] Tryz.underlying129
@[simp] theorem sz129 : sizeOf? Tryz.prog 129 = some 1 := by kernel_rfl
@[simp] theorem ag129 : agg? Tryz.prog 129 = some false := by kernel_rfl
@[simp] theorem zs129 : zeroVs? Tryz.prog 129 = some [.d (.int .i64 0)] := by kernel_rfl
@[simp] theorem al129 (h : List Am.Obj) : allocV Tryz.prog h 129 = some (.ptr h.length 0,h ++ [.box [.d (.int .i64 0)]]) := allocV_of zs129
@[simp] theorem zv129 : (zero? Tryz.prog 129).isSome = true := by kernel_rfl
@[simp] theorem ap129 : appElem? Tryz.prog 129 = some 1 := by kernel_rfl
@[simp] theorem mk129 : makeElem? Tryz.prog 129 = some (1,.int .i64 0) := by kernel_rfl
@[simp] theorem zd129 : zeroD? Tryz.prog 129 = some (.int .i64 0) := by kernel_rfl
attribute [simp] Tryz.underlying130
@[simp] theorem sz130 : sizeOf? Tryz.prog 130 = some 1 := by kernel_rfl
@[simp] theorem ag130 : agg? Tryz.prog 130 = some false := by kernel_rfl
attribute [simp] Tryz.underlying136
@[simp] theorem sz136 : sizeOf? Tryz.prog 136 = some 1 := by kernel_rfl
@[simp] theorem ag136 : agg? Tryz.prog 136 = some false := by kernel_rfl
attribute [simp] Tryz.underlying142
@[simp] theorem sz142 : sizeOf? Tryz.prog 142 = some 1 := by kernel_rfl
@[simp] theorem ag142 : agg? Tryz.prog 142 = some false := by kernel_rfl
@[simp] theorem zs142 : zeroVs? Tryz.prog 142 = some [.d (.int .u64 0)] := by kernel_rfl
@[simp] theorem al142 (h : List Am.Obj) : allocV Tryz.prog h 142 = some (.ptr h.length 0,h ++ [.box [.d (.int .u64 0)]]) := allocV_of zs142
@[simp] theorem zv142 : (zero? Tryz.prog 142).isSome = true := by kernel_rfl
@[simp] theorem ap142 : appElem? Tryz.prog 142 = some 1 := by kernel_rfl
@[simp] theorem mk142 : makeElem? Tryz.prog 142 = some (1,.int .u64 0) := by kernel_rfl
@[simp] theorem zd142 : zeroD? Tryz.prog 142 = some (.int .u64 0) := by kernel_rfl
attribute [simp] Tryz.underlying145
@[simp] theorem sz145 : sizeOf? Tryz.prog 145 = some 1 := by kernel_rfl
@[simp] theorem ag145 : agg? Tryz.prog 145 = some false := by kernel_rfl
@[simp] theorem zs145 : zeroVs? Tryz.prog 145 = some [.d .nilP] := by kernel_rfl
@[simp] theorem al145 (h : List Am.Obj) : allocV Tryz.prog h 145 = some (.ptr h.length 0,h ++ [.box [.d .nilP]]) := allocV_of zs145
@[simp] theorem zv145 : (zero? Tryz.prog 145).isSome = true := by kernel_rfl
@[simp] theorem ap145 : appElem? Tryz.prog 145 = some 1 := by kernel_rfl
@[simp] theorem mk145 : makeElem? Tryz.prog 145 = some (1,.nilP) := by kernel_rfl
@[simp] theorem zd145 : zeroD? Tryz.prog 145 = some (.nilP) := by kernel_rfl
attribute [simp] Tryz.underlying148
@[simp] theorem sz148 : sizeOf? Tryz.prog 148 = some 1 := by kernel_rfl
@[simp] theorem ag148 : agg? Tryz.prog 148 = some false := by kernel_rfl
@[simp] theorem zs148 : zeroVs? Tryz.prog 148 = some [.d .nilP] := by kernel_rfl
@[simp] theorem al148 (h : List Am.Obj) : allocV Tryz.prog h 148 = some (.ptr h.length 0,h ++ [.box [.d .nilP]]) := allocV_of zs148
@[simp] theorem zv148 : (zero? Tryz.prog 148).isSome = true := by kernel_rfl
@[simp] theorem ap148 : appElem? Tryz.prog 148 = some 1 := by kernel_rfl
@[simp] theorem mk148 : makeElem? Tryz.prog 148 = some (1,.nilP) := by kernel_rfl
@[simp] theorem zd148 : zeroD? Tryz.prog 148 = some (.nilP) := by kernel_rfl
attribute [simp] Tryz.underlying149
@[simp] theorem sz149 : sizeOf? Tryz.prog 149 = some 1 := by kernel_rfl
@[simp] theorem ag149 : agg? Tryz.prog 149 = some false := by kernel_rfl
def K : Keeps := fun f b => match f,b with
 | 6,0 => some [(0,0),(1,0),(2,0),(8,1),(9,0)]
 | 6,2 => some [(0,0),(1,0),(2,0),(8,1),(10,0),(13,0),(14,0)]
 | 6,5 => some [(0,0),(1,0),(2,0),(8,1),(15,3),(22,0),(24,0)]
 | 6,7 => some [(0,0),(1,0),(2,0),(8,1),(15,3),(16,0),(18,0)]
 | 6,9 => some [(0,0),(1,0),(2,0),(8,1),(15,3),(19,0),(21,0)]
 | 6,11 => some [(0,0),(1,0),(2,0),(8,1),(15,3),(25,3),(26,0),(27,0)]
 | 7,0 => some [(0,0),(1,0),(5,0)]
 | 8,0 => some [(0,0),(3,3),(4,0)]
 | 9,0 => some [(0,0),(1,0),(26,0),(27,0),(28,0)]
 | 9,2 => some [(0,0),(8,0),(9,1),(10,1),(11,1),(47,0),(48,0),(49,0)]
 | 12,0 => some [(0,0),(1,0),(2,0),(9,0),(12,0),(56,0),(57,0),(58,0)]
 | 12,2 => some [(1000015,0),(17,0),(79,0),(80,0),(81,0)]
 | 13,0 => some [(0,0),(1,0),(12,0),(13,0)]
 | 14,0 => some [(0,0),(1,0),(2,0),(8,1),(9,0)]
 | 14,2 => some [(0,0),(1,0),(2,0),(8,1),(9,0),(10,0),(11,0)]
 | 14,4 => some [(0,0),(8,1),(13,0)]
 | 16,0 => some [(13,0),(14,0),(15,0),(16,1),(17,0)]
 | 17,0 => some [(0,0),(1,0),(6,0)]
 | 17,2 => some [(0,0),(1,0),(8,1),(9,1),(10,1),(11,1),(12,0),(13,0)]
 | 17,4 => some [(11,1),(15,0),(18,0),(19,1),(20,0)]
 | 17,6 => some [(11,1),(15,0),(18,0),(19,1),(20,0),(21,0)]
 | 20,0 => some [(3,0),(11,0),(12,0),(13,0)]
 | 21,0 => some [(0,0),(4,1),(11,0)]
 | 22,0 => some [(0,0),(3,0),(4,0),(5,1),(20,0),(21,0),(22,0)]
 | 23,0 => some [(7,0),(8,0)]
 | 24,0 => some [(0,0),(2,0),(9,0),(56,0),(57,0)]
 | 24,2 => some [(0,0),(2,0),(9,0),(10,0),(11,0),(56,0),(57,0)]
 | 25,1 => some [(8,1),(10,0),(30,0),(31,0),(32,0)]
 | 25,3 => some [(8,1),(14,0),(52,0),(53,0),(54,0)]
 | 25,5 => some [(8,1),(18,0),(73,0),(74,0),(75,0)]
 | 26,1 => some [(7,1),(21,0),(23,0),(24,0)]
 | 26,3 => some [(0,0),(2,0),(7,1),(8,0)]
 | 26,5 => some [(0,0),(2,0),(7,1),(9,0),(10,0)]
 | 26,7 => some [(0,0),(2,0),(7,1)]
 | 26,9 => some [(0,0),(2,0),(7,1),(11,0),(12,0),(13,0)]
 | 26,11 => some [(0,0),(2,0),(7,1),(14,0),(15,1),(16,0)]
 | 26,13 => some [(0,0),(7,1),(14,0),(15,1),(19,0),(20,0)]
 | 27,1 => some [(1,0),(6,1),(7,0)]
 | 27,3 => some [(1,0),(6,1),(8,0)]
 | 27,5 => some [(1,0),(6,1),(9,0),(10,0)]
 | 27,7 => some [(1,0),(6,1),(11,0),(12,1),(13,0)]
 | 27,9 => some [(1,0),(6,1),(11,0),(12,1),(14,0)]
 | 27,11 => some [(1,0),(17,0),(18,1),(19,0)]
 | 28,0 => some [(0,0),(5,0)]
 | 28,2 => some [(0,0),(5,0),(6,0),(7,0)]
 | 30,0 => some [(0,0),(1,0),(7,1),(8,0)]
 | 32,0 => some [(0,0),(4,1),(5,0)]
 | 33,0 => some [(0,0),(3,1),(4,0)]
 | 33,2 => some [(0,0),(3,1),(4,0),(5,1),(6,0),(7,0)]
 | 34,0 => some [(0,0),(3,1),(4,1),(5,0)]
 | 36,0 => some [(0,0),(1,0),(7,0),(8,0)]
 | 37,0 => some [(1,0),(6,0),(36,0),(37,0),(38,0)]
 | 37,2 => some [(1,0),(6,0),(7,0),(8,0),(9,0),(36,0),(37,0),(38,0)]
 | 39,0 => some [(0,0),(5,1),(6,1),(9,0),(10,0),(11,0)]
 | 43,0 => some [(0,0),(3,0)]
 | 43,2 => some [(0,0),(3,0),(4,0),(5,0)]
 | 44,0 => some [(0,0),(1,0),(6,0),(7,0),(8,0)]
 | 45,0 => some [(0,0),(3,1)]
 | 47,2 => some [(0,0),(1,0),(6,0),(7,1),(8,0)]
 | 48,0 => some [(12,0),(15,1),(85,0),(86,0),(87,0)]
 | 52,0 => some [(0,0),(3,0),(4,0)]
 | 52,2 => some [(0,0),(3,0),(4,0)]
 | 54,0 => some [(0,0),(3,1),(4,0)]
 | 54,2 => some [(0,0),(3,1),(4,0),(5,1),(6,0),(7,0)]
 | 55,0 => some [(0,0),(1,0),(5,0)]
 | 56,0 => some [(0,0),(1,0),(6,1),(7,0),(8,0)]
 | 56,2 => some [(0,0),(1,0),(6,1),(7,0),(8,0),(9,0)]
 | 58,0 => some [(3,0),(6,0),(7,0),(8,0)]
 | 59,0 => some [(3,1),(6,0),(7,0),(8,0)]
 | 60,0 => some [(3,1),(4,0),(7,0),(8,0),(9,0)]
 | 61,0 => some [(0,0),(3,1),(4,0)]
 | 61,2 => some [(0,0),(3,1),(4,0),(5,0)]
 | 62,0 => some [(0,0),(3,0),(4,0),(18,0),(19,0),(20,0)]
 | 62,2 => some [(3,0),(4,0),(7,0),(47,0),(48,0),(49,0)]
 | 63,0 => some [(3,0),(4,0),(16,0),(17,0),(18,0)]
 | 64,0 => some [(0,0),(1,0),(2,0),(3,0),(8,0),(9,0)]
 | 71,0 => some [(0,0),(1,0),(5,1)]
 | 72,0 => some [(0,0),(1,0),(5,0),(6,1)]
 | 72,2 => some [(0,0),(5,0),(6,1),(9,1),(104,0),(105,0),(106,0)]
 | 73,0 => some [(5,0),(7,1),(36,0),(37,0),(38,0)]
 | 75,0 => some [(0,0),(11,1),(45,0),(46,0),(47,0)]
 | 76,0 => some [(5,0),(8,0),(9,0),(10,0)]
 | 81,0 => some [(0,0),(1,0),(6,0),(7,0),(8,0)]
 | 83,0 => some [(0,0),(3,0),(4,0)]
 | 84,0 => some [(0,0),(1,0),(2,0),(6,0)]
 | 84,2 => some [(0,0),(1,0),(2,0),(6,0),(7,0)]
 | 85,0 => some [(0,0),(6,0),(7,0),(8,0),(9,0)]
 | 85,2 => some [(0,0),(6,0),(7,0),(10,0)]
 | 86,0 => some [(0,0),(1,0),(6,0),(7,0),(8,0),(9,0)]
 | 88,0 => some [(0,0),(6,0),(7,0)]
 | 89,0 => some [(0,0),(1,0),(2,0),(7,0),(8,0)]
 | 89,2 => some [(0,0),(1,0),(2,0),(7,0),(8,0)]
 | 89,4 => some [(0,0),(1,0),(2,0),(7,0),(8,0),(9,0)]
 | 89,6 => some [(0,0),(1,0),(2,0),(7,0),(8,0),(10,0)]
 | 90,0 => some [(0,0),(1,0),(9,0),(10,0)]
 | 90,2 => some [(0,0),(1,0),(9,0),(10,0)]
 | 90,4 => some [(0,0),(1,0),(9,0),(10,0)]
 | 91,0 => some [(0,0),(1,0),(10,0),(11,0)]
 | 91,2 => some [(0,0),(1,0),(10,0),(11,0)]
 | 91,4 => some [(0,0),(1,0),(10,0),(11,0)]
 | 91,6 => some [(0,0),(1,0),(10,0),(11,0)]
 | 91,8 => some [(0,0),(1,0),(10,0),(11,0)]
 | 96,0 => some [(7,0),(8,0)]
 | 100,0 => some [(0,0),(3,0)]
 | 100,2 => some [(0,0),(3,0),(4,0),(5,0)]
 | 103,0 => some [(0,0),(2,0),(3,0),(8,0)]
 | 108,0 => some [(0,0),(1,0),(2,0),(3,0),(8,0),(9,0)]
 | 111,0 => some [(0,0),(1,0),(2,0),(6,0)]
 | 111,2 => some [(0,0),(1,0),(2,0),(6,0),(7,0)]
 | 112,0 => some [(0,0),(6,0),(7,0),(8,0),(9,0)]
 | 112,2 => some [(0,0),(6,0),(7,0),(10,0)]
 | 113,0 => some [(0,0),(1,0),(6,0),(7,0),(8,0),(9,0)]
 | 115,0 => some [(0,0),(6,0),(7,0)]
 | 116,0 => some [(0,0),(1,0),(2,0),(7,0),(8,0)]
 | 116,2 => some [(0,0),(1,0),(2,0),(7,0),(8,0)]
 | 116,4 => some [(0,0),(1,0),(2,0),(7,0),(8,0),(9,0)]
 | 116,6 => some [(0,0),(1,0),(2,0),(7,0),(8,0),(10,0)]
 | 117,0 => some [(0,0),(1,0),(9,0),(10,0)]
 | 117,2 => some [(0,0),(1,0),(9,0),(10,0)]
 | 117,4 => some [(0,0),(1,0),(9,0),(10,0)]
 | 118,0 => some [(0,0),(1,0),(10,0),(11,0)]
 | 118,2 => some [(0,0),(1,0),(10,0),(11,0)]
 | 118,4 => some [(0,0),(1,0),(10,0),(11,0)]
 | 118,6 => some [(0,0),(1,0),(10,0),(11,0)]
 | 118,8 => some [(0,0),(1,0),(10,0),(11,0)]
 | 119,0 => some [(0,0),(2,0),(3,0),(8,0)]
 | _,_ => none
def G : Nat → Option (List D) := fun g => if [1000023,1000039,1000042,1000043,1000064,1000084,1000085,1000086,1000087,1000088,1000089,1000090,1000091,1000096,1000099,1000100,1000103,1000106,1000107,1000108,1000110,1000111,1000112,1000113,1000114,1000115,1000116,1000117,1000118,1000119,1000120,1000121,1000122,2000041,2000098,3000038].contains g then some [] else none
@[simp] theorem br_2 : byRef G 2 = false := by decide +kernel
@[simp] theorem th_2 : thaws G 2 = false := by decide +kernel
@[simp] theorem br_3 : byRef G 3 = false := by decide +kernel
theorem sp_3 : splits G 3 = false := by decide +kernel
@[simp] theorem th_3 : thaws G 3 = false := by decide +kernel
@[simp] theorem br_4 : byRef G 4 = false := by decide +kernel
theorem sp_4 : splits G 4 = false := by decide +kernel
@[simp] theorem th_4 : thaws G 4 = false := by decide +kernel
@[simp] theorem br_5 : byRef G 5 = false := by decide +kernel
theorem sp_5 : splits G 5 = false := by decide +kernel
@[simp] theorem th_5 : thaws G 5 = false := by decide +kernel
@[simp] theorem br_6 : byRef G 6 = false := by decide +kernel
theorem sp_6 : splits G 6 = false := by decide +kernel
@[simp] theorem th_6 : thaws G 6 = false := by decide +kernel
@[simp] theorem br_7 : byRef G 7 = false := by decide +kernel
theorem sp_7 : splits G 7 = false := by decide +kernel
@[simp] theorem th_7 : thaws G 7 = false := by decide +kernel
@[simp] theorem br_8 : byRef G 8 = false := by decide +kernel
theorem sp_8 : splits G 8 = false := by decide +kernel
@[simp] theorem th_8 : thaws G 8 = false := by decide +kernel
@[simp] theorem br_9 : byRef G 9 = false := by decide +kernel
theorem sp_9 : splits G 9 = false := by decide +kernel
@[simp] theorem th_9 : thaws G 9 = false := by decide +kernel
@[simp] theorem br_10 : byRef G 10 = false := by decide +kernel
theorem sp_10 : splits G 10 = false := by decide +kernel
@[simp] theorem th_10 : thaws G 10 = false := by decide +kernel
@[simp] theorem br_11 : byRef G 11 = false := by decide +kernel
theorem sp_11 : splits G 11 = false := by decide +kernel
@[simp] theorem th_11 : thaws G 11 = false := by decide +kernel
@[simp] theorem br_12 : byRef G 12 = false := by decide +kernel
theorem sp_12 : splits G 12 = false := by decide +kernel
@[simp] theorem th_12 : thaws G 12 = false := by decide +kernel
@[simp] theorem br_13 : byRef G 13 = false := by decide +kernel
theorem sp_13 : splits G 13 = false := by decide +kernel
@[simp] theorem th_13 : thaws G 13 = false := by decide +kernel
@[simp] theorem br_14 : byRef G 14 = false := by decide +kernel
theorem sp_14 : splits G 14 = false := by decide +kernel
@[simp] theorem th_14 : thaws G 14 = false := by decide +kernel
@[simp] theorem br_15 : byRef G 15 = false := by decide +kernel
theorem sp_15 : splits G 15 = false := by decide +kernel
@[simp] theorem th_15 : thaws G 15 = false := by decide +kernel
@[simp] theorem br_16 : byRef G 16 = false := by decide +kernel
theorem sp_16 : splits G 16 = false := by decide +kernel
@[simp] theorem th_16 : thaws G 16 = false := by decide +kernel
@[simp] theorem br_17 : byRef G 17 = false := by decide +kernel
theorem sp_17 : splits G 17 = false := by decide +kernel
@[simp] theorem th_17 : thaws G 17 = false := by decide +kernel
@[simp] theorem br_18 : byRef G 18 = false := by decide +kernel
theorem sp_18 : splits G 18 = false := by decide +kernel
@[simp] theorem th_18 : thaws G 18 = false := by decide +kernel
@[simp] theorem br_19 : byRef G 19 = false := by decide +kernel
theorem sp_19 : splits G 19 = false := by decide +kernel
@[simp] theorem th_19 : thaws G 19 = false := by decide +kernel
@[simp] theorem br_20 : byRef G 20 = false := by decide +kernel
theorem sp_20 : splits G 20 = false := by decide +kernel
@[simp] theorem th_20 : thaws G 20 = false := by decide +kernel
@[simp] theorem br_21 : byRef G 21 = false := by decide +kernel
theorem sp_21 : splits G 21 = false := by decide +kernel
@[simp] theorem th_21 : thaws G 21 = false := by decide +kernel
@[simp] theorem br_22 : byRef G 22 = false := by decide +kernel
theorem sp_22 : splits G 22 = false := by decide +kernel
@[simp] theorem th_22 : thaws G 22 = false := by decide +kernel
@[simp] theorem br_23 : byRef G 23 = true := by decide +kernel
theorem sp_23 : splits G 23 = false := by decide +kernel
@[simp] theorem th_23 : thaws G 23 = false := by decide +kernel
@[simp] theorem br_24 : byRef G 24 = false := by decide +kernel
theorem sp_24 : splits G 24 = false := by decide +kernel
@[simp] theorem th_24 : thaws G 24 = false := by decide +kernel
@[simp] theorem br_25 : byRef G 25 = false := by decide +kernel
theorem sp_25 : splits G 25 = false := by decide +kernel
@[simp] theorem th_25 : thaws G 25 = false := by decide +kernel
@[simp] theorem br_26 : byRef G 26 = false := by decide +kernel
theorem sp_26 : splits G 26 = false := by decide +kernel
@[simp] theorem th_26 : thaws G 26 = false := by decide +kernel
@[simp] theorem br_27 : byRef G 27 = false := by decide +kernel
theorem sp_27 : splits G 27 = false := by decide +kernel
@[simp] theorem th_27 : thaws G 27 = false := by decide +kernel
@[simp] theorem br_28 : byRef G 28 = false := by decide +kernel
theorem sp_28 : splits G 28 = false := by decide +kernel
@[simp] theorem th_28 : thaws G 28 = false := by decide +kernel
@[simp] theorem br_29 : byRef G 29 = false := by decide +kernel
theorem sp_29 : splits G 29 = false := by decide +kernel
@[simp] theorem th_29 : thaws G 29 = false := by decide +kernel
@[simp] theorem br_30 : byRef G 30 = false := by decide +kernel
theorem sp_30 : splits G 30 = false := by decide +kernel
@[simp] theorem th_30 : thaws G 30 = false := by decide +kernel
@[simp] theorem br_31 : byRef G 31 = false := by decide +kernel
theorem sp_31 : splits G 31 = false := by decide +kernel
@[simp] theorem th_31 : thaws G 31 = false := by decide +kernel
@[simp] theorem br_32 : byRef G 32 = false := by decide +kernel
theorem sp_32 : splits G 32 = false := by decide +kernel
@[simp] theorem th_32 : thaws G 32 = false := by decide +kernel
@[simp] theorem br_33 : byRef G 33 = false := by decide +kernel
theorem sp_33 : splits G 33 = false := by decide +kernel
@[simp] theorem th_33 : thaws G 33 = false := by decide +kernel
@[simp] theorem br_34 : byRef G 34 = false := by decide +kernel
theorem sp_34 : splits G 34 = false := by decide +kernel
@[simp] theorem th_34 : thaws G 34 = false := by decide +kernel
@[simp] theorem br_35 : byRef G 35 = false := by decide +kernel
theorem sp_35 : splits G 35 = false := by decide +kernel
@[simp] theorem th_35 : thaws G 35 = false := by decide +kernel
@[simp] theorem br_36 : byRef G 36 = false := by decide +kernel
theorem sp_36 : splits G 36 = false := by decide +kernel
@[simp] theorem th_36 : thaws G 36 = false := by decide +kernel
@[simp] theorem br_37 : byRef G 37 = false := by decide +kernel
theorem sp_37 : splits G 37 = false := by decide +kernel
@[simp] theorem th_37 : thaws G 37 = false := by decide +kernel
@[simp] theorem br_38 : byRef G 38 = false := by decide +kernel
theorem sp_38 : splits G 38 = false := by decide +kernel
@[simp] theorem th_38 : thaws G 38 = true := by decide +kernel
@[simp] theorem br_39 : byRef G 39 = true := by decide +kernel
theorem sp_39 : splits G 39 = false := by decide +kernel
@[simp] theorem th_39 : thaws G 39 = false := by decide +kernel
@[simp] theorem br_40 : byRef G 40 = false := by decide +kernel
theorem sp_40 : splits G 40 = false := by decide +kernel
@[simp] theorem th_40 : thaws G 40 = false := by decide +kernel
@[simp] theorem br_41 : byRef G 41 = false := by decide +kernel
theorem sp_41 : splits G 41 = true := by decide +kernel
@[simp] theorem th_41 : thaws G 41 = false := by decide +kernel
@[simp] theorem br_42 : byRef G 42 = true := by decide +kernel
theorem sp_42 : splits G 42 = false := by decide +kernel
@[simp] theorem th_42 : thaws G 42 = false := by decide +kernel
@[simp] theorem br_43 : byRef G 43 = true := by decide +kernel
theorem sp_43 : splits G 43 = false := by decide +kernel
@[simp] theorem th_43 : thaws G 43 = false := by decide +kernel
@[simp] theorem br_44 : byRef G 44 = false := by decide +kernel
theorem sp_44 : splits G 44 = false := by decide +kernel
@[simp] theorem th_44 : thaws G 44 = false := by decide +kernel
@[simp] theorem br_45 : byRef G 45 = false := by decide +kernel
theorem sp_45 : splits G 45 = false := by decide +kernel
@[simp] theorem th_45 : thaws G 45 = false := by decide +kernel
@[simp] theorem br_46 : byRef G 46 = false := by decide +kernel
theorem sp_46 : splits G 46 = false := by decide +kernel
@[simp] theorem th_46 : thaws G 46 = false := by decide +kernel
@[simp] theorem br_47 : byRef G 47 = false := by decide +kernel
theorem sp_47 : splits G 47 = false := by decide +kernel
@[simp] theorem th_47 : thaws G 47 = false := by decide +kernel
@[simp] theorem br_48 : byRef G 48 = false := by decide +kernel
theorem sp_48 : splits G 48 = false := by decide +kernel
@[simp] theorem th_48 : thaws G 48 = false := by decide +kernel
@[simp] theorem br_49 : byRef G 49 = false := by decide +kernel
theorem sp_49 : splits G 49 = false := by decide +kernel
@[simp] theorem th_49 : thaws G 49 = false := by decide +kernel
@[simp] theorem br_50 : byRef G 50 = false := by decide +kernel
theorem sp_50 : splits G 50 = false := by decide +kernel
@[simp] theorem th_50 : thaws G 50 = false := by decide +kernel
@[simp] theorem br_51 : byRef G 51 = false := by decide +kernel
theorem sp_51 : splits G 51 = false := by decide +kernel
@[simp] theorem th_51 : thaws G 51 = false := by decide +kernel
@[simp] theorem br_52 : byRef G 52 = false := by decide +kernel
theorem sp_52 : splits G 52 = false := by decide +kernel
@[simp] theorem th_52 : thaws G 52 = false := by decide +kernel
@[simp] theorem br_53 : byRef G 53 = false := by decide +kernel
theorem sp_53 : splits G 53 = false := by decide +kernel
@[simp] theorem th_53 : thaws G 53 = false := by decide +kernel
@[simp] theorem br_54 : byRef G 54 = false := by decide +kernel
theorem sp_54 : splits G 54 = false := by decide +kernel
@[simp] theorem th_54 : thaws G 54 = false := by decide +kernel
@[simp] theorem br_55 : byRef G 55 = false := by decide +kernel
theorem sp_55 : splits G 55 = false := by decide +kernel
@[simp] theorem th_55 : thaws G 55 = false := by decide +kernel
@[simp] theorem br_56 : byRef G 56 = false := by decide +kernel
theorem sp_56 : splits G 56 = false := by decide +kernel
@[simp] theorem th_56 : thaws G 56 = false := by decide +kernel
@[simp] theorem br_57 : byRef G 57 = false := by decide +kernel
theorem sp_57 : splits G 57 = false := by decide +kernel
@[simp] theorem th_57 : thaws G 57 = false := by decide +kernel
@[simp] theorem br_58 : byRef G 58 = false := by decide +kernel
theorem sp_58 : splits G 58 = false := by decide +kernel
@[simp] theorem th_58 : thaws G 58 = false := by decide +kernel
@[simp] theorem br_59 : byRef G 59 = false := by decide +kernel
theorem sp_59 : splits G 59 = false := by decide +kernel
@[simp] theorem th_59 : thaws G 59 = false := by decide +kernel
@[simp] theorem br_60 : byRef G 60 = false := by decide +kernel
theorem sp_60 : splits G 60 = false := by decide +kernel
@[simp] theorem th_60 : thaws G 60 = false := by decide +kernel
@[simp] theorem br_61 : byRef G 61 = false := by decide +kernel
theorem sp_61 : splits G 61 = false := by decide +kernel
@[simp] theorem th_61 : thaws G 61 = false := by decide +kernel
@[simp] theorem br_62 : byRef G 62 = false := by decide +kernel
theorem sp_62 : splits G 62 = false := by decide +kernel
@[simp] theorem th_62 : thaws G 62 = false := by decide +kernel
@[simp] theorem br_63 : byRef G 63 = false := by decide +kernel
theorem sp_63 : splits G 63 = false := by decide +kernel
@[simp] theorem th_63 : thaws G 63 = false := by decide +kernel
@[simp] theorem br_64 : byRef G 64 = true := by decide +kernel
theorem sp_64 : splits G 64 = false := by decide +kernel
@[simp] theorem th_64 : thaws G 64 = false := by decide +kernel
@[simp] theorem br_65 : byRef G 65 = false := by decide +kernel
theorem sp_65 : splits G 65 = false := by decide +kernel
@[simp] theorem th_65 : thaws G 65 = false := by decide +kernel
@[simp] theorem br_66 : byRef G 66 = false := by decide +kernel
theorem sp_66 : splits G 66 = false := by decide +kernel
@[simp] theorem th_66 : thaws G 66 = false := by decide +kernel
@[simp] theorem br_69 : byRef G 69 = false := by decide +kernel
theorem sp_69 : splits G 69 = false := by decide +kernel
@[simp] theorem th_69 : thaws G 69 = false := by decide +kernel
@[simp] theorem br_70 : byRef G 70 = false := by decide +kernel
theorem sp_70 : splits G 70 = false := by decide +kernel
@[simp] theorem th_70 : thaws G 70 = false := by decide +kernel
@[simp] theorem br_71 : byRef G 71 = false := by decide +kernel
theorem sp_71 : splits G 71 = false := by decide +kernel
@[simp] theorem th_71 : thaws G 71 = false := by decide +kernel
@[simp] theorem br_72 : byRef G 72 = false := by decide +kernel
theorem sp_72 : splits G 72 = false := by decide +kernel
@[simp] theorem th_72 : thaws G 72 = false := by decide +kernel
@[simp] theorem br_73 : byRef G 73 = false := by decide +kernel
theorem sp_73 : splits G 73 = false := by decide +kernel
@[simp] theorem th_73 : thaws G 73 = false := by decide +kernel
@[simp] theorem br_74 : byRef G 74 = false := by decide +kernel
theorem sp_74 : splits G 74 = false := by decide +kernel
@[simp] theorem th_74 : thaws G 74 = false := by decide +kernel
@[simp] theorem br_75 : byRef G 75 = false := by decide +kernel
theorem sp_75 : splits G 75 = false := by decide +kernel
@[simp] theorem th_75 : thaws G 75 = false := by decide +kernel
@[simp] theorem br_76 : byRef G 76 = false := by decide +kernel
theorem sp_76 : splits G 76 = false := by decide +kernel
@[simp] theorem th_76 : thaws G 76 = false := by decide +kernel
@[simp] theorem br_77 : byRef G 77 = false := by decide +kernel
theorem sp_77 : splits G 77 = false := by decide +kernel
@[simp] theorem th_77 : thaws G 77 = false := by decide +kernel
@[simp] theorem br_78 : byRef G 78 = false := by decide +kernel
theorem sp_78 : splits G 78 = false := by decide +kernel
@[simp] theorem th_78 : thaws G 78 = false := by decide +kernel
@[simp] theorem br_79 : byRef G 79 = false := by decide +kernel
theorem sp_79 : splits G 79 = false := by decide +kernel
@[simp] theorem th_79 : thaws G 79 = false := by decide +kernel
@[simp] theorem br_80 : byRef G 80 = false := by decide +kernel
theorem sp_80 : splits G 80 = false := by decide +kernel
@[simp] theorem th_80 : thaws G 80 = false := by decide +kernel
@[simp] theorem br_81 : byRef G 81 = false := by decide +kernel
theorem sp_81 : splits G 81 = false := by decide +kernel
@[simp] theorem th_81 : thaws G 81 = false := by decide +kernel
@[simp] theorem br_82 : byRef G 82 = false := by decide +kernel
theorem sp_82 : splits G 82 = false := by decide +kernel
@[simp] theorem th_82 : thaws G 82 = false := by decide +kernel
@[simp] theorem br_83 : byRef G 83 = false := by decide +kernel
theorem sp_83 : splits G 83 = false := by decide +kernel
@[simp] theorem th_83 : thaws G 83 = false := by decide +kernel
@[simp] theorem br_84 : byRef G 84 = true := by decide +kernel
theorem sp_84 : splits G 84 = false := by decide +kernel
@[simp] theorem th_84 : thaws G 84 = false := by decide +kernel
@[simp] theorem br_85 : byRef G 85 = true := by decide +kernel
theorem sp_85 : splits G 85 = false := by decide +kernel
@[simp] theorem th_85 : thaws G 85 = false := by decide +kernel
@[simp] theorem br_86 : byRef G 86 = true := by decide +kernel
theorem sp_86 : splits G 86 = false := by decide +kernel
@[simp] theorem th_86 : thaws G 86 = false := by decide +kernel
@[simp] theorem br_87 : byRef G 87 = true := by decide +kernel
theorem sp_87 : splits G 87 = false := by decide +kernel
@[simp] theorem th_87 : thaws G 87 = false := by decide +kernel
@[simp] theorem br_88 : byRef G 88 = true := by decide +kernel
theorem sp_88 : splits G 88 = false := by decide +kernel
@[simp] theorem th_88 : thaws G 88 = false := by decide +kernel
@[simp] theorem br_89 : byRef G 89 = true := by decide +kernel
theorem sp_89 : splits G 89 = false := by decide +kernel
@[simp] theorem th_89 : thaws G 89 = false := by decide +kernel
@[simp] theorem br_90 : byRef G 90 = true := by decide +kernel
theorem sp_90 : splits G 90 = false := by decide +kernel
@[simp] theorem th_90 : thaws G 90 = false := by decide +kernel
@[simp] theorem br_91 : byRef G 91 = true := by decide +kernel
theorem sp_91 : splits G 91 = false := by decide +kernel
@[simp] theorem th_91 : thaws G 91 = false := by decide +kernel
@[simp] theorem br_93 : byRef G 93 = false := by decide +kernel
theorem sp_93 : splits G 93 = false := by decide +kernel
@[simp] theorem th_93 : thaws G 93 = false := by decide +kernel
@[simp] theorem br_94 : byRef G 94 = false := by decide +kernel
theorem sp_94 : splits G 94 = false := by decide +kernel
@[simp] theorem th_94 : thaws G 94 = false := by decide +kernel
@[simp] theorem br_95 : byRef G 95 = false := by decide +kernel
theorem sp_95 : splits G 95 = false := by decide +kernel
@[simp] theorem th_95 : thaws G 95 = false := by decide +kernel
@[simp] theorem br_96 : byRef G 96 = true := by decide +kernel
theorem sp_96 : splits G 96 = false := by decide +kernel
@[simp] theorem th_96 : thaws G 96 = false := by decide +kernel
@[simp] theorem br_97 : byRef G 97 = false := by decide +kernel
theorem sp_97 : splits G 97 = false := by decide +kernel
@[simp] theorem th_97 : thaws G 97 = false := by decide +kernel
@[simp] theorem br_98 : byRef G 98 = false := by decide +kernel
theorem sp_98 : splits G 98 = true := by decide +kernel
@[simp] theorem th_98 : thaws G 98 = false := by decide +kernel
@[simp] theorem br_99 : byRef G 99 = true := by decide +kernel
theorem sp_99 : splits G 99 = false := by decide +kernel
@[simp] theorem th_99 : thaws G 99 = false := by decide +kernel
@[simp] theorem br_100 : byRef G 100 = true := by decide +kernel
theorem sp_100 : splits G 100 = false := by decide +kernel
@[simp] theorem th_100 : thaws G 100 = false := by decide +kernel
@[simp] theorem br_101 : byRef G 101 = false := by decide +kernel
theorem sp_101 : splits G 101 = false := by decide +kernel
@[simp] theorem th_101 : thaws G 101 = false := by decide +kernel
@[simp] theorem br_103 : byRef G 103 = true := by decide +kernel
theorem sp_103 : splits G 103 = false := by decide +kernel
@[simp] theorem th_103 : thaws G 103 = false := by decide +kernel
@[simp] theorem br_104 : byRef G 104 = false := by decide +kernel
theorem sp_104 : splits G 104 = false := by decide +kernel
@[simp] theorem th_104 : thaws G 104 = false := by decide +kernel
@[simp] theorem br_105 : byRef G 105 = false := by decide +kernel
theorem sp_105 : splits G 105 = false := by decide +kernel
@[simp] theorem th_105 : thaws G 105 = false := by decide +kernel
@[simp] theorem br_106 : byRef G 106 = true := by decide +kernel
theorem sp_106 : splits G 106 = false := by decide +kernel
@[simp] theorem th_106 : thaws G 106 = false := by decide +kernel
@[simp] theorem br_107 : byRef G 107 = true := by decide +kernel
theorem sp_107 : splits G 107 = false := by decide +kernel
@[simp] theorem th_107 : thaws G 107 = false := by decide +kernel
@[simp] theorem br_108 : byRef G 108 = true := by decide +kernel
theorem sp_108 : splits G 108 = false := by decide +kernel
@[simp] theorem th_108 : thaws G 108 = false := by decide +kernel
@[simp] theorem br_109 : byRef G 109 = false := by decide +kernel
theorem sp_109 : splits G 109 = false := by decide +kernel
@[simp] theorem th_109 : thaws G 109 = false := by decide +kernel
@[simp] theorem br_110 : byRef G 110 = true := by decide +kernel
theorem sp_110 : splits G 110 = false := by decide +kernel
@[simp] theorem th_110 : thaws G 110 = false := by decide +kernel
@[simp] theorem br_111 : byRef G 111 = true := by decide +kernel
theorem sp_111 : splits G 111 = false := by decide +kernel
@[simp] theorem th_111 : thaws G 111 = false := by decide +kernel
@[simp] theorem br_112 : byRef G 112 = true := by decide +kernel
theorem sp_112 : splits G 112 = false := by decide +kernel
@[simp] theorem th_112 : thaws G 112 = false := by decide +kernel
@[simp] theorem br_113 : byRef G 113 = true := by decide +kernel
theorem sp_113 : splits G 113 = false := by decide +kernel
@[simp] theorem th_113 : thaws G 113 = false := by decide +kernel
@[simp] theorem br_114 : byRef G 114 = true := by decide +kernel
theorem sp_114 : splits G 114 = false := by decide +kernel
@[simp] theorem th_114 : thaws G 114 = false := by decide +kernel
@[simp] theorem br_115 : byRef G 115 = true := by decide +kernel
theorem sp_115 : splits G 115 = false := by decide +kernel
@[simp] theorem th_115 : thaws G 115 = false := by decide +kernel
@[simp] theorem br_116 : byRef G 116 = true := by decide +kernel
theorem sp_116 : splits G 116 = false := by decide +kernel
@[simp] theorem th_116 : thaws G 116 = false := by decide +kernel
@[simp] theorem br_117 : byRef G 117 = true := by decide +kernel
theorem sp_117 : splits G 117 = false := by decide +kernel
@[simp] theorem th_117 : thaws G 117 = false := by decide +kernel
@[simp] theorem br_118 : byRef G 118 = true := by decide +kernel
theorem sp_118 : splits G 118 = false := by decide +kernel
@[simp] theorem th_118 : thaws G 118 = false := by decide +kernel
@[simp] theorem br_119 : byRef G 119 = true := by decide +kernel
theorem sp_119 : splits G 119 = false := by decide +kernel
@[simp] theorem th_119 : thaws G 119 = false := by decide +kernel
@[simp] theorem br_120 : byRef G 120 = true := by decide +kernel
theorem sp_120 : splits G 120 = false := by decide +kernel
@[simp] theorem th_120 : thaws G 120 = false := by decide +kernel
@[simp] theorem br_121 : byRef G 121 = true := by decide +kernel
theorem sp_121 : splits G 121 = false := by decide +kernel
@[simp] theorem th_121 : thaws G 121 = false := by decide +kernel
@[simp] theorem br_122 : byRef G 122 = true := by decide +kernel
theorem sp_122 : splits G 122 = false := by decide +kernel
@[simp] theorem th_122 : thaws G 122 = false := by decide +kernel
def Hn : Hints := fun f r => match f,r with
 | 12,31 => [6]
 | 28,15 => [6,7]
 | 70,4 => [8]
 | 95,4 => [8]
 | _,_ => []
@[simp] theorem K_6_0 : K 6 0 = some [(0,0),(1,0),(2,0),(8,1),(9,0)] := rfl
@[simp] theorem K_6_2 : K 6 2 = some [(0,0),(1,0),(2,0),(8,1),(10,0),(13,0),(14,0)] := rfl
@[simp] theorem K_6_5 : K 6 5 = some [(0,0),(1,0),(2,0),(8,1),(15,3),(22,0),(24,0)] := rfl
@[simp] theorem K_6_7 : K 6 7 = some [(0,0),(1,0),(2,0),(8,1),(15,3),(16,0),(18,0)] := rfl
@[simp] theorem K_6_9 : K 6 9 = some [(0,0),(1,0),(2,0),(8,1),(15,3),(19,0),(21,0)] := rfl
@[simp] theorem K_6_11 : K 6 11 = some [(0,0),(1,0),(2,0),(8,1),(15,3),(25,3),(26,0),(27,0)] := rfl
@[simp] theorem K_7_0 : K 7 0 = some [(0,0),(1,0),(5,0)] := rfl
@[simp] theorem K_8_0 : K 8 0 = some [(0,0),(3,3),(4,0)] := rfl
@[simp] theorem K_9_0 : K 9 0 = some [(0,0),(1,0),(26,0),(27,0),(28,0)] := rfl
@[simp] theorem K_9_2 : K 9 2 = some [(0,0),(8,0),(9,1),(10,1),(11,1),(47,0),(48,0),(49,0)] := rfl
@[simp] theorem K_12_0 : K 12 0 = some [(0,0),(1,0),(2,0),(9,0),(12,0),(56,0),(57,0),(58,0)] := rfl
@[simp] theorem K_12_2 : K 12 2 = some [(1000015,0),(17,0),(79,0),(80,0),(81,0)] := rfl
@[simp] theorem K_13_0 : K 13 0 = some [(0,0),(1,0),(12,0),(13,0)] := rfl
@[simp] theorem K_14_0 : K 14 0 = some [(0,0),(1,0),(2,0),(8,1),(9,0)] := rfl
@[simp] theorem K_14_2 : K 14 2 = some [(0,0),(1,0),(2,0),(8,1),(9,0),(10,0),(11,0)] := rfl
@[simp] theorem K_14_4 : K 14 4 = some [(0,0),(8,1),(13,0)] := rfl
@[simp] theorem K_16_0 : K 16 0 = some [(13,0),(14,0),(15,0),(16,1),(17,0)] := rfl
@[simp] theorem K_17_0 : K 17 0 = some [(0,0),(1,0),(6,0)] := rfl
@[simp] theorem K_17_2 : K 17 2 = some [(0,0),(1,0),(8,1),(9,1),(10,1),(11,1),(12,0),(13,0)] := rfl
@[simp] theorem K_17_4 : K 17 4 = some [(11,1),(15,0),(18,0),(19,1),(20,0)] := rfl
@[simp] theorem K_17_6 : K 17 6 = some [(11,1),(15,0),(18,0),(19,1),(20,0),(21,0)] := rfl
@[simp] theorem K_20_0 : K 20 0 = some [(3,0),(11,0),(12,0),(13,0)] := rfl
@[simp] theorem K_21_0 : K 21 0 = some [(0,0),(4,1),(11,0)] := rfl
@[simp] theorem K_22_0 : K 22 0 = some [(0,0),(3,0),(4,0),(5,1),(20,0),(21,0),(22,0)] := rfl
@[simp] theorem K_23_0 : K 23 0 = some [(7,0),(8,0)] := rfl
@[simp] theorem K_24_0 : K 24 0 = some [(0,0),(2,0),(9,0),(56,0),(57,0)] := rfl
@[simp] theorem K_24_2 : K 24 2 = some [(0,0),(2,0),(9,0),(10,0),(11,0),(56,0),(57,0)] := rfl
@[simp] theorem K_25_1 : K 25 1 = some [(8,1),(10,0),(30,0),(31,0),(32,0)] := rfl
@[simp] theorem K_25_3 : K 25 3 = some [(8,1),(14,0),(52,0),(53,0),(54,0)] := rfl
@[simp] theorem K_25_5 : K 25 5 = some [(8,1),(18,0),(73,0),(74,0),(75,0)] := rfl
@[simp] theorem K_26_1 : K 26 1 = some [(7,1),(21,0),(23,0),(24,0)] := rfl
@[simp] theorem K_26_3 : K 26 3 = some [(0,0),(2,0),(7,1),(8,0)] := rfl
@[simp] theorem K_26_5 : K 26 5 = some [(0,0),(2,0),(7,1),(9,0),(10,0)] := rfl
@[simp] theorem K_26_7 : K 26 7 = some [(0,0),(2,0),(7,1)] := rfl
@[simp] theorem K_26_9 : K 26 9 = some [(0,0),(2,0),(7,1),(11,0),(12,0),(13,0)] := rfl
@[simp] theorem K_26_11 : K 26 11 = some [(0,0),(2,0),(7,1),(14,0),(15,1),(16,0)] := rfl
@[simp] theorem K_26_13 : K 26 13 = some [(0,0),(7,1),(14,0),(15,1),(19,0),(20,0)] := rfl
@[simp] theorem K_27_1 : K 27 1 = some [(1,0),(6,1),(7,0)] := rfl
@[simp] theorem K_27_3 : K 27 3 = some [(1,0),(6,1),(8,0)] := rfl
@[simp] theorem K_27_5 : K 27 5 = some [(1,0),(6,1),(9,0),(10,0)] := rfl
@[simp] theorem K_27_7 : K 27 7 = some [(1,0),(6,1),(11,0),(12,1),(13,0)] := rfl
@[simp] theorem K_27_9 : K 27 9 = some [(1,0),(6,1),(11,0),(12,1),(14,0)] := rfl
@[simp] theorem K_27_11 : K 27 11 = some [(1,0),(17,0),(18,1),(19,0)] := rfl
@[simp] theorem K_28_0 : K 28 0 = some [(0,0),(5,0)] := rfl
@[simp] theorem K_28_2 : K 28 2 = some [(0,0),(5,0),(6,0),(7,0)] := rfl
@[simp] theorem K_30_0 : K 30 0 = some [(0,0),(1,0),(7,1),(8,0)] := rfl
@[simp] theorem K_32_0 : K 32 0 = some [(0,0),(4,1),(5,0)] := rfl
@[simp] theorem K_33_0 : K 33 0 = some [(0,0),(3,1),(4,0)] := rfl
@[simp] theorem K_33_2 : K 33 2 = some [(0,0),(3,1),(4,0),(5,1),(6,0),(7,0)] := rfl
@[simp] theorem K_34_0 : K 34 0 = some [(0,0),(3,1),(4,1),(5,0)] := rfl
@[simp] theorem K_36_0 : K 36 0 = some [(0,0),(1,0),(7,0),(8,0)] := rfl
@[simp] theorem K_37_0 : K 37 0 = some [(1,0),(6,0),(36,0),(37,0),(38,0)] := rfl
@[simp] theorem K_37_2 : K 37 2 = some [(1,0),(6,0),(7,0),(8,0),(9,0),(36,0),(37,0),(38,0)] := rfl
@[simp] theorem K_39_0 : K 39 0 = some [(0,0),(5,1),(6,1),(9,0),(10,0),(11,0)] := rfl
@[simp] theorem K_43_0 : K 43 0 = some [(0,0),(3,0)] := rfl
@[simp] theorem K_43_2 : K 43 2 = some [(0,0),(3,0),(4,0),(5,0)] := rfl
@[simp] theorem K_44_0 : K 44 0 = some [(0,0),(1,0),(6,0),(7,0),(8,0)] := rfl
@[simp] theorem K_45_0 : K 45 0 = some [(0,0),(3,1)] := rfl
@[simp] theorem K_47_2 : K 47 2 = some [(0,0),(1,0),(6,0),(7,1),(8,0)] := rfl
@[simp] theorem K_48_0 : K 48 0 = some [(12,0),(15,1),(85,0),(86,0),(87,0)] := rfl
@[simp] theorem K_52_0 : K 52 0 = some [(0,0),(3,0),(4,0)] := rfl
@[simp] theorem K_52_2 : K 52 2 = some [(0,0),(3,0),(4,0)] := rfl
@[simp] theorem K_54_0 : K 54 0 = some [(0,0),(3,1),(4,0)] := rfl
@[simp] theorem K_54_2 : K 54 2 = some [(0,0),(3,1),(4,0),(5,1),(6,0),(7,0)] := rfl
@[simp] theorem K_55_0 : K 55 0 = some [(0,0),(1,0),(5,0)] := rfl
@[simp] theorem K_56_0 : K 56 0 = some [(0,0),(1,0),(6,1),(7,0),(8,0)] := rfl
@[simp] theorem K_56_2 : K 56 2 = some [(0,0),(1,0),(6,1),(7,0),(8,0),(9,0)] := rfl
@[simp] theorem K_58_0 : K 58 0 = some [(3,0),(6,0),(7,0),(8,0)] := rfl
@[simp] theorem K_59_0 : K 59 0 = some [(3,1),(6,0),(7,0),(8,0)] := rfl
@[simp] theorem K_60_0 : K 60 0 = some [(3,1),(4,0),(7,0),(8,0),(9,0)] := rfl
@[simp] theorem K_61_0 : K 61 0 = some [(0,0),(3,1),(4,0)] := rfl
@[simp] theorem K_61_2 : K 61 2 = some [(0,0),(3,1),(4,0),(5,0)] := rfl
@[simp] theorem K_62_0 : K 62 0 = some [(0,0),(3,0),(4,0),(18,0),(19,0),(20,0)] := rfl
@[simp] theorem K_62_2 : K 62 2 = some [(3,0),(4,0),(7,0),(47,0),(48,0),(49,0)] := rfl
@[simp] theorem K_63_0 : K 63 0 = some [(3,0),(4,0),(16,0),(17,0),(18,0)] := rfl
@[simp] theorem K_64_0 : K 64 0 = some [(0,0),(1,0),(2,0),(3,0),(8,0),(9,0)] := rfl
@[simp] theorem K_71_0 : K 71 0 = some [(0,0),(1,0),(5,1)] := rfl
@[simp] theorem K_72_0 : K 72 0 = some [(0,0),(1,0),(5,0),(6,1)] := rfl
@[simp] theorem K_72_2 : K 72 2 = some [(0,0),(5,0),(6,1),(9,1),(104,0),(105,0),(106,0)] := rfl
@[simp] theorem K_73_0 : K 73 0 = some [(5,0),(7,1),(36,0),(37,0),(38,0)] := rfl
@[simp] theorem K_75_0 : K 75 0 = some [(0,0),(11,1),(45,0),(46,0),(47,0)] := rfl
@[simp] theorem K_76_0 : K 76 0 = some [(5,0),(8,0),(9,0),(10,0)] := rfl
@[simp] theorem K_81_0 : K 81 0 = some [(0,0),(1,0),(6,0),(7,0),(8,0)] := rfl
@[simp] theorem K_83_0 : K 83 0 = some [(0,0),(3,0),(4,0)] := rfl
@[simp] theorem K_84_0 : K 84 0 = some [(0,0),(1,0),(2,0),(6,0)] := rfl
@[simp] theorem K_84_2 : K 84 2 = some [(0,0),(1,0),(2,0),(6,0),(7,0)] := rfl
@[simp] theorem K_85_0 : K 85 0 = some [(0,0),(6,0),(7,0),(8,0),(9,0)] := rfl
@[simp] theorem K_85_2 : K 85 2 = some [(0,0),(6,0),(7,0),(10,0)] := rfl
@[simp] theorem K_86_0 : K 86 0 = some [(0,0),(1,0),(6,0),(7,0),(8,0),(9,0)] := rfl
@[simp] theorem K_88_0 : K 88 0 = some [(0,0),(6,0),(7,0)] := rfl
@[simp] theorem K_89_0 : K 89 0 = some [(0,0),(1,0),(2,0),(7,0),(8,0)] := rfl
@[simp] theorem K_89_2 : K 89 2 = some [(0,0),(1,0),(2,0),(7,0),(8,0)] := rfl
@[simp] theorem K_89_4 : K 89 4 = some [(0,0),(1,0),(2,0),(7,0),(8,0),(9,0)] := rfl
@[simp] theorem K_89_6 : K 89 6 = some [(0,0),(1,0),(2,0),(7,0),(8,0),(10,0)] := rfl
@[simp] theorem K_90_0 : K 90 0 = some [(0,0),(1,0),(9,0),(10,0)] := rfl
@[simp] theorem K_90_2 : K 90 2 = some [(0,0),(1,0),(9,0),(10,0)] := rfl
@[simp] theorem K_90_4 : K 90 4 = some [(0,0),(1,0),(9,0),(10,0)] := rfl
@[simp] theorem K_91_0 : K 91 0 = some [(0,0),(1,0),(10,0),(11,0)] := rfl
@[simp] theorem K_91_2 : K 91 2 = some [(0,0),(1,0),(10,0),(11,0)] := rfl
@[simp] theorem K_91_4 : K 91 4 = some [(0,0),(1,0),(10,0),(11,0)] := rfl
@[simp] theorem K_91_6 : K 91 6 = some [(0,0),(1,0),(10,0),(11,0)] := rfl
@[simp] theorem K_91_8 : K 91 8 = some [(0,0),(1,0),(10,0),(11,0)] := rfl
@[simp] theorem K_96_0 : K 96 0 = some [(7,0),(8,0)] := rfl
@[simp] theorem K_100_0 : K 100 0 = some [(0,0),(3,0)] := rfl
@[simp] theorem K_100_2 : K 100 2 = some [(0,0),(3,0),(4,0),(5,0)] := rfl
@[simp] theorem K_103_0 : K 103 0 = some [(0,0),(2,0),(3,0),(8,0)] := rfl
@[simp] theorem K_108_0 : K 108 0 = some [(0,0),(1,0),(2,0),(3,0),(8,0),(9,0)] := rfl
@[simp] theorem K_111_0 : K 111 0 = some [(0,0),(1,0),(2,0),(6,0)] := rfl
@[simp] theorem K_111_2 : K 111 2 = some [(0,0),(1,0),(2,0),(6,0),(7,0)] := rfl
@[simp] theorem K_112_0 : K 112 0 = some [(0,0),(6,0),(7,0),(8,0),(9,0)] := rfl
@[simp] theorem K_112_2 : K 112 2 = some [(0,0),(6,0),(7,0),(10,0)] := rfl
@[simp] theorem K_113_0 : K 113 0 = some [(0,0),(1,0),(6,0),(7,0),(8,0),(9,0)] := rfl
@[simp] theorem K_115_0 : K 115 0 = some [(0,0),(6,0),(7,0)] := rfl
@[simp] theorem K_116_0 : K 116 0 = some [(0,0),(1,0),(2,0),(7,0),(8,0)] := rfl
@[simp] theorem K_116_2 : K 116 2 = some [(0,0),(1,0),(2,0),(7,0),(8,0)] := rfl
@[simp] theorem K_116_4 : K 116 4 = some [(0,0),(1,0),(2,0),(7,0),(8,0),(9,0)] := rfl
@[simp] theorem K_116_6 : K 116 6 = some [(0,0),(1,0),(2,0),(7,0),(8,0),(10,0)] := rfl
@[simp] theorem K_117_0 : K 117 0 = some [(0,0),(1,0),(9,0),(10,0)] := rfl
@[simp] theorem K_117_2 : K 117 2 = some [(0,0),(1,0),(9,0),(10,0)] := rfl
@[simp] theorem K_117_4 : K 117 4 = some [(0,0),(1,0),(9,0),(10,0)] := rfl
@[simp] theorem K_118_0 : K 118 0 = some [(0,0),(1,0),(10,0),(11,0)] := rfl
@[simp] theorem K_118_2 : K 118 2 = some [(0,0),(1,0),(10,0),(11,0)] := rfl
@[simp] theorem K_118_4 : K 118 4 = some [(0,0),(1,0),(10,0),(11,0)] := rfl
@[simp] theorem K_118_6 : K 118 6 = some [(0,0),(1,0),(10,0),(11,0)] := rfl
@[simp] theorem K_118_8 : K 118 8 = some [(0,0),(1,0),(10,0),(11,0)] := rfl
@[simp] theorem K_119_0 : K 119 0 = some [(0,0),(2,0),(3,0),(8,0)] := rfl
@[simp] theorem Hn_6_57 : Hn 6 57 = [] := rfl
@[simp] theorem Hn_7_6 : Hn 7 6 = [] := rfl
@[simp] theorem Hn_12_31 : Hn 12 31 = [6] := rfl
@[simp] theorem Hn_13_6 : Hn 13 6 = [] := rfl
@[simp] theorem Hn_15_13 : Hn 15 13 = [] := rfl
@[simp] theorem Hn_15_16 : Hn 15 16 = [] := rfl
@[simp] theorem Hn_17_42 : Hn 17 42 = [] := rfl
@[simp] theorem Hn_23_9 : Hn 23 9 = [] := rfl
@[simp] theorem Hn_24_16 : Hn 24 16 = [] := rfl
@[simp] theorem Hn_27_16 : Hn 27 16 = [] := rfl
@[simp] theorem Hn_27_23 : Hn 27 23 = [] := rfl
@[simp] theorem Hn_27_36 : Hn 27 36 = [] := rfl
@[simp] theorem Hn_28_15 : Hn 28 15 = [6,7] := rfl
@[simp] theorem Hn_29_5 : Hn 29 5 = [] := rfl
@[simp] theorem Hn_33_10 : Hn 33 10 = [] := rfl
@[simp] theorem Hn_33_12 : Hn 33 12 = [] := rfl
@[simp] theorem Hn_37_11 : Hn 37 11 = [] := rfl
@[simp] theorem Hn_43_6 : Hn 43 6 = [] := rfl
@[simp] theorem Hn_43_11 : Hn 43 11 = [] := rfl
@[simp] theorem Hn_47_29 : Hn 47 29 = [] := rfl
@[simp] theorem Hn_54_10 : Hn 54 10 = [] := rfl
@[simp] theorem Hn_54_12 : Hn 54 12 = [] := rfl
@[simp] theorem Hn_61_5 : Hn 61 5 = [] := rfl
@[simp] theorem Hn_64_17 : Hn 64 17 = [] := rfl
@[simp] theorem Hn_70_4 : Hn 70 4 = [8] := rfl
@[simp] theorem Hn_84_4 : Hn 84 4 = [] := rfl
@[simp] theorem Hn_84_6 : Hn 84 6 = [] := rfl
@[simp] theorem Hn_85_10 : Hn 85 10 = [] := rfl
@[simp] theorem Hn_86_10 : Hn 86 10 = [] := rfl
@[simp] theorem Hn_88_3 : Hn 88 3 = [] := rfl
@[simp] theorem Hn_89_5 : Hn 89 5 = [] := rfl
@[simp] theorem Hn_89_11 : Hn 89 11 = [] := rfl
@[simp] theorem Hn_89_16 : Hn 89 16 = [] := rfl
@[simp] theorem Hn_89_17 : Hn 89 17 = [] := rfl
@[simp] theorem Hn_89_22 : Hn 89 22 = [] := rfl
@[simp] theorem Hn_89_23 : Hn 89 23 = [] := rfl
@[simp] theorem Hn_90_1 : Hn 90 1 = [] := rfl
@[simp] theorem Hn_90_3 : Hn 90 3 = [] := rfl
@[simp] theorem Hn_90_5 : Hn 90 5 = [] := rfl
@[simp] theorem Hn_90_8 : Hn 90 8 = [] := rfl
@[simp] theorem Hn_91_1 : Hn 91 1 = [] := rfl
@[simp] theorem Hn_91_3 : Hn 91 3 = [] := rfl
@[simp] theorem Hn_91_5 : Hn 91 5 = [] := rfl
@[simp] theorem Hn_91_8 : Hn 91 8 = [] := rfl
@[simp] theorem Hn_91_10 : Hn 91 10 = [] := rfl
@[simp] theorem Hn_91_13 : Hn 91 13 = [] := rfl
@[simp] theorem Hn_91_15 : Hn 91 15 = [] := rfl
@[simp] theorem Hn_91_18 : Hn 91 18 = [] := rfl
@[simp] theorem Hn_91_21 : Hn 91 21 = [] := rfl
@[simp] theorem Hn_95_4 : Hn 95 4 = [8] := rfl
@[simp] theorem Hn_96_9 : Hn 96 9 = [] := rfl
@[simp] theorem Hn_100_6 : Hn 100 6 = [] := rfl
@[simp] theorem Hn_100_11 : Hn 100 11 = [] := rfl
@[simp] theorem Hn_103_3 : Hn 103 3 = [] := rfl
@[simp] theorem Hn_103_5 : Hn 103 5 = [] := rfl
@[simp] theorem Hn_103_6 : Hn 103 6 = [] := rfl
@[simp] theorem Hn_105_1 : Hn 105 1 = [] := rfl
@[simp] theorem Hn_105_2 : Hn 105 2 = [] := rfl
@[simp] theorem Hn_105_3 : Hn 105 3 = [] := rfl
@[simp] theorem Hn_108_17 : Hn 108 17 = [] := rfl
@[simp] theorem Hn_110_1 : Hn 110 1 = [] := rfl
@[simp] theorem Hn_111_4 : Hn 111 4 = [] := rfl
@[simp] theorem Hn_111_6 : Hn 111 6 = [] := rfl
@[simp] theorem Hn_112_10 : Hn 112 10 = [] := rfl
@[simp] theorem Hn_113_10 : Hn 113 10 = [] := rfl
@[simp] theorem Hn_115_3 : Hn 115 3 = [] := rfl
@[simp] theorem Hn_116_5 : Hn 116 5 = [] := rfl
@[simp] theorem Hn_116_11 : Hn 116 11 = [] := rfl
@[simp] theorem Hn_116_16 : Hn 116 16 = [] := rfl
@[simp] theorem Hn_116_17 : Hn 116 17 = [] := rfl
@[simp] theorem Hn_116_22 : Hn 116 22 = [] := rfl
@[simp] theorem Hn_116_23 : Hn 116 23 = [] := rfl
@[simp] theorem Hn_117_1 : Hn 117 1 = [] := rfl
@[simp] theorem Hn_117_3 : Hn 117 3 = [] := rfl
@[simp] theorem Hn_117_5 : Hn 117 5 = [] := rfl
@[simp] theorem Hn_117_8 : Hn 117 8 = [] := rfl
@[simp] theorem Hn_118_1 : Hn 118 1 = [] := rfl
@[simp] theorem Hn_118_3 : Hn 118 3 = [] := rfl
@[simp] theorem Hn_118_5 : Hn 118 5 = [] := rfl
@[simp] theorem Hn_118_8 : Hn 118 8 = [] := rfl
@[simp] theorem Hn_118_10 : Hn 118 10 = [] := rfl
@[simp] theorem Hn_118_13 : Hn 118 13 = [] := rfl
@[simp] theorem Hn_118_15 : Hn 118 15 = [] := rfl
@[simp] theorem Hn_118_18 : Hn 118 18 = [] := rfl
@[simp] theorem Hn_118_21 : Hn 118 21 = [] := rfl
@[simp] theorem Hn_119_3 : Hn 119 3 = [] := rfl
@[simp] theorem Hn_119_5 : Hn 119 5 = [] := rfl
@[simp] theorem Hn_119_6 : Hn 119 6 = [] := rfl
@[simp] theorem Hn_122_1 : Hn 122 1 = [] := rfl
noncomputable abbrev R : Run := Runs Tryz.prog G K Hn
end Go.Am.Ab
namespace Go.Am.Ab
structure Fld where
 id : Int
 name : ByteArray
 kind : Int
 need : Bool
structure Sch where
 id : Int
 fields : List Fld
structure Snap where
 id : Int
 parent : Int
 seq : Int
 offset : Int
 time : Int
 schema : Int
 mans : List ByteArray
structure Tab where
 schemas : List Sch
 snaps : List Snap
 current : Int
structure Pol where
 keep : Int
 age : Int
abbrev u64 (n : Int) : D := .int .u64 n
abbrev i64 (n : Int) : D := .int .i64 n
def Fld.d (f : Fld) : D := .agg [.int .u32 f.id,.str f.name,.int .u8 f.kind,.bool f.need]
def Sch.d (s : Sch) : D := .agg [.int .u32 s.id,.list (s.fields.map Fld.d)]
def Snap.d (s : Snap) : D := .agg [.int .u64 s.id,.int .u64 s.parent,.int .u64 s.seq,.int .u64 s.offset,.int .u64 s.time,.int .u32 s.schema,.list (s.mans.map .str)]
def Tab.d (t : Tab) : D := .agg [.list (t.schemas.map Sch.d),.list (t.snaps.map Snap.d),.int .u64 t.current]
def Pol.d (p : Pol) : D := .agg [.int .i64 p.keep,.int .u64 p.age]
attribute [simp] Fld.d Sch.d Snap.d Tab.d Pol.d
end Go.Am.Ab
namespace Go.Am
theorem bits_u8 : IntKind.bits .u8 = 8 := rfl
theorem bits_u32 : IntKind.bits .u32 = 32 := rfl
theorem bits_u64 : IntKind.bits .u64 = 64 := rfl
theorem bits_i64 : IntKind.bits .i64 = 64 := rfl
theorem wrap_mod_u8 (x : Int) : IntKind.u8.wrap x = x % 256 := by simp [IntKind.wrap,IntKind.signed,IntKind.bits]
theorem wrap_mod_u32 (x : Int) : IntKind.u32.wrap x = x % 4294967296 := by simp [IntKind.wrap,IntKind.signed,IntKind.bits]
theorem wrap_mod_u64 (x : Int) : IntKind.u64.wrap x = x % 18446744073709551616 := by simp [IntKind.wrap,IntKind.signed,IntKind.bits]
theorem wrap_mod_i64 (x : Int) : IntKind.i64.wrap x = if x % 18446744073709551616 ≥ 9223372036854775808 then x % 18446744073709551616 - 18446744073709551616 else x % 18446744073709551616 := by
 simp [IntKind.wrap,IntKind.signed,IntKind.bits]
theorem ofInt_nat (n : Nat) (w : Nat) : (BitVec.ofInt w (n : Int)).toNat = n % 2 ^ w := by
 rw [BitVec.toNat_ofInt]
 have : (n : Int) % ((2 ^ w : Nat) : Int) = ((n % 2 ^ w : Nat) : Int) := by rw [Int.natCast_emod]
 rw [this,Int.toNat_natCast]
theorem or_u64 {x y : Nat} (hx : x < 2 ^ 64) (hy : y < 2 ^ 64) : IntKind.u64.wrap (BitVec.ofInt 64 (x : Int) ||| BitVec.ofInt 64 (y : Int)).toNat = ((x ||| y : Nat) : Int) := by
 rw [BitVec.toNat_or,ofInt_nat,ofInt_nat,Nat.mod_eq_of_lt hx,Nat.mod_eq_of_lt hy,wrap_mod_u64]
 have := Nat.or_lt_two_pow hx hy
 omega
theorem and_u64 {x y : Nat} (hx : x < 2 ^ 64) (hy : y < 2 ^ 64) : IntKind.u64.wrap (BitVec.ofInt 64 (x : Int) &&& BitVec.ofInt 64 (y : Int)).toNat = ((x &&& y : Nat) : Int) := by
 rw [BitVec.toNat_and,ofInt_nat,ofInt_nat,Nat.mod_eq_of_lt hx,Nat.mod_eq_of_lt hy,wrap_mod_u64]
 have := Nat.and_lt_two_pow x hy
 omega
theorem xor_u64 {x y : Nat} (hx : x < 2 ^ 64) (hy : y < 2 ^ 64) : IntKind.u64.wrap (BitVec.ofInt 64 (x : Int) ^^^ BitVec.ofInt 64 (y : Int)).toNat = ((x ^^^ y : Nat) : Int) := by
 rw [BitVec.toNat_xor,ofInt_nat,ofInt_nat,Nat.mod_eq_of_lt hx,Nat.mod_eq_of_lt hy,wrap_mod_u64]
 have := Nat.xor_lt_two_pow hx hy
 omega
theorem or_u8 {x y : Nat} (hx : x < 2 ^ 8) (hy : y < 2 ^ 8) : IntKind.u8.wrap (BitVec.ofInt 8 (x : Int) ||| BitVec.ofInt 8 (y : Int)).toNat = ((x ||| y : Nat) : Int) := by
 rw [BitVec.toNat_or,ofInt_nat,ofInt_nat,Nat.mod_eq_of_lt hx,Nat.mod_eq_of_lt hy,wrap_mod_u8]
 have := Nat.or_lt_two_pow hx hy
 omega
theorem and_u8 {x y : Nat} (hx : x < 2 ^ 8) (hy : y < 2 ^ 8) : IntKind.u8.wrap (BitVec.ofInt 8 (x : Int) &&& BitVec.ofInt 8 (y : Int)).toNat = ((x &&& y : Nat) : Int) := by
 rw [BitVec.toNat_and,ofInt_nat,ofInt_nat,Nat.mod_eq_of_lt hx,Nat.mod_eq_of_lt hy,wrap_mod_u8]
 have := Nat.and_lt_two_pow x hy
 omega
theorem or_u32 {x y : Nat} (hx : x < 2 ^ 32) (hy : y < 2 ^ 32) : IntKind.u32.wrap (BitVec.ofInt 32 (x : Int) ||| BitVec.ofInt 32 (y : Int)).toNat = ((x ||| y : Nat) : Int) := by
 rw [BitVec.toNat_or,ofInt_nat,ofInt_nat,Nat.mod_eq_of_lt hx,Nat.mod_eq_of_lt hy,wrap_mod_u32]
 have := Nat.or_lt_two_pow hx hy
 omega
theorem and_u32 {x y : Nat} (hx : x < 2 ^ 32) (hy : y < 2 ^ 32) : IntKind.u32.wrap (BitVec.ofInt 32 (x : Int) &&& BitVec.ofInt 32 (y : Int)).toNat = ((x &&& y : Nat) : Int) := by
 rw [BitVec.toNat_and,ofInt_nat,ofInt_nat,Nat.mod_eq_of_lt hx,Nat.mod_eq_of_lt hy,wrap_mod_u32]
 have := Nat.and_lt_two_pow x hy
 omega
theorem xor_u32 {x y : Nat} (hx : x < 2 ^ 32) (hy : y < 2 ^ 32) : IntKind.u32.wrap (BitVec.ofInt 32 (x : Int) ^^^ BitVec.ofInt 32 (y : Int)).toNat = ((x ^^^ y : Nat) : Int) := by
 rw [BitVec.toNat_xor,ofInt_nat,ofInt_nat,Nat.mod_eq_of_lt hx,Nat.mod_eq_of_lt hy,wrap_mod_u32]
 have := Nat.xor_lt_two_pow hx hy
 omega
theorem intBin_or_u8 {x y : Int} (h1 : 0 ≤ x) (h2 : x < 256) (h3 : 0 ≤ y) (h4 : y < 256) : intBin .or .u8 x y = some (.int .u8 ((x.toNat ||| y.toNat : Nat) : Int)) := by
 obtain ⟨a,rfl⟩ := Int.eq_ofNat_of_zero_le h1
 obtain ⟨b,rfl⟩ := Int.eq_ofNat_of_zero_le h3
 show some (D.int .u8 _) = _
 rw [Int.toNat_natCast,Int.toNat_natCast]
 exact congrArg (fun z => some (D.int .u8 z)) (or_u8 (by omega) (by omega))
attribute [simp] intBin_or_u8
theorem intBin_and_u8 {x y : Int} (h1 : 0 ≤ x) (h2 : x < 256) (h3 : 0 ≤ y) (h4 : y < 256) : intBin .and .u8 x y = some (.int .u8 ((x.toNat &&& y.toNat : Nat) : Int)) := by
 obtain ⟨a,rfl⟩ := Int.eq_ofNat_of_zero_le h1
 obtain ⟨b,rfl⟩ := Int.eq_ofNat_of_zero_le h3
 show some (D.int .u8 _) = _
 rw [Int.toNat_natCast,Int.toNat_natCast]
 exact congrArg (fun z => some (D.int .u8 z)) (and_u8 (by omega) (by omega))
attribute [simp] intBin_and_u8
theorem intBin_or_u32 {x y : Int} (h1 : 0 ≤ x) (h2 : x < 4294967296) (h3 : 0 ≤ y) (h4 : y < 4294967296) : intBin .or .u32 x y = some (.int .u32 ((x.toNat ||| y.toNat : Nat) : Int)) := by
 obtain ⟨a,rfl⟩ := Int.eq_ofNat_of_zero_le h1
 obtain ⟨b,rfl⟩ := Int.eq_ofNat_of_zero_le h3
 show some (D.int .u32 _) = _
 rw [Int.toNat_natCast,Int.toNat_natCast]
 exact congrArg (fun z => some (D.int .u32 z)) (or_u32 (by omega) (by omega))
attribute [simp] intBin_or_u32
theorem intBin_and_u32 {x y : Int} (h1 : 0 ≤ x) (h2 : x < 4294967296) (h3 : 0 ≤ y) (h4 : y < 4294967296) : intBin .and .u32 x y = some (.int .u32 ((x.toNat &&& y.toNat : Nat) : Int)) := by
 obtain ⟨a,rfl⟩ := Int.eq_ofNat_of_zero_le h1
 obtain ⟨b,rfl⟩ := Int.eq_ofNat_of_zero_le h3
 show some (D.int .u32 _) = _
 rw [Int.toNat_natCast,Int.toNat_natCast]
 exact congrArg (fun z => some (D.int .u32 z)) (and_u32 (by omega) (by omega))
attribute [simp] intBin_and_u32
theorem intBin_xor_u32 {x y : Int} (h1 : 0 ≤ x) (h2 : x < 4294967296) (h3 : 0 ≤ y) (h4 : y < 4294967296) : intBin .xor .u32 x y = some (.int .u32 ((x.toNat ^^^ y.toNat : Nat) : Int)) := by
 obtain ⟨a,rfl⟩ := Int.eq_ofNat_of_zero_le h1
 obtain ⟨b,rfl⟩ := Int.eq_ofNat_of_zero_le h3
 show some (D.int .u32 _) = _
 rw [Int.toNat_natCast,Int.toNat_natCast]
 exact congrArg (fun z => some (D.int .u32 z)) (xor_u32 (by omega) (by omega))
attribute [simp] intBin_xor_u32
theorem intBin_or_u64 {x y : Int} (h1 : 0 ≤ x) (h2 : x < 18446744073709551616) (h3 : 0 ≤ y) (h4 : y < 18446744073709551616) : intBin .or .u64 x y = some (.int .u64 ((x.toNat ||| y.toNat : Nat) : Int)) := by
 obtain ⟨a,rfl⟩ := Int.eq_ofNat_of_zero_le h1
 obtain ⟨b,rfl⟩ := Int.eq_ofNat_of_zero_le h3
 show some (D.int .u64 _) = _
 rw [Int.toNat_natCast,Int.toNat_natCast]
 exact congrArg (fun z => some (D.int .u64 z)) (or_u64 (by omega) (by omega))
attribute [simp] intBin_or_u64
theorem intBin_and_u64 {x y : Int} (h1 : 0 ≤ x) (h2 : x < 18446744073709551616) (h3 : 0 ≤ y) (h4 : y < 18446744073709551616) : intBin .and .u64 x y = some (.int .u64 ((x.toNat &&& y.toNat : Nat) : Int)) := by
 obtain ⟨a,rfl⟩ := Int.eq_ofNat_of_zero_le h1
 obtain ⟨b,rfl⟩ := Int.eq_ofNat_of_zero_le h3
 show some (D.int .u64 _) = _
 rw [Int.toNat_natCast,Int.toNat_natCast]
 exact congrArg (fun z => some (D.int .u64 z)) (and_u64 (by omega) (by omega))
attribute [simp] intBin_and_u64
theorem intBin_xor_u64 {x y : Int} (h1 : 0 ≤ x) (h2 : x < 18446744073709551616) (h3 : 0 ≤ y) (h4 : y < 18446744073709551616) : intBin .xor .u64 x y = some (.int .u64 ((x.toNat ^^^ y.toNat : Nat) : Int)) := by
 obtain ⟨a,rfl⟩ := Int.eq_ofNat_of_zero_le h1
 obtain ⟨b,rfl⟩ := Int.eq_ofNat_of_zero_le h3
 show some (D.int .u64 _) = _
 rw [Int.toNat_natCast,Int.toNat_natCast]
 exact congrArg (fun z => some (D.int .u64 z)) (xor_u64 (by omega) (by omega))
attribute [simp] intBin_xor_u64
theorem or_add {x y i : Nat} (hx : x % 2 ^ i = 0) (hy : y < 2 ^ i) : x ||| y = x + y := by
 have e : x = 2 ^ i * (x / 2 ^ i) := by
  have := Nat.div_add_mod x (2 ^ i)
  omega
 rw [e,Nat.two_pow_add_eq_or_of_lt hy]
theorem or_add' {x y i : Nat} (hx : x % 2 ^ i = 0) (hy : y < 2 ^ i) : y ||| x = y + x := by rw [Nat.or_comm,or_add hx hy,Nat.add_comm]
theorem or128 (n : Nat) : (n % 256 ||| 128) = n % 128 + 128 := by
 have h1 : n % 256 = n % 128 + 128 * (n / 128 % 2) := by omega
 have h2 : n / 128 % 2 = 0 ∨ n / 128 % 2 = 1 := by omega
 have h3 : n % 128 < 2 ^ 7 := by omega
 rcases h2 with h | h
 ·rw [h1,h,Nat.mul_zero,Nat.add_zero]
  rw [or_add' (i := 7) (by decide) h3]
 ·rw [h1,h,Nat.mul_one]
  have : n % 128 + 128 = n % 128 ||| 128 := (or_add' (i := 7) (by decide) h3).symm
  rw [this,Nat.or_assoc,Nat.or_self]
theorem and_mask (n k : Nat) : n &&& (2 ^ k - 1) = n % 2 ^ k := Nat.and_two_pow_sub_one_eq_mod n k
theorem and127 (n : Nat) : n &&& 127 = n % 128 := and_mask n 7
theorem and1 (n : Nat) : n &&& 1 = n % 2 := and_mask n 1
theorem xor_ones {x : Nat} (hx : x < 2 ^ 64) : x ^^^ 18446744073709551615 = 18446744073709551615 - x := by
 have h : (BitVec.ofNat 64 x ^^^ BitVec.allOnes 64).toNat = (~~~ BitVec.ofNat 64 x).toNat := by rw [BitVec.xor_allOnes]
 rw [BitVec.toNat_xor,BitVec.toNat_not,BitVec.toNat_ofNat,BitVec.toNat_allOnes,Nat.mod_eq_of_lt hx] at h
 exact h
theorem intBin_xor_i64_zero {x : Int} (h1 : -9223372036854775808 ≤ x) (h2 : x ≤ 9223372036854775807) : intBin .xor .i64 x 0 = some (.int .i64 x) := by
 show some (D.int .i64 (IntKind.i64.wrap (BitVec.ofInt 64 x ^^^ BitVec.ofInt 64 0).toNat)) = _
 have : BitVec.ofInt 64 0 = 0#64 := rfl
 rw [this,BitVec.xor_zero,BitVec.toNat_ofInt,wrap_mod_i64]
 congr 2
 split <;> omega
theorem intBin_xor_i64_m1 {x : Int} (h1 : -9223372036854775808 ≤ x) (h2 : x ≤ 9223372036854775807) : intBin .xor .i64 x (-1) = some (.int .i64 (-x - 1)) := by
 show some (D.int .i64 (IntKind.i64.wrap (BitVec.ofInt 64 x ^^^ BitVec.ofInt 64 (-1)).toNat)) = _
 have : BitVec.ofInt 64 (-1) = BitVec.allOnes 64 := by decide
 rw [this,BitVec.xor_allOnes,BitVec.toNat_not,BitVec.toNat_ofInt,wrap_mod_i64]
 congr 2
 split <;> omega
attribute [simp] intBin_xor_i64_zero intBin_xor_i64_m1
def u8n (n : Nat) : UInt8 := UInt8.ofNat n
theorem u8n_toNat {n : Nat} (h : n < 256) : (u8n n).toNat = n := by simp [u8n]; omega
theorem u8n_of (b : UInt8) : u8n b.toNat = b := by simp [u8n]
abbrev bytes (l : List UInt8) : List D := l.map byteD
theorem byteD_eq {b : UInt8} {x : Int} (h : (b.toNat : Int) = x) : byteD b = .int .u8 x := by simp [byteD,h]
@[simp] theorem mk_toList (l : List UInt8) : (ByteArray.mk l.toArray).toList = l := by rw [ByteArray.toList_eq]
@[simp] theorem mk_size (l : List UInt8) : (ByteArray.mk l.toArray).size = l.length := by simp [ByteArray.size]
@[simp] theorem bytes_comp (l : List UInt8) : l.mapM (byteOf? ∘ byteD) = some l := by rw [← List.mapM_map]; exact bytes_of_map l
@[simp] theorem bytes_take (l : List UInt8) (k : Nat) : ((l.map byteD).take k).mapM byteOf? = some (l.take k) := by rw [← List.map_take,bytes_of_map]
@[simp] theorem bytes_drop (l : List UInt8) (k : Nat) : ((l.map byteD).drop k).mapM byteOf? = some (l.drop k) := by rw [← List.map_drop,bytes_of_map]
@[simp] theorem bytes_take_drop (l : List UInt8) (k j : Nat) : (((l.map byteD).take k).drop j).mapM byteOf? = some ((l.take k).drop j) := by rw [← List.map_take,← List.map_drop,bytes_of_map]
@[simp] theorem allSize_bytes (l : List UInt8) : allSize 1 (l.map byteD) = true := allSize_map l fun _ => rfl
@[simp] theorem allSize_ints {α : Type} (k : IntKind) (f : α → Int) (l : List α) : allSize 1 (l.map fun x => D.int k (f x)) = true := allSize_map l fun _ => rfl
@[simp] theorem allSize_strs (l : List ByteArray) : allSize 1 (l.map D.str) = true := allSize_map l fun _ => rfl
attribute [simp] cut
@[simp] theorem take_map_len {α β : Type} (f : α → β) (l : List α) : (l.map f).take l.length = l.map f := List.take_of_length_le (by simp)
attribute [simp] byteD u8n_toNat or128 and127 and1 u8n_of
attribute [simp] wrap_mod_u8 wrap_mod_u32 bits_u8 bits_u32 bits_u64 bits_i64
@[simp] theorem toNat_mod256 (m : Nat) : ((m : Int) % 256).toNat = m % 256 := by omega
@[simp] theorem toNat_mod32 (m : Nat) : ((m : Int) % 4294967296).toNat = m % 4294967296 := by omega
@[simp] theorem toNat_mod64 (m : Nat) : ((m : Int) % 18446744073709551616).toNat = m % 18446744073709551616 := by omega
theorem fdiv_pos (a b : Int) (h : 0 ≤ b) : a.fdiv b = a / b := Int.fdiv_eq_ediv_of_nonneg a h
@[simp] theorem fdiv_pow (a : Int) (w : Nat) : a.fdiv (2 ^ w) = a / 2 ^ w := fdiv_pos a _ (Int.le_of_lt (Int.pow_pos (by decide)))
attribute [simp] fdiv_pos
theorem tdiv_pos (a b : Int) (h : 0 ≤ a) : a.tdiv b = a / b := Int.tdiv_eq_ediv_of_nonneg h
theorem tmod_pos (a b : Int) (h : 0 ≤ a) : a.tmod b = a % b := Int.tmod_eq_emod_of_nonneg h
attribute [simp] tdiv_pos tmod_pos
end Go.Am
