/- Facts on the types of the program, what loops keep, numbers. -/
import Derived.Test.YtekemfffaedmhaaProg
import Derived.KernelRfl
import Derived.Test.YtekemfffaedmhaaMachD
set_option linter.all false
namespace Go.Am.Ab
open Go.Proofs
attribute [simp] Try.underlying0
@[simp] theorem sz0 : sizeOf? Try.prog 0 = some 1 := by kernel_rfl
@[simp] theorem ag0 : agg? Try.prog 0 = some false := by kernel_rfl
attribute [simp] Try.underlying2
@[simp] theorem sz2 : sizeOf? Try.prog 2 = some 1 := by kernel_rfl
@[simp] theorem ag2 : agg? Try.prog 2 = some false := by kernel_rfl
@[simp] theorem zs2 : zeroVs? Try.prog 2 = some [.d (.int .i64 0)] := by kernel_rfl
@[simp] theorem al2 (h : List Am.Obj) : allocV Try.prog h 2 = some (.ptr h.length 0, h ++ [.box [.d (.int .i64 0)]]) := allocV_of zs2
@[simp] theorem zv2 : (zero? Try.prog 2).isSome = true := by kernel_rfl
@[simp] theorem ap2 : appElem? Try.prog 2 = some 1 := by kernel_rfl
@[simp] theorem mk2 : makeElem? Try.prog 2 = some (1, .int .i64 0) := by kernel_rfl
@[simp] theorem zd2 : zeroD? Try.prog 2 = some (.int .i64 0) := by kernel_rfl
attribute [simp] Try.underlying3
@[simp] theorem sz3 : sizeOf? Try.prog 3 = some 1 := by kernel_rfl
@[simp] theorem ag3 : agg? Try.prog 3 = some false := by kernel_rfl
@[simp] theorem zs3 : zeroVs? Try.prog 3 = some [.d (.int .i64 0)] := by kernel_rfl
@[simp] theorem al3 (h : List Am.Obj) : allocV Try.prog h 3 = some (.ptr h.length 0, h ++ [.box [.d (.int .i64 0)]]) := allocV_of zs3
@[simp] theorem zv3 : (zero? Try.prog 3).isSome = true := by kernel_rfl
@[simp] theorem ap3 : appElem? Try.prog 3 = some 1 := by kernel_rfl
@[simp] theorem mk3 : makeElem? Try.prog 3 = some (1, .int .i64 0) := by kernel_rfl
@[simp] theorem zd3 : zeroD? Try.prog 3 = some (.int .i64 0) := by kernel_rfl
attribute [simp] Try.underlying4
@[simp] theorem sz4 : sizeOf? Try.prog 4 = some 1 := by kernel_rfl
@[simp] theorem ag4 : agg? Try.prog 4 = some false := by kernel_rfl
@[simp] theorem zs4 : zeroVs? Try.prog 4 = some [.d (.bool false)] := by kernel_rfl
@[simp] theorem al4 (h : List Am.Obj) : allocV Try.prog h 4 = some (.ptr h.length 0, h ++ [.box [.d (.bool false)]]) := allocV_of zs4
@[simp] theorem zv4 : (zero? Try.prog 4).isSome = true := by kernel_rfl
@[simp] theorem ap4 : appElem? Try.prog 4 = some 1 := by kernel_rfl
@[simp] theorem mk4 : makeElem? Try.prog 4 = some (1, .bool false) := by kernel_rfl
@[simp] theorem zd4 : zeroD? Try.prog 4 = some (.bool false) := by kernel_rfl
attribute [simp] Try.underlying5
@[simp] theorem sz5 : sizeOf? Try.prog 5 = some 1 := by kernel_rfl
@[simp] theorem ag5 : agg? Try.prog 5 = some false := by kernel_rfl
@[simp] theorem zs5 : zeroVs? Try.prog 5 = some [.d (.int .u8 0)] := by kernel_rfl
@[simp] theorem al5 (h : List Am.Obj) : allocV Try.prog h 5 = some (.ptr h.length 0, h ++ [.box [.d (.int .u8 0)]]) := allocV_of zs5
@[simp] theorem zv5 : (zero? Try.prog 5).isSome = true := by kernel_rfl
@[simp] theorem ap5 : appElem? Try.prog 5 = some 1 := by kernel_rfl
@[simp] theorem mk5 : makeElem? Try.prog 5 = some (1, .int .u8 0) := by kernel_rfl
@[simp] theorem zd5 : zeroD? Try.prog 5 = some (.int .u8 0) := by kernel_rfl
attribute [simp] Try.underlying9
@[simp] theorem sz9 : sizeOf? Try.prog 9 = some 1 := by kernel_rfl
@[simp] theorem ag9 : agg? Try.prog 9 = some false := by kernel_rfl
@[simp] theorem zs9 : zeroVs? Try.prog 9 = some [.d (.str ⟨#[]⟩)] := by kernel_rfl
@[simp] theorem al9 (h : List Am.Obj) : allocV Try.prog h 9 = some (.ptr h.length 0, h ++ [.box [.d (.str ⟨#[]⟩)]]) := allocV_of zs9
@[simp] theorem zv9 : (zero? Try.prog 9).isSome = true := by kernel_rfl
@[simp] theorem ap9 : appElem? Try.prog 9 = some 1 := by kernel_rfl
@[simp] theorem mk9 : makeElem? Try.prog 9 = some (1, .str ⟨#[]⟩) := by kernel_rfl
@[simp] theorem zd9 : zeroD? Try.prog 9 = some (.str ⟨#[]⟩) := by kernel_rfl
attribute [simp] Try.underlying20
@[simp] theorem sz20 : sizeOf? Try.prog 20 = some 1 := by kernel_rfl
@[simp] theorem ag20 : agg? Try.prog 20 = some false := by kernel_rfl
@[simp] theorem zs20 : zeroVs? Try.prog 20 = some [.d .nilI] := by kernel_rfl
@[simp] theorem al20 (h : List Am.Obj) : allocV Try.prog h 20 = some (.ptr h.length 0, h ++ [.box [.d .nilI]]) := allocV_of zs20
@[simp] theorem zv20 : (zero? Try.prog 20).isSome = true := by kernel_rfl
@[simp] theorem ap20 : appElem? Try.prog 20 = some 1 := by kernel_rfl
@[simp] theorem mk20 : makeElem? Try.prog 20 = some (1, .nilI) := by kernel_rfl
@[simp] theorem zd20 : zeroD? Try.prog 20 = some (.nilI) := by kernel_rfl
attribute [simp] Try.underlying22
@[simp] theorem sz22 : sizeOf? Try.prog 22 = some 1 := by kernel_rfl
@[simp] theorem ag22 : agg? Try.prog 22 = some false := by kernel_rfl
@[simp] theorem zs22 : zeroVs? Try.prog 22 = some [.nilS] := by kernel_rfl
@[simp] theorem al22 (h : List Am.Obj) : allocV Try.prog h 22 = some (.ptr h.length 0, h ++ [.box [.nilS]]) := allocV_of zs22
@[simp] theorem zv22 : (zero? Try.prog 22).isSome = true := by kernel_rfl
@[simp] theorem ap22 : appElem? Try.prog 22 = some 1 := by kernel_rfl
@[simp] theorem mk22 : makeElem? Try.prog 22 = some (1, .list []) := by kernel_rfl
@[simp] theorem zd22 : zeroD? Try.prog 22 = some (.list []) := by kernel_rfl
@[simp] theorem es22 : elemSize Try.prog 22 = 2 := by kernel_rfl
attribute [simp] Try.underlying23
@[simp] theorem sz23 : sizeOf? Try.prog 23 = some 1 := by kernel_rfl
@[simp] theorem ag23 : agg? Try.prog 23 = some false := by kernel_rfl
@[simp] theorem zs23 : zeroVs? Try.prog 23 = some [.nilS] := by kernel_rfl
@[simp] theorem al23 (h : List Am.Obj) : allocV Try.prog h 23 = some (.ptr h.length 0, h ++ [.box [.nilS]]) := allocV_of zs23
@[simp] theorem zv23 : (zero? Try.prog 23).isSome = true := by kernel_rfl
@[simp] theorem ap23 : appElem? Try.prog 23 = some 1 := by kernel_rfl
@[simp] theorem mk23 : makeElem? Try.prog 23 = some (1, .list []) := by kernel_rfl
@[simp] theorem zd23 : zeroD? Try.prog 23 = some (.list []) := by kernel_rfl
@[simp] theorem es23 : elemSize Try.prog 23 = 7 := by kernel_rfl
attribute [simp] Try.underlying24
@[simp] theorem sz24 : sizeOf? Try.prog 24 = some 1 := by kernel_rfl
@[simp] theorem ag24 : agg? Try.prog 24 = some false := by kernel_rfl
@[simp] theorem zs24 : zeroVs? Try.prog 24 = some [.d (.int .u64 0)] := by kernel_rfl
@[simp] theorem al24 (h : List Am.Obj) : allocV Try.prog h 24 = some (.ptr h.length 0, h ++ [.box [.d (.int .u64 0)]]) := allocV_of zs24
@[simp] theorem zv24 : (zero? Try.prog 24).isSome = true := by kernel_rfl
@[simp] theorem ap24 : appElem? Try.prog 24 = some 1 := by kernel_rfl
@[simp] theorem mk24 : makeElem? Try.prog 24 = some (1, .int .u64 0) := by kernel_rfl
@[simp] theorem zd24 : zeroD? Try.prog 24 = some (.int .u64 0) := by kernel_rfl
attribute [simp] Try.underlying25
@[simp] theorem sz25 : sizeOf? Try.prog 25 = some 3 := by kernel_rfl
@[simp] theorem ag25 : agg? Try.prog 25 = some true := by kernel_rfl
@[simp] theorem zs25 : zeroVs? Try.prog 25 = some [.nilS, .nilS, .d (.int .u64 0)] := by kernel_rfl
@[simp] theorem al25 (h : List Am.Obj) : allocV Try.prog h 25 = some (.ptr h.length 0, h ++ [.box [.nilS, .nilS, .d (.int .u64 0)]]) := allocV_of zs25
@[simp] theorem zv25 : (zero? Try.prog 25).isSome = true := by kernel_rfl
@[simp] theorem ap25 : appElem? Try.prog 25 = some 3 := by kernel_rfl
@[simp] theorem bv25 (parts : List (Nat × V)) : buildV Try.prog 25 parts = (fillV (fun i => [(0, 1), (1, 1), (2, 1)][i]?) [.nilS, .nilS, .d (.int .u64 0)] parts).map mkAgg := buildV_struct (by kernel_rfl) (by kernel_rfl)
@[simp] theorem fo25_0 : fieldOff? Try.prog 25 0 = some (0, 22) := by kernel_rfl
@[simp] theorem fo25_1 : fieldOff? Try.prog 25 1 = some (1, 23) := by kernel_rfl
@[simp] theorem fo25_2 : fieldOff? Try.prog 25 2 = some (2, 24) := by kernel_rfl
@[simp] theorem mk25 : makeElem? Try.prog 25 = some (3, .agg [.list [], .list [], .int .u64 0]) := by kernel_rfl
@[simp] theorem zd25 : zeroD? Try.prog 25 = some (.agg [.list [], .list [], .int .u64 0]) := by kernel_rfl
attribute [simp] Try.underlying26
@[simp] theorem sz26 : sizeOf? Try.prog 26 = some 3 := by kernel_rfl
@[simp] theorem ag26 : agg? Try.prog 26 = some true := by kernel_rfl
@[simp] theorem zs26 : zeroVs? Try.prog 26 = some [.nilS, .nilS, .d (.int .u64 0)] := by kernel_rfl
@[simp] theorem al26 (h : List Am.Obj) : allocV Try.prog h 26 = some (.ptr h.length 0, h ++ [.box [.nilS, .nilS, .d (.int .u64 0)]]) := allocV_of zs26
@[simp] theorem zv26 : (zero? Try.prog 26).isSome = true := by kernel_rfl
@[simp] theorem ap26 : appElem? Try.prog 26 = some 3 := by kernel_rfl
@[simp] theorem bv26 (parts : List (Nat × V)) : buildV Try.prog 26 parts = (fillV (fun i => [(0, 1), (1, 1), (2, 1)][i]?) [.nilS, .nilS, .d (.int .u64 0)] parts).map mkAgg := buildV_struct (by kernel_rfl) (by kernel_rfl)
@[simp] theorem fo26_0 : fieldOff? Try.prog 26 0 = some (0, 22) := by kernel_rfl
@[simp] theorem fo26_1 : fieldOff? Try.prog 26 1 = some (1, 23) := by kernel_rfl
@[simp] theorem fo26_2 : fieldOff? Try.prog 26 2 = some (2, 24) := by kernel_rfl
@[simp] theorem mk26 : makeElem? Try.prog 26 = some (3, .agg [.list [], .list [], .int .u64 0]) := by kernel_rfl
@[simp] theorem zd26 : zeroD? Try.prog 26 = some (.agg [.list [], .list [], .int .u64 0]) := by kernel_rfl
attribute [simp] Try.underlying27
@[simp] theorem sz27 : sizeOf? Try.prog 27 = some 2 := by kernel_rfl
@[simp] theorem ag27 : agg? Try.prog 27 = some true := by kernel_rfl
@[simp] theorem zs27 : zeroVs? Try.prog 27 = some [.d (.int .i64 0), .d (.int .u64 0)] := by kernel_rfl
@[simp] theorem al27 (h : List Am.Obj) : allocV Try.prog h 27 = some (.ptr h.length 0, h ++ [.box [.d (.int .i64 0), .d (.int .u64 0)]]) := allocV_of zs27
@[simp] theorem zv27 : (zero? Try.prog 27).isSome = true := by kernel_rfl
@[simp] theorem ap27 : appElem? Try.prog 27 = some 2 := by kernel_rfl
@[simp] theorem bv27 (parts : List (Nat × V)) : buildV Try.prog 27 parts = (fillV (fun i => [(0, 1), (1, 1)][i]?) [.d (.int .i64 0), .d (.int .u64 0)] parts).map mkAgg := buildV_struct (by kernel_rfl) (by kernel_rfl)
@[simp] theorem fo27_0 : fieldOff? Try.prog 27 0 = some (0, 3) := by kernel_rfl
@[simp] theorem fo27_1 : fieldOff? Try.prog 27 1 = some (1, 24) := by kernel_rfl
@[simp] theorem fs27 : flatStruct Try.prog 27 = some [(0, 0), (1, 0)] := by kernel_rfl
@[simp] theorem mk27 : makeElem? Try.prog 27 = some (2, .agg [.int .i64 0, .int .u64 0]) := by kernel_rfl
@[simp] theorem zd27 : zeroD? Try.prog 27 = some (.agg [.int .i64 0, .int .u64 0]) := by kernel_rfl
attribute [simp] Try.underlying28
@[simp] theorem sz28 : sizeOf? Try.prog 28 = some 2 := by kernel_rfl
@[simp] theorem ag28 : agg? Try.prog 28 = some true := by kernel_rfl
@[simp] theorem zs28 : zeroVs? Try.prog 28 = some [.d (.int .i64 0), .d (.int .u64 0)] := by kernel_rfl
@[simp] theorem al28 (h : List Am.Obj) : allocV Try.prog h 28 = some (.ptr h.length 0, h ++ [.box [.d (.int .i64 0), .d (.int .u64 0)]]) := allocV_of zs28
@[simp] theorem zv28 : (zero? Try.prog 28).isSome = true := by kernel_rfl
@[simp] theorem ap28 : appElem? Try.prog 28 = some 2 := by kernel_rfl
@[simp] theorem bv28 (parts : List (Nat × V)) : buildV Try.prog 28 parts = (fillV (fun i => [(0, 1), (1, 1)][i]?) [.d (.int .i64 0), .d (.int .u64 0)] parts).map mkAgg := buildV_struct (by kernel_rfl) (by kernel_rfl)
@[simp] theorem fo28_0 : fieldOff? Try.prog 28 0 = some (0, 3) := by kernel_rfl
@[simp] theorem fo28_1 : fieldOff? Try.prog 28 1 = some (1, 24) := by kernel_rfl
@[simp] theorem fs28 : flatStruct Try.prog 28 = some [(0, 0), (1, 0)] := by kernel_rfl
@[simp] theorem mk28 : makeElem? Try.prog 28 = some (2, .agg [.int .i64 0, .int .u64 0]) := by kernel_rfl
@[simp] theorem zd28 : zeroD? Try.prog 28 = some (.agg [.int .i64 0, .int .u64 0]) := by kernel_rfl
attribute [simp] Try.underlying32
@[simp] theorem sz32 : sizeOf? Try.prog 32 = some 1 := by kernel_rfl
@[simp] theorem ag32 : agg? Try.prog 32 = some false := by kernel_rfl
@[simp] theorem zs32 : zeroVs? Try.prog 32 = some [.nilS] := by kernel_rfl
@[simp] theorem al32 (h : List Am.Obj) : allocV Try.prog h 32 = some (.ptr h.length 0, h ++ [.box [.nilS]]) := allocV_of zs32
@[simp] theorem zv32 : (zero? Try.prog 32).isSome = true := by kernel_rfl
@[simp] theorem ap32 : appElem? Try.prog 32 = some 1 := by kernel_rfl
@[simp] theorem mk32 : makeElem? Try.prog 32 = some (1, .list []) := by kernel_rfl
@[simp] theorem zd32 : zeroD? Try.prog 32 = some (.list []) := by kernel_rfl
@[simp] theorem es32 : elemSize Try.prog 32 = 1 := by kernel_rfl
attribute [simp] Try.underlying37
@[simp] theorem sz37 : sizeOf? Try.prog 37 = some 1 := by kernel_rfl
@[simp] theorem ag37 : agg? Try.prog 37 = some false := by kernel_rfl
@[simp] theorem zs37 : zeroVs? Try.prog 37 = some [.d (.int .u32 0)] := by kernel_rfl
@[simp] theorem al37 (h : List Am.Obj) : allocV Try.prog h 37 = some (.ptr h.length 0, h ++ [.box [.d (.int .u32 0)]]) := allocV_of zs37
@[simp] theorem zv37 : (zero? Try.prog 37).isSome = true := by kernel_rfl
@[simp] theorem ap37 : appElem? Try.prog 37 = some 1 := by kernel_rfl
@[simp] theorem mk37 : makeElem? Try.prog 37 = some (1, .int .u32 0) := by kernel_rfl
@[simp] theorem zd37 : zeroD? Try.prog 37 = some (.int .u32 0) := by kernel_rfl
attribute [simp] Try.underlying38
@[simp] theorem sz38 : sizeOf? Try.prog 38 = some 1 := by kernel_rfl
@[simp] theorem ag38 : agg? Try.prog 38 = some false := by kernel_rfl
@[simp] theorem zs38 : zeroVs? Try.prog 38 = some [.nilS] := by kernel_rfl
@[simp] theorem al38 (h : List Am.Obj) : allocV Try.prog h 38 = some (.ptr h.length 0, h ++ [.box [.nilS]]) := allocV_of zs38
@[simp] theorem zv38 : (zero? Try.prog 38).isSome = true := by kernel_rfl
@[simp] theorem ap38 : appElem? Try.prog 38 = some 1 := by kernel_rfl
@[simp] theorem mk38 : makeElem? Try.prog 38 = some (1, .list []) := by kernel_rfl
@[simp] theorem zd38 : zeroD? Try.prog 38 = some (.list []) := by kernel_rfl
@[simp] theorem es38 : elemSize Try.prog 38 = 1 := by kernel_rfl
attribute [simp] Try.underlying39
@[simp] theorem sz39 : sizeOf? Try.prog 39 = some 7 := by kernel_rfl
@[simp] theorem ag39 : agg? Try.prog 39 = some true := by kernel_rfl
@[simp] theorem zs39 : zeroVs? Try.prog 39 = some [.d (.int .u64 0), .d (.int .u64 0), .d (.int .u64 0), .d (.int .u64 0), .d (.int .u64 0), .d (.int .u32 0), .nilS] := by kernel_rfl
@[simp] theorem al39 (h : List Am.Obj) : allocV Try.prog h 39 = some (.ptr h.length 0, h ++ [.box [.d (.int .u64 0), .d (.int .u64 0), .d (.int .u64 0), .d (.int .u64 0), .d (.int .u64 0), .d (.int .u32 0), .nilS]]) := allocV_of zs39
@[simp] theorem zv39 : (zero? Try.prog 39).isSome = true := by kernel_rfl
@[simp] theorem ap39 : appElem? Try.prog 39 = some 7 := by kernel_rfl
@[simp] theorem bv39 (parts : List (Nat × V)) : buildV Try.prog 39 parts = (fillV (fun i => [(0, 1), (1, 1), (2, 1), (3, 1), (4, 1), (5, 1), (6, 1)][i]?) [.d (.int .u64 0), .d (.int .u64 0), .d (.int .u64 0), .d (.int .u64 0), .d (.int .u64 0), .d (.int .u32 0), .nilS] parts).map mkAgg := buildV_struct (by kernel_rfl) (by kernel_rfl)
@[simp] theorem fo39_0 : fieldOff? Try.prog 39 0 = some (0, 24) := by kernel_rfl
@[simp] theorem fo39_1 : fieldOff? Try.prog 39 1 = some (1, 24) := by kernel_rfl
@[simp] theorem fo39_2 : fieldOff? Try.prog 39 2 = some (2, 24) := by kernel_rfl
@[simp] theorem fo39_3 : fieldOff? Try.prog 39 3 = some (3, 24) := by kernel_rfl
@[simp] theorem fo39_4 : fieldOff? Try.prog 39 4 = some (4, 24) := by kernel_rfl
@[simp] theorem fo39_5 : fieldOff? Try.prog 39 5 = some (5, 37) := by kernel_rfl
@[simp] theorem fo39_6 : fieldOff? Try.prog 39 6 = some (6, 38) := by kernel_rfl
@[simp] theorem mk39 : makeElem? Try.prog 39 = some (7, .agg [.int .u64 0, .int .u64 0, .int .u64 0, .int .u64 0, .int .u64 0, .int .u32 0, .list []]) := by kernel_rfl
@[simp] theorem zd39 : zeroD? Try.prog 39 = some (.agg [.int .u64 0, .int .u64 0, .int .u64 0, .int .u64 0, .int .u64 0, .int .u32 0, .list []]) := by kernel_rfl
attribute [simp] Try.underlying40
@[simp] theorem sz40 : sizeOf? Try.prog 40 = some 7 := by kernel_rfl
@[simp] theorem ag40 : agg? Try.prog 40 = some true := by kernel_rfl
@[simp] theorem zs40 : zeroVs? Try.prog 40 = some [.d (.int .u64 0), .d (.int .u64 0), .d (.int .u64 0), .d (.int .u64 0), .d (.int .u64 0), .d (.int .u32 0), .nilS] := by kernel_rfl
@[simp] theorem al40 (h : List Am.Obj) : allocV Try.prog h 40 = some (.ptr h.length 0, h ++ [.box [.d (.int .u64 0), .d (.int .u64 0), .d (.int .u64 0), .d (.int .u64 0), .d (.int .u64 0), .d (.int .u32 0), .nilS]]) := allocV_of zs40
@[simp] theorem zv40 : (zero? Try.prog 40).isSome = true := by kernel_rfl
@[simp] theorem ap40 : appElem? Try.prog 40 = some 7 := by kernel_rfl
@[simp] theorem bv40 (parts : List (Nat × V)) : buildV Try.prog 40 parts = (fillV (fun i => [(0, 1), (1, 1), (2, 1), (3, 1), (4, 1), (5, 1), (6, 1)][i]?) [.d (.int .u64 0), .d (.int .u64 0), .d (.int .u64 0), .d (.int .u64 0), .d (.int .u64 0), .d (.int .u32 0), .nilS] parts).map mkAgg := buildV_struct (by kernel_rfl) (by kernel_rfl)
@[simp] theorem fo40_0 : fieldOff? Try.prog 40 0 = some (0, 24) := by kernel_rfl
@[simp] theorem fo40_1 : fieldOff? Try.prog 40 1 = some (1, 24) := by kernel_rfl
@[simp] theorem fo40_2 : fieldOff? Try.prog 40 2 = some (2, 24) := by kernel_rfl
@[simp] theorem fo40_3 : fieldOff? Try.prog 40 3 = some (3, 24) := by kernel_rfl
@[simp] theorem fo40_4 : fieldOff? Try.prog 40 4 = some (4, 24) := by kernel_rfl
@[simp] theorem fo40_5 : fieldOff? Try.prog 40 5 = some (5, 37) := by kernel_rfl
@[simp] theorem fo40_6 : fieldOff? Try.prog 40 6 = some (6, 38) := by kernel_rfl
@[simp] theorem mk40 : makeElem? Try.prog 40 = some (7, .agg [.int .u64 0, .int .u64 0, .int .u64 0, .int .u64 0, .int .u64 0, .int .u32 0, .list []]) := by kernel_rfl
@[simp] theorem zd40 : zeroD? Try.prog 40 = some (.agg [.int .u64 0, .int .u64 0, .int .u64 0, .int .u64 0, .int .u64 0, .int .u32 0, .list []]) := by kernel_rfl
attribute [simp] Try.underlying41
@[simp] theorem sz41 : sizeOf? Try.prog 41 = some 1 := by kernel_rfl
@[simp] theorem ag41 : agg? Try.prog 41 = some false := by kernel_rfl
attribute [simp] Try.underlying43
@[simp] theorem sz43 : sizeOf? Try.prog 43 = some 1 := by kernel_rfl
@[simp] theorem ag43 : agg? Try.prog 43 = some false := by kernel_rfl
@[simp] theorem zs43 : zeroVs? Try.prog 43 = some [.nilS] := by kernel_rfl
@[simp] theorem al43 (h : List Am.Obj) : allocV Try.prog h 43 = some (.ptr h.length 0, h ++ [.box [.nilS]]) := allocV_of zs43
@[simp] theorem zv43 : (zero? Try.prog 43).isSome = true := by kernel_rfl
@[simp] theorem ap43 : appElem? Try.prog 43 = some 1 := by kernel_rfl
@[simp] theorem mk43 : makeElem? Try.prog 43 = some (1, .list []) := by kernel_rfl
@[simp] theorem zd43 : zeroD? Try.prog 43 = some (.list []) := by kernel_rfl
@[simp] theorem es43 : elemSize Try.prog 43 = 1 := by kernel_rfl
attribute [simp] Try.underlying44
@[simp] theorem sz44 : sizeOf? Try.prog 44 = some 1 := by kernel_rfl
@[simp] theorem ag44 : agg? Try.prog 44 = some false := by kernel_rfl
@[simp] theorem zs44 : zeroVs? Try.prog 44 = some [.nilS] := by kernel_rfl
@[simp] theorem al44 (h : List Am.Obj) : allocV Try.prog h 44 = some (.ptr h.length 0, h ++ [.box [.nilS]]) := allocV_of zs44
@[simp] theorem zv44 : (zero? Try.prog 44).isSome = true := by kernel_rfl
@[simp] theorem ap44 : appElem? Try.prog 44 = some 1 := by kernel_rfl
@[simp] theorem mk44 : makeElem? Try.prog 44 = some (1, .list []) := by kernel_rfl
@[simp] theorem zd44 : zeroD? Try.prog 44 = some (.list []) := by kernel_rfl
@[simp] theorem es44 : elemSize Try.prog 44 = 1 := by kernel_rfl
attribute [simp] Try.underlying45
@[simp] theorem sz45 : sizeOf? Try.prog 45 = some 1 := by kernel_rfl
@[simp] theorem ag45 : agg? Try.prog 45 = some false := by kernel_rfl
attribute [simp] Try.underlying50
@[simp] theorem sz50 : sizeOf? Try.prog 50 = some 1 := by kernel_rfl
@[simp] theorem ag50 : agg? Try.prog 50 = some false := by kernel_rfl
@[simp] theorem zs50 : zeroVs? Try.prog 50 = some [.d (.int .i64 0)] := by kernel_rfl
@[simp] theorem al50 (h : List Am.Obj) : allocV Try.prog h 50 = some (.ptr h.length 0, h ++ [.box [.d (.int .i64 0)]]) := allocV_of zs50
@[simp] theorem zv50 : (zero? Try.prog 50).isSome = true := by kernel_rfl
@[simp] theorem ap50 : appElem? Try.prog 50 = some 1 := by kernel_rfl
@[simp] theorem mk50 : makeElem? Try.prog 50 = some (1, .int .i64 0) := by kernel_rfl
@[simp] theorem zd50 : zeroD? Try.prog 50 = some (.int .i64 0) := by kernel_rfl
attribute [simp] Try.underlying51
@[simp] theorem sz51 : sizeOf? Try.prog 51 = some 1 := by kernel_rfl
@[simp] theorem ag51 : agg? Try.prog 51 = some false := by kernel_rfl
attribute [simp] Try.underlying53
@[simp] theorem sz53 : sizeOf? Try.prog 53 = some 1 := by kernel_rfl
@[simp] theorem ag53 : agg? Try.prog 53 = some false := by kernel_rfl
attribute [simp] Try.underlying60
@[simp] theorem sz60 : sizeOf? Try.prog 60 = some 1 := by kernel_rfl
@[simp] theorem ag60 : agg? Try.prog 60 = some false := by kernel_rfl
@[simp] theorem zs60 : zeroVs? Try.prog 60 = some [.nilS] := by kernel_rfl
@[simp] theorem al60 (h : List Am.Obj) : allocV Try.prog h 60 = some (.ptr h.length 0, h ++ [.box [.nilS]]) := allocV_of zs60
@[simp] theorem zv60 : (zero? Try.prog 60).isSome = true := by kernel_rfl
@[simp] theorem ap60 : appElem? Try.prog 60 = some 1 := by kernel_rfl
@[simp] theorem mk60 : makeElem? Try.prog 60 = some (1, .list []) := by kernel_rfl
@[simp] theorem zd60 : zeroD? Try.prog 60 = some (.list []) := by kernel_rfl
@[simp] theorem es60 : elemSize Try.prog 60 = 3 := by kernel_rfl
attribute [simp] Try.underlying62
@[simp] theorem sz62 : sizeOf? Try.prog 62 = some 1 := by kernel_rfl
@[simp] theorem ag62 : agg? Try.prog 62 = some false := by kernel_rfl
attribute [simp] Try.underlying64
@[simp] theorem sz64 : sizeOf? Try.prog 64 = some 1 := by kernel_rfl
@[simp] theorem ag64 : agg? Try.prog 64 = some false := by kernel_rfl
@[simp] theorem zs64 : zeroVs? Try.prog 64 = some [.d (.int .u8 0)] := by kernel_rfl
@[simp] theorem al64 (h : List Am.Obj) : allocV Try.prog h 64 = some (.ptr h.length 0, h ++ [.box [.d (.int .u8 0)]]) := allocV_of zs64
@[simp] theorem zv64 : (zero? Try.prog 64).isSome = true := by kernel_rfl
@[simp] theorem ap64 : appElem? Try.prog 64 = some 1 := by kernel_rfl
@[simp] theorem mk64 : makeElem? Try.prog 64 = some (1, .int .u8 0) := by kernel_rfl
@[simp] theorem zd64 : zeroD? Try.prog 64 = some (.int .u8 0) := by kernel_rfl
attribute [simp] Try.underlying65
@[simp] theorem sz65 : sizeOf? Try.prog 65 = some 1 := by kernel_rfl
@[simp] theorem ag65 : agg? Try.prog 65 = some false := by kernel_rfl
@[simp] theorem zs65 : zeroVs? Try.prog 65 = some [.nilS] := by kernel_rfl
@[simp] theorem al65 (h : List Am.Obj) : allocV Try.prog h 65 = some (.ptr h.length 0, h ++ [.box [.nilS]]) := allocV_of zs65
@[simp] theorem zv65 : (zero? Try.prog 65).isSome = true := by kernel_rfl
@[simp] theorem ap65 : appElem? Try.prog 65 = some 1 := by kernel_rfl
@[simp] theorem mk65 : makeElem? Try.prog 65 = some (1, .list []) := by kernel_rfl
@[simp] theorem zd65 : zeroD? Try.prog 65 = some (.list []) := by kernel_rfl
@[simp] theorem es65 : elemSize Try.prog 65 = 1 := by kernel_rfl
attribute [simp] Try.underlying67
@[simp] theorem sz67 : sizeOf? Try.prog 67 = some 1 := by kernel_rfl
@[simp] theorem ag67 : agg? Try.prog 67 = some false := by kernel_rfl
attribute [simp] Try.underlying74
@[simp] theorem sz74 : sizeOf? Try.prog 74 = some 1 := by kernel_rfl
@[simp] theorem ag74 : agg? Try.prog 74 = some false := by kernel_rfl
@[simp] theorem zs74 : zeroVs? Try.prog 74 = some [.nilS] := by kernel_rfl
@[simp] theorem al74 (h : List Am.Obj) : allocV Try.prog h 74 = some (.ptr h.length 0, h ++ [.box [.nilS]]) := allocV_of zs74
@[simp] theorem zv74 : (zero? Try.prog 74).isSome = true := by kernel_rfl
@[simp] theorem ap74 : appElem? Try.prog 74 = some 1 := by kernel_rfl
@[simp] theorem mk74 : makeElem? Try.prog 74 = some (1, .list []) := by kernel_rfl
@[simp] theorem zd74 : zeroD? Try.prog 74 = some (.list []) := by kernel_rfl
@[simp] theorem es74 : elemSize Try.prog 74 = 4 := by kernel_rfl
attribute [simp] Try.underlying75
@[simp] theorem sz75 : sizeOf? Try.prog 75 = some 2 := by kernel_rfl
@[simp] theorem ag75 : agg? Try.prog 75 = some true := by kernel_rfl
@[simp] theorem zs75 : zeroVs? Try.prog 75 = some [.d (.int .u32 0), .nilS] := by kernel_rfl
@[simp] theorem al75 (h : List Am.Obj) : allocV Try.prog h 75 = some (.ptr h.length 0, h ++ [.box [.d (.int .u32 0), .nilS]]) := allocV_of zs75
@[simp] theorem zv75 : (zero? Try.prog 75).isSome = true := by kernel_rfl
@[simp] theorem ap75 : appElem? Try.prog 75 = some 2 := by kernel_rfl
@[simp] theorem bv75 (parts : List (Nat × V)) : buildV Try.prog 75 parts = (fillV (fun i => [(0, 1), (1, 1)][i]?) [.d (.int .u32 0), .nilS] parts).map mkAgg := buildV_struct (by kernel_rfl) (by kernel_rfl)
@[simp] theorem fo75_0 : fieldOff? Try.prog 75 0 = some (0, 37) := by kernel_rfl
@[simp] theorem fo75_1 : fieldOff? Try.prog 75 1 = some (1, 74) := by kernel_rfl
@[simp] theorem mk75 : makeElem? Try.prog 75 = some (2, .agg [.int .u32 0, .list []]) := by kernel_rfl
@[simp] theorem zd75 : zeroD? Try.prog 75 = some (.agg [.int .u32 0, .list []]) := by kernel_rfl
attribute [simp] Try.underlying76
@[simp] theorem sz76 : sizeOf? Try.prog 76 = some 2 := by kernel_rfl
@[simp] theorem ag76 : agg? Try.prog 76 = some true := by kernel_rfl
@[simp] theorem zs76 : zeroVs? Try.prog 76 = some [.d (.int .u32 0), .nilS] := by kernel_rfl
@[simp] theorem al76 (h : List Am.Obj) : allocV Try.prog h 76 = some (.ptr h.length 0, h ++ [.box [.d (.int .u32 0), .nilS]]) := allocV_of zs76
@[simp] theorem zv76 : (zero? Try.prog 76).isSome = true := by kernel_rfl
@[simp] theorem ap76 : appElem? Try.prog 76 = some 2 := by kernel_rfl
@[simp] theorem bv76 (parts : List (Nat × V)) : buildV Try.prog 76 parts = (fillV (fun i => [(0, 1), (1, 1)][i]?) [.d (.int .u32 0), .nilS] parts).map mkAgg := buildV_struct (by kernel_rfl) (by kernel_rfl)
@[simp] theorem fo76_0 : fieldOff? Try.prog 76 0 = some (0, 37) := by kernel_rfl
@[simp] theorem fo76_1 : fieldOff? Try.prog 76 1 = some (1, 74) := by kernel_rfl
@[simp] theorem mk76 : makeElem? Try.prog 76 = some (2, .agg [.int .u32 0, .list []]) := by kernel_rfl
@[simp] theorem zd76 : zeroD? Try.prog 76 = some (.agg [.int .u32 0, .list []]) := by kernel_rfl
attribute [simp] Try.underlying79
@[simp] theorem sz79 : sizeOf? Try.prog 79 = some 4 := by kernel_rfl
@[simp] theorem ag79 : agg? Try.prog 79 = some true := by kernel_rfl
@[simp] theorem zs79 : zeroVs? Try.prog 79 = some [.d (.int .u32 0), .d (.str ⟨#[]⟩), .d (.int .u8 0), .d (.bool false)] := by kernel_rfl
@[simp] theorem al79 (h : List Am.Obj) : allocV Try.prog h 79 = some (.ptr h.length 0, h ++ [.box [.d (.int .u32 0), .d (.str ⟨#[]⟩), .d (.int .u8 0), .d (.bool false)]]) := allocV_of zs79
@[simp] theorem zv79 : (zero? Try.prog 79).isSome = true := by kernel_rfl
@[simp] theorem ap79 : appElem? Try.prog 79 = some 4 := by kernel_rfl
@[simp] theorem bv79 (parts : List (Nat × V)) : buildV Try.prog 79 parts = (fillV (fun i => [(0, 1), (1, 1), (2, 1), (3, 1)][i]?) [.d (.int .u32 0), .d (.str ⟨#[]⟩), .d (.int .u8 0), .d (.bool false)] parts).map mkAgg := buildV_struct (by kernel_rfl) (by kernel_rfl)
@[simp] theorem fo79_0 : fieldOff? Try.prog 79 0 = some (0, 37) := by kernel_rfl
@[simp] theorem fo79_1 : fieldOff? Try.prog 79 1 = some (1, 9) := by kernel_rfl
@[simp] theorem fo79_2 : fieldOff? Try.prog 79 2 = some (2, 64) := by kernel_rfl
@[simp] theorem fo79_3 : fieldOff? Try.prog 79 3 = some (3, 4) := by kernel_rfl
@[simp] theorem fs79 : flatStruct Try.prog 79 = some [(0, 0), (1, 2), (2, 0), (3, 1)] := by kernel_rfl
@[simp] theorem mk79 : makeElem? Try.prog 79 = some (4, .agg [.int .u32 0, .str ⟨#[]⟩, .int .u8 0, .bool false]) := by kernel_rfl
@[simp] theorem zd79 : zeroD? Try.prog 79 = some (.agg [.int .u32 0, .str ⟨#[]⟩, .int .u8 0, .bool false]) := by kernel_rfl
attribute [simp] Try.underlying80
@[simp] theorem sz80 : sizeOf? Try.prog 80 = some 4 := by kernel_rfl
@[simp] theorem ag80 : agg? Try.prog 80 = some true := by kernel_rfl
@[simp] theorem zs80 : zeroVs? Try.prog 80 = some [.d (.int .u32 0), .d (.str ⟨#[]⟩), .d (.int .u8 0), .d (.bool false)] := by kernel_rfl
@[simp] theorem al80 (h : List Am.Obj) : allocV Try.prog h 80 = some (.ptr h.length 0, h ++ [.box [.d (.int .u32 0), .d (.str ⟨#[]⟩), .d (.int .u8 0), .d (.bool false)]]) := allocV_of zs80
@[simp] theorem zv80 : (zero? Try.prog 80).isSome = true := by kernel_rfl
@[simp] theorem ap80 : appElem? Try.prog 80 = some 4 := by kernel_rfl
@[simp] theorem bv80 (parts : List (Nat × V)) : buildV Try.prog 80 parts = (fillV (fun i => [(0, 1), (1, 1), (2, 1), (3, 1)][i]?) [.d (.int .u32 0), .d (.str ⟨#[]⟩), .d (.int .u8 0), .d (.bool false)] parts).map mkAgg := buildV_struct (by kernel_rfl) (by kernel_rfl)
@[simp] theorem fo80_0 : fieldOff? Try.prog 80 0 = some (0, 37) := by kernel_rfl
@[simp] theorem fo80_1 : fieldOff? Try.prog 80 1 = some (1, 9) := by kernel_rfl
@[simp] theorem fo80_2 : fieldOff? Try.prog 80 2 = some (2, 64) := by kernel_rfl
@[simp] theorem fo80_3 : fieldOff? Try.prog 80 3 = some (3, 4) := by kernel_rfl
@[simp] theorem fs80 : flatStruct Try.prog 80 = some [(0, 0), (1, 2), (2, 0), (3, 1)] := by kernel_rfl
@[simp] theorem mk80 : makeElem? Try.prog 80 = some (4, .agg [.int .u32 0, .str ⟨#[]⟩, .int .u8 0, .bool false]) := by kernel_rfl
@[simp] theorem zd80 : zeroD? Try.prog 80 = some (.agg [.int .u32 0, .str ⟨#[]⟩, .int .u8 0, .bool false]) := by kernel_rfl
attribute [simp] Try.underlying83
@[simp] theorem sz83 : sizeOf? Try.prog 83 = some 1 := by kernel_rfl
@[simp] theorem ag83 : agg? Try.prog 83 = some false := by kernel_rfl
attribute [simp] Try.underlying84
@[simp] theorem sz84 : sizeOf? Try.prog 84 = some 5 := by kernel_rfl
@[simp] theorem ag84 : agg? Try.prog 84 = some true := by kernel_rfl
@[simp] theorem zs84 : zeroVs? Try.prog 84 = some [.d .nilF, .d .nilF, .d .nilF, .d .nilF, .d .nilF] := by kernel_rfl
@[simp] theorem al84 (h : List Am.Obj) : allocV Try.prog h 84 = some (.ptr h.length 0, h ++ [.box [.d .nilF, .d .nilF, .d .nilF, .d .nilF, .d .nilF]]) := allocV_of zs84
@[simp] theorem zv84 : (zero? Try.prog 84).isSome = true := by kernel_rfl
@[simp] theorem ap84 : appElem? Try.prog 84 = some 5 := by kernel_rfl
@[simp] theorem bv84 (parts : List (Nat × V)) : buildV Try.prog 84 parts = (fillV (fun i => some (i * 1, 1)) [.d .nilF, .d .nilF, .d .nilF, .d .nilF, .d .nilF] parts).map mkAgg := buildV_array (by kernel_rfl) Try.underlying84 (by kernel_rfl)
@[simp] theorem mk84 : makeElem? Try.prog 84 = some (5, .agg [.nilF, .nilF, .nilF, .nilF, .nilF]) := by kernel_rfl
@[simp] theorem zd84 : zeroD? Try.prog 84 = some (.agg [.nilF, .nilF, .nilF, .nilF, .nilF]) := by kernel_rfl
attribute [simp] Try.underlying91
@[simp] theorem sz91 : sizeOf? Try.prog 91 = some 1 := by kernel_rfl
@[simp] theorem ag91 : agg? Try.prog 91 = some false := by kernel_rfl
@[simp] theorem zs91 : zeroVs? Try.prog 91 = some [.d .nilP] := by kernel_rfl
@[simp] theorem al91 (h : List Am.Obj) : allocV Try.prog h 91 = some (.ptr h.length 0, h ++ [.box [.d .nilP]]) := allocV_of zs91
@[simp] theorem zv91 : (zero? Try.prog 91).isSome = true := by kernel_rfl
@[simp] theorem ap91 : appElem? Try.prog 91 = some 1 := by kernel_rfl
@[simp] theorem mk91 : makeElem? Try.prog 91 = some (1, .nilP) := by kernel_rfl
@[simp] theorem zd91 : zeroD? Try.prog 91 = some (.nilP) := by kernel_rfl
attribute [simp] Try.underlying92
@[simp] theorem sz92 : sizeOf? Try.prog 92 = some 2 := by kernel_rfl
@[simp] theorem ag92 : agg? Try.prog 92 = some true := by kernel_rfl
@[simp] theorem zs92 : zeroVs? Try.prog 92 = some [.nilS, .d (.int .i64 0)] := by kernel_rfl
@[simp] theorem al92 (h : List Am.Obj) : allocV Try.prog h 92 = some (.ptr h.length 0, h ++ [.box [.nilS, .d (.int .i64 0)]]) := allocV_of zs92
@[simp] theorem zv92 : (zero? Try.prog 92).isSome = true := by kernel_rfl
@[simp] theorem ap92 : appElem? Try.prog 92 = some 2 := by kernel_rfl
@[simp] theorem bv92 (parts : List (Nat × V)) : buildV Try.prog 92 parts = (fillV (fun i => [(0, 1), (1, 1)][i]?) [.nilS, .d (.int .i64 0)] parts).map mkAgg := buildV_struct (by kernel_rfl) (by kernel_rfl)
@[simp] theorem fo92_0 : fieldOff? Try.prog 92 0 = some (0, 44) := by kernel_rfl
@[simp] theorem fo92_1 : fieldOff? Try.prog 92 1 = some (1, 50) := by kernel_rfl
@[simp] theorem mk92 : makeElem? Try.prog 92 = some (2, .agg [.list [], .int .i64 0]) := by kernel_rfl
@[simp] theorem zd92 : zeroD? Try.prog 92 = some (.agg [.list [], .int .i64 0]) := by kernel_rfl
attribute [simp] Try.underlying93
@[simp] theorem sz93 : sizeOf? Try.prog 93 = some 2 := by kernel_rfl
@[simp] theorem ag93 : agg? Try.prog 93 = some true := by kernel_rfl
@[simp] theorem zs93 : zeroVs? Try.prog 93 = some [.nilS, .d (.int .i64 0)] := by kernel_rfl
@[simp] theorem al93 (h : List Am.Obj) : allocV Try.prog h 93 = some (.ptr h.length 0, h ++ [.box [.nilS, .d (.int .i64 0)]]) := allocV_of zs93
@[simp] theorem zv93 : (zero? Try.prog 93).isSome = true := by kernel_rfl
@[simp] theorem ap93 : appElem? Try.prog 93 = some 2 := by kernel_rfl
@[simp] theorem bv93 (parts : List (Nat × V)) : buildV Try.prog 93 parts = (fillV (fun i => [(0, 1), (1, 1)][i]?) [.nilS, .d (.int .i64 0)] parts).map mkAgg := buildV_struct (by kernel_rfl) (by kernel_rfl)
@[simp] theorem fo93_0 : fieldOff? Try.prog 93 0 = some (0, 44) := by kernel_rfl
@[simp] theorem fo93_1 : fieldOff? Try.prog 93 1 = some (1, 50) := by kernel_rfl
@[simp] theorem mk93 : makeElem? Try.prog 93 = some (2, .agg [.list [], .int .i64 0]) := by kernel_rfl
@[simp] theorem zd93 : zeroD? Try.prog 93 = some (.agg [.list [], .int .i64 0]) := by kernel_rfl
attribute [simp] Try.underlying98
@[simp] theorem sz98 : sizeOf? Try.prog 98 = some 1 := by kernel_rfl
@[simp] theorem ag98 : agg? Try.prog 98 = some false := by kernel_rfl
@[simp] theorem zs98 : zeroVs? Try.prog 98 = some [.d .nilP] := by kernel_rfl
@[simp] theorem al98 (h : List Am.Obj) : allocV Try.prog h 98 = some (.ptr h.length 0, h ++ [.box [.d .nilP]]) := allocV_of zs98
@[simp] theorem zv98 : (zero? Try.prog 98).isSome = true := by kernel_rfl
@[simp] theorem ap98 : appElem? Try.prog 98 = some 1 := by kernel_rfl
@[simp] theorem mk98 : makeElem? Try.prog 98 = some (1, .nilP) := by kernel_rfl
@[simp] theorem zd98 : zeroD? Try.prog 98 = some (.nilP) := by kernel_rfl
attribute [simp] Try.underlying99
@[simp] theorem sz99 : sizeOf? Try.prog 99 = some 2 := by kernel_rfl
@[simp] theorem ag99 : agg? Try.prog 99 = some true := by kernel_rfl
@[simp] theorem zs99 : zeroVs? Try.prog 99 = some [.nilS, .d (.int .i64 0)] := by kernel_rfl
@[simp] theorem al99 (h : List Am.Obj) : allocV Try.prog h 99 = some (.ptr h.length 0, h ++ [.box [.nilS, .d (.int .i64 0)]]) := allocV_of zs99
@[simp] theorem zv99 : (zero? Try.prog 99).isSome = true := by kernel_rfl
@[simp] theorem ap99 : appElem? Try.prog 99 = some 2 := by kernel_rfl
@[simp] theorem bv99 (parts : List (Nat × V)) : buildV Try.prog 99 parts = (fillV (fun i => [(0, 1), (1, 1)][i]?) [.nilS, .d (.int .i64 0)] parts).map mkAgg := buildV_struct (by kernel_rfl) (by kernel_rfl)
@[simp] theorem fo99_0 : fieldOff? Try.prog 99 0 = some (0, 44) := by kernel_rfl
@[simp] theorem fo99_1 : fieldOff? Try.prog 99 1 = some (1, 3) := by kernel_rfl
@[simp] theorem mk99 : makeElem? Try.prog 99 = some (2, .agg [.list [], .int .i64 0]) := by kernel_rfl
@[simp] theorem zd99 : zeroD? Try.prog 99 = some (.agg [.list [], .int .i64 0]) := by kernel_rfl
attribute [simp] Try.underlying100
@[simp] theorem sz100 : sizeOf? Try.prog 100 = some 2 := by kernel_rfl
@[simp] theorem ag100 : agg? Try.prog 100 = some true := by kernel_rfl
@[simp] theorem zs100 : zeroVs? Try.prog 100 = some [.nilS, .d (.int .i64 0)] := by kernel_rfl
@[simp] theorem al100 (h : List Am.Obj) : allocV Try.prog h 100 = some (.ptr h.length 0, h ++ [.box [.nilS, .d (.int .i64 0)]]) := allocV_of zs100
@[simp] theorem zv100 : (zero? Try.prog 100).isSome = true := by kernel_rfl
@[simp] theorem ap100 : appElem? Try.prog 100 = some 2 := by kernel_rfl
@[simp] theorem bv100 (parts : List (Nat × V)) : buildV Try.prog 100 parts = (fillV (fun i => [(0, 1), (1, 1)][i]?) [.nilS, .d (.int .i64 0)] parts).map mkAgg := buildV_struct (by kernel_rfl) (by kernel_rfl)
@[simp] theorem fo100_0 : fieldOff? Try.prog 100 0 = some (0, 44) := by kernel_rfl
@[simp] theorem fo100_1 : fieldOff? Try.prog 100 1 = some (1, 3) := by kernel_rfl
@[simp] theorem mk100 : makeElem? Try.prog 100 = some (2, .agg [.list [], .int .i64 0]) := by kernel_rfl
@[simp] theorem zd100 : zeroD? Try.prog 100 = some (.agg [.list [], .int .i64 0]) := by kernel_rfl
attribute [simp] Try.underlying102
@[simp] theorem sz102 : sizeOf? Try.prog 102 = some 3 := by kernel_rfl
@[simp] theorem ag102 : agg? Try.prog 102 = some true := by kernel_rfl
@[simp] theorem zs102 : zeroVs? Try.prog 102 = some [.d (.int .u8 0), .d (.int .i64 0), .d (.str ⟨#[]⟩)] := by kernel_rfl
@[simp] theorem al102 (h : List Am.Obj) : allocV Try.prog h 102 = some (.ptr h.length 0, h ++ [.box [.d (.int .u8 0), .d (.int .i64 0), .d (.str ⟨#[]⟩)]]) := allocV_of zs102
@[simp] theorem zv102 : (zero? Try.prog 102).isSome = true := by kernel_rfl
@[simp] theorem ap102 : appElem? Try.prog 102 = some 3 := by kernel_rfl
@[simp] theorem bv102 (parts : List (Nat × V)) : buildV Try.prog 102 parts = (fillV (fun i => [(0, 1), (1, 1), (2, 1)][i]?) [.d (.int .u8 0), .d (.int .i64 0), .d (.str ⟨#[]⟩)] parts).map mkAgg := buildV_struct (by kernel_rfl) (by kernel_rfl)
@[simp] theorem fo102_0 : fieldOff? Try.prog 102 0 = some (0, 64) := by kernel_rfl
@[simp] theorem fo102_1 : fieldOff? Try.prog 102 1 = some (1, 2) := by kernel_rfl
@[simp] theorem fo102_2 : fieldOff? Try.prog 102 2 = some (2, 9) := by kernel_rfl
@[simp] theorem fs102 : flatStruct Try.prog 102 = some [(0, 0), (1, 0), (2, 2)] := by kernel_rfl
@[simp] theorem mk102 : makeElem? Try.prog 102 = some (3, .agg [.int .u8 0, .int .i64 0, .str ⟨#[]⟩]) := by kernel_rfl
@[simp] theorem zd102 : zeroD? Try.prog 102 = some (.agg [.int .u8 0, .int .i64 0, .str ⟨#[]⟩]) := by kernel_rfl
attribute [simp] Try.underlying103
@[simp] theorem sz103 : sizeOf? Try.prog 103 = some 3 := by kernel_rfl
@[simp] theorem ag103 : agg? Try.prog 103 = some true := by kernel_rfl
@[simp] theorem zs103 : zeroVs? Try.prog 103 = some [.d (.int .u8 0), .d (.int .i64 0), .d (.str ⟨#[]⟩)] := by kernel_rfl
@[simp] theorem al103 (h : List Am.Obj) : allocV Try.prog h 103 = some (.ptr h.length 0, h ++ [.box [.d (.int .u8 0), .d (.int .i64 0), .d (.str ⟨#[]⟩)]]) := allocV_of zs103
@[simp] theorem zv103 : (zero? Try.prog 103).isSome = true := by kernel_rfl
@[simp] theorem ap103 : appElem? Try.prog 103 = some 3 := by kernel_rfl
@[simp] theorem bv103 (parts : List (Nat × V)) : buildV Try.prog 103 parts = (fillV (fun i => [(0, 1), (1, 1), (2, 1)][i]?) [.d (.int .u8 0), .d (.int .i64 0), .d (.str ⟨#[]⟩)] parts).map mkAgg := buildV_struct (by kernel_rfl) (by kernel_rfl)
@[simp] theorem fo103_0 : fieldOff? Try.prog 103 0 = some (0, 64) := by kernel_rfl
@[simp] theorem fo103_1 : fieldOff? Try.prog 103 1 = some (1, 2) := by kernel_rfl
@[simp] theorem fo103_2 : fieldOff? Try.prog 103 2 = some (2, 9) := by kernel_rfl
@[simp] theorem fs103 : flatStruct Try.prog 103 = some [(0, 0), (1, 0), (2, 2)] := by kernel_rfl
@[simp] theorem mk103 : makeElem? Try.prog 103 = some (3, .agg [.int .u8 0, .int .i64 0, .str ⟨#[]⟩]) := by kernel_rfl
@[simp] theorem zd103 : zeroD? Try.prog 103 = some (.agg [.int .u8 0, .int .i64 0, .str ⟨#[]⟩]) := by kernel_rfl
attribute [simp] Try.underlying105
@[simp] theorem sz105 : sizeOf? Try.prog 105 = some 1 := by kernel_rfl
@[simp] theorem ag105 : agg? Try.prog 105 = some false := by kernel_rfl
@[simp] theorem zs105 : zeroVs? Try.prog 105 = some [.d .nilI] := by kernel_rfl
@[simp] theorem al105 (h : List Am.Obj) : allocV Try.prog h 105 = some (.ptr h.length 0, h ++ [.box [.d .nilI]]) := allocV_of zs105
@[simp] theorem zv105 : (zero? Try.prog 105).isSome = true := by kernel_rfl
@[simp] theorem ap105 : appElem? Try.prog 105 = some 1 := by kernel_rfl
@[simp] theorem mk105 : makeElem? Try.prog 105 = some (1, .nilI) := by kernel_rfl
@[simp] theorem zd105 : zeroD? Try.prog 105 = some (.nilI) := by kernel_rfl
attribute [simp] Try.underlying109
@[simp] theorem sz109 : sizeOf? Try.prog 109 = some 1 := by kernel_rfl
@[simp] theorem ag109 : agg? Try.prog 109 = some false := by kernel_rfl
@[simp] theorem zs109 : zeroVs? Try.prog 109 = some [.nilS] := by kernel_rfl
@[simp] theorem al109 (h : List Am.Obj) : allocV Try.prog h 109 = some (.ptr h.length 0, h ++ [.box [.nilS]]) := allocV_of zs109
@[simp] theorem zv109 : (zero? Try.prog 109).isSome = true := by kernel_rfl
@[simp] theorem ap109 : appElem? Try.prog 109 = some 1 := by kernel_rfl
@[simp] theorem mk109 : makeElem? Try.prog 109 = some (1, .list []) := by kernel_rfl
@[simp] theorem zd109 : zeroD? Try.prog 109 = some (.list []) := by kernel_rfl
@[simp] theorem es109 : elemSize Try.prog 109 = 1 := by kernel_rfl
attribute [simp] Try.underlying110
@[simp] theorem sz110 : sizeOf? Try.prog 110 = some 1 := by kernel_rfl
@[simp] theorem ag110 : agg? Try.prog 110 = some false := by kernel_rfl
attribute [simp] Try.underlying111
@[simp] theorem sz111 : sizeOf? Try.prog 111 = some 1 := by kernel_rfl
@[simp] theorem ag111 : agg? Try.prog 111 = some false := by kernel_rfl
attribute [simp] Try.underlying112
@[simp] theorem sz112 : sizeOf? Try.prog 112 = some 1 := by kernel_rfl
@[simp] theorem ag112 : agg? Try.prog 112 = some false := by kernel_rfl
attribute [simp] Try.underlying118
@[simp] theorem sz118 : sizeOf? Try.prog 118 = some 1 := by kernel_rfl
@[simp] theorem ag118 : agg? Try.prog 118 = some false := by kernel_rfl
attribute [simp] Try.underlying122
@[simp] theorem sz122 : sizeOf? Try.prog 122 = some 1 := by kernel_rfl
@[simp] theorem ag122 : agg? Try.prog 122 = some false := by kernel_rfl
@[simp] theorem zs122 : zeroVs? Try.prog 122 = some [.d (.int .u64 0)] := by kernel_rfl
@[simp] theorem al122 (h : List Am.Obj) : allocV Try.prog h 122 = some (.ptr h.length 0, h ++ [.box [.d (.int .u64 0)]]) := allocV_of zs122
@[simp] theorem zv122 : (zero? Try.prog 122).isSome = true := by kernel_rfl
@[simp] theorem ap122 : appElem? Try.prog 122 = some 1 := by kernel_rfl
@[simp] theorem mk122 : makeElem? Try.prog 122 = some (1, .int .u64 0) := by kernel_rfl
@[simp] theorem zd122 : zeroD? Try.prog 122 = some (.int .u64 0) := by kernel_rfl
attribute [simp] Try.underlying123
@[simp] theorem sz123 : sizeOf? Try.prog 123 = some 1 := by kernel_rfl
@[simp] theorem ag123 : agg? Try.prog 123 = some false := by kernel_rfl
attribute [simp] Try.underlying130
@[simp] theorem sz130 : sizeOf? Try.prog 130 = some 1 := by kernel_rfl
@[simp] theorem ag130 : agg? Try.prog 130 = some false := by kernel_rfl
attribute [simp] Try.underlying135
@[simp] theorem sz135 : sizeOf? Try.prog 135 = some 1 := by kernel_rfl
@[simp] theorem ag135 : agg? Try.prog 135 = some false := by kernel_rfl
attribute [simp] Try.underlying137
@[simp] theorem sz137 : sizeOf? Try.prog 137 = some 1 := by kernel_rfl
@[simp] theorem ag137 : agg? Try.prog 137 = some false := by kernel_rfl
@[simp] theorem zs137 : zeroVs? Try.prog 137 = some [.nilS] := by kernel_rfl
@[simp] theorem al137 (h : List Am.Obj) : allocV Try.prog h 137 = some (.ptr h.length 0, h ++ [.box [.nilS]]) := allocV_of zs137
@[simp] theorem zv137 : (zero? Try.prog 137).isSome = true := by kernel_rfl
@[simp] theorem ap137 : appElem? Try.prog 137 = some 1 := by kernel_rfl
@[simp] theorem mk137 : makeElem? Try.prog 137 = some (1, .list []) := by kernel_rfl
@[simp] theorem zd137 : zeroD? Try.prog 137 = some (.list []) := by kernel_rfl
@[simp] theorem es137 : elemSize Try.prog 137 = 1 := by kernel_rfl
attribute [simp] Try.underlying138
@[simp] theorem sz138 : sizeOf? Try.prog 138 = some 1 := by kernel_rfl
@[simp] theorem ag138 : agg? Try.prog 138 = some false := by kernel_rfl
attribute [simp] Try.underlying144
@[simp] theorem sz144 : sizeOf? Try.prog 144 = some 1 := by kernel_rfl
@[simp] theorem ag144 : agg? Try.prog 144 = some false := by kernel_rfl
attribute [simp] Try.underlying146
@[simp] theorem sz146 : sizeOf? Try.prog 146 = some 1 := by kernel_rfl
@[simp] theorem ag146 : agg? Try.prog 146 = some false := by kernel_rfl
attribute [simp] Try.underlying148
@[simp] theorem sz148 : sizeOf? Try.prog 148 = some 1 := by kernel_rfl
@[simp] theorem ag148 : agg? Try.prog 148 = some false := by kernel_rfl
attribute [simp] Try.underlying150
@[simp] theorem sz150 : sizeOf? Try.prog 150 = some 1 := by kernel_rfl
@[simp] theorem ag150 : agg? Try.prog 150 = some false := by kernel_rfl
attribute [simp] Try.underlying152
@[simp] theorem sz152 : sizeOf? Try.prog 152 = some 1 := by kernel_rfl
@[simp] theorem ag152 : agg? Try.prog 152 = some false := by kernel_rfl
attribute [simp] Try.underlying157
@[simp] theorem sz157 : sizeOf? Try.prog 157 = some 1 := by kernel_rfl
@[simp] theorem ag157 : agg? Try.prog 157 = some false := by kernel_rfl
attribute [simp] Try.underlying159
@[simp] theorem sz159 : sizeOf? Try.prog 159 = some 1 := by kernel_rfl
@[simp] theorem ag159 : agg? Try.prog 159 = some false := by kernel_rfl
attribute [simp] Try.underlying162
@[simp] theorem sz162 : sizeOf? Try.prog 162 = some 1 := by kernel_rfl
@[simp] theorem ag162 : agg? Try.prog 162 = some false := by kernel_rfl
attribute [simp] Try.underlying164
@[simp] theorem sz164 : sizeOf? Try.prog 164 = some 1 := by kernel_rfl
@[simp] theorem ag164 : agg? Try.prog 164 = some false := by kernel_rfl
attribute [simp] Try.underlying167
@[simp] theorem sz167 : sizeOf? Try.prog 167 = some 1 := by kernel_rfl
@[simp] theorem ag167 : agg? Try.prog 167 = some false := by kernel_rfl
@[simp] theorem zs167 : zeroVs? Try.prog 167 = some [.d (.int .i64 0)] := by kernel_rfl
@[simp] theorem al167 (h : List Am.Obj) : allocV Try.prog h 167 = some (.ptr h.length 0, h ++ [.box [.d (.int .i64 0)]]) := allocV_of zs167
@[simp] theorem zv167 : (zero? Try.prog 167).isSome = true := by kernel_rfl
@[simp] theorem ap167 : appElem? Try.prog 167 = some 1 := by kernel_rfl
@[simp] theorem mk167 : makeElem? Try.prog 167 = some (1, .int .i64 0) := by kernel_rfl
@[simp] theorem zd167 : zeroD? Try.prog 167 = some (.int .i64 0) := by kernel_rfl
attribute [simp] Try.underlying168
@[simp] theorem sz168 : sizeOf? Try.prog 168 = some 1 := by kernel_rfl
@[simp] theorem ag168 : agg? Try.prog 168 = some false := by kernel_rfl
attribute [simp] Try.underlying174
@[simp] theorem sz174 : sizeOf? Try.prog 174 = some 1 := by kernel_rfl
@[simp] theorem ag174 : agg? Try.prog 174 = some false := by kernel_rfl
attribute [simp] Try.underlying181
@[simp] theorem sz181 : sizeOf? Try.prog 181 = some 1 := by kernel_rfl
@[simp] theorem ag181 : agg? Try.prog 181 = some false := by kernel_rfl
@[simp] theorem zs181 : zeroVs? Try.prog 181 = some [.d (.int .u64 0)] := by kernel_rfl
@[simp] theorem al181 (h : List Am.Obj) : allocV Try.prog h 181 = some (.ptr h.length 0, h ++ [.box [.d (.int .u64 0)]]) := allocV_of zs181
@[simp] theorem zv181 : (zero? Try.prog 181).isSome = true := by kernel_rfl
@[simp] theorem ap181 : appElem? Try.prog 181 = some 1 := by kernel_rfl
@[simp] theorem mk181 : makeElem? Try.prog 181 = some (1, .int .u64 0) := by kernel_rfl
@[simp] theorem zd181 : zeroD? Try.prog 181 = some (.int .u64 0) := by kernel_rfl
attribute [simp] Try.underlying184
@[simp] theorem sz184 : sizeOf? Try.prog 184 = some 1 := by kernel_rfl
@[simp] theorem ag184 : agg? Try.prog 184 = some false := by kernel_rfl
@[simp] theorem zs184 : zeroVs? Try.prog 184 = some [.d .nilP] := by kernel_rfl
@[simp] theorem al184 (h : List Am.Obj) : allocV Try.prog h 184 = some (.ptr h.length 0, h ++ [.box [.d .nilP]]) := allocV_of zs184
@[simp] theorem zv184 : (zero? Try.prog 184).isSome = true := by kernel_rfl
@[simp] theorem ap184 : appElem? Try.prog 184 = some 1 := by kernel_rfl
@[simp] theorem mk184 : makeElem? Try.prog 184 = some (1, .nilP) := by kernel_rfl
@[simp] theorem zd184 : zeroD? Try.prog 184 = some (.nilP) := by kernel_rfl
attribute [simp] Try.underlying188
@[simp] theorem sz188 : sizeOf? Try.prog 188 = some 1 := by kernel_rfl
@[simp] theorem ag188 : agg? Try.prog 188 = some false := by kernel_rfl
@[simp] theorem zs188 : zeroVs? Try.prog 188 = some [.d .nilP] := by kernel_rfl
@[simp] theorem al188 (h : List Am.Obj) : allocV Try.prog h 188 = some (.ptr h.length 0, h ++ [.box [.d .nilP]]) := allocV_of zs188
@[simp] theorem zv188 : (zero? Try.prog 188).isSome = true := by kernel_rfl
@[simp] theorem ap188 : appElem? Try.prog 188 = some 1 := by kernel_rfl
@[simp] theorem mk188 : makeElem? Try.prog 188 = some (1, .nilP) := by kernel_rfl
@[simp] theorem zd188 : zeroD? Try.prog 188 = some (.nilP) := by kernel_rfl
attribute [simp] Try.underlying189
@[simp] theorem sz189 : sizeOf? Try.prog 189 = some 1 := by kernel_rfl
@[simp] theorem ag189 : agg? Try.prog 189 = some false := by kernel_rfl
/-- What each loop keeps. -/
def K : Keeps := fun f b => match f, b with
  | 4, 0 => some [(2, 0), (3, 0), (7, 0), (8, 0)]
  | 10, 0 => some [(0, 0), (1, 0), (5, 0), (6, 0), (8, 0), (9, 0), (11, 0)]
  | 10, 2 => some [(0, 0), (1, 0), (5, 0), (6, 0), (8, 0), (12, 0)]
  | 14, 0 => some [(1, 0), (3, 0)]
  | 14, 2 => some [(1, 0), (4, 0)]
  | 15, 0 => some [(0, 0), (1, 0), (5, 0)]
  | 16, 0 => some [(2, 0), (3, 0), (4, 0), (7, 0), (8, 1), (16, 0), (17, 0), (18, 0)]
  | 17, 0 => some [(1, 0), (2, 0), (3, 0), (4, 0), (9, 1), (10, 0)]
  | 18, 0 => some [(1, 0), (3, 0)]
  | 18, 2 => some [(1, 0), (3, 0), (4, 0), (5, 0), (6, 0)]
  | 18, 4 => some [(1, 0), (7, 0), (8, 0)]
  | 18, 6 => some [(1, 0), (7, 0), (8, 0), (9, 0), (10, 0)]
  | 18, 8 => some [(1, 0), (7, 0), (8, 0), (9, 0), (10, 0), (11, 0)]
  | 19, 0 => some [(1, 0), (2, 0), (5, 0)]
  | 20, 0 => some [(1, 0), (2, 0), (4, 0), (6, 0), (7, 0)]
  | 20, 2 => some [(1, 0), (2, 0), (4, 0), (8, 0), (9, 0)]
  | 20, 4 => some [(1, 0), (2, 0), (4, 0), (8, 0), (9, 0), (10, 0), (11, 0)]
  | 23, 1 => some [(1, 0), (6, 1), (7, 0)]
  | 23, 3 => some [(1, 0), (6, 1), (8, 0)]
  | 23, 5 => some [(1, 0), (6, 1), (9, 0), (10, 0)]
  | 23, 7 => some [(1, 0), (6, 1), (11, 0), (12, 1), (13, 0)]
  | 23, 9 => some [(1, 0), (6, 1), (11, 0), (12, 1), (14, 0)]
  | 23, 11 => some [(1, 0), (17, 0), (18, 1), (19, 0)]
  | 24, 0 => some [(0, 0), (4, 1), (11, 0)]
  | 25, 0 => some [(0, 0), (4, 1), (5, 0)]
  | 26, 2 => some [(0, 0), (1, 0), (6, 0), (7, 1), (8, 0)]
  | 28, 0 => some [(0, 0), (1, 0), (5, 0)]
  | 30, 0 => some [(0, 0), (1, 0), (5, 3), (6, 0)]
  | 31, 0 => some [(0, 0), (1, 0), (26, 0), (27, 0), (28, 0)]
  | 31, 2 => some [(0, 0), (8, 0), (9, 1), (10, 1), (11, 1), (47, 0), (48, 0), (49, 0)]
  | 32, 0 => some [(0, 0), (3, 1), (4, 0)]
  | 34, 0 => some [(0, 0), (1, 0), (5, 0)]
  | 35, 0 => some [(0, 0), (3, 3), (4, 0)]
  | 36, 0 => some [(1, 0), (3, 0), (4, 0)]
  | 37, 0 => some [(1, 0), (3, 0)]
  | 38, 0 => some [(1, 0), (3, 0)]
  | 39, 0 => some [(1, 0), (2, 0), (5, 0)]
  | 40, 0 => some [(0, 0), (3, 0)]
  | 41, 0 => some [(3, 1), (6, 0), (7, 0), (8, 0)]
  | 42, 0 => some [(3, 1), (4, 0), (7, 0), (8, 0), (9, 0)]
  | 43, 0 => some [(0, 0), (3, 1), (4, 0)]
  | 43, 2 => some [(0, 0), (3, 1), (4, 0), (5, 0)]
  | 44, 0 => some [(0, 0), (3, 0), (4, 0), (18, 0), (19, 0), (20, 0)]
  | 44, 2 => some [(3, 0), (4, 0), (7, 0), (47, 0), (48, 0), (49, 0)]
  | 45, 0 => some [(3, 0), (4, 0), (16, 0), (17, 0), (18, 0)]
  | 48, 0 => some [(0, 0), (3, 1), (4, 0)]
  | 48, 2 => some [(0, 0), (3, 1), (4, 0), (5, 1), (6, 0), (7, 0)]
  | 49, 0 => some [(0, 0), (1, 0), (5, 0)]
  | 50, 0 => some [(0, 0), (1, 0), (6, 1), (7, 0), (8, 0)]
  | 50, 2 => some [(0, 0), (1, 0), (6, 1), (7, 0), (8, 0), (9, 0)]
  | 51, 0 => some [(0, 0), (3, 0), (4, 0)]
  | 51, 2 => some [(0, 0), (3, 0), (4, 0)]
  | 53, 0 => some [(0, 0), (1, 0), (5, 1)]
  | 54, 0 => some [(0, 0), (1, 0), (5, 0), (6, 1)]
  | 54, 2 => some [(0, 0), (5, 0), (6, 1), (9, 1), (104, 0), (105, 0), (106, 0)]
  | 55, 0 => some [(5, 0), (7, 1), (36, 0), (37, 0), (38, 0)]
  | 57, 0 => some [(0, 0), (1, 0), (12, 0), (13, 0)]
  | 58, 1 => some [(7, 1), (21, 0), (23, 0), (24, 0)]
  | 58, 3 => some [(0, 0), (2, 0), (7, 1), (8, 0)]
  | 58, 5 => some [(0, 0), (2, 0), (7, 1), (9, 0), (10, 0)]
  | 58, 7 => some [(0, 0), (2, 0), (7, 1)]
  | 58, 9 => some [(0, 0), (2, 0), (7, 1), (11, 0), (12, 0), (13, 0)]
  | 58, 11 => some [(0, 0), (2, 0), (7, 1), (14, 0), (15, 1), (16, 0)]
  | 58, 13 => some [(0, 0), (7, 1), (14, 0), (15, 1), (19, 0), (20, 0)]
  | 64, 0 => some [(3, 0), (11, 0), (12, 0), (13, 0)]
  | 65, 0 => some [(0, 0), (3, 0), (4, 0), (5, 1), (20, 0), (21, 0), (22, 0)]
  | 67, 0 => some [(0, 0), (1, 0), (2, 0), (9, 0), (12, 0), (56, 0), (57, 0), (58, 0)]
  | 67, 2 => some [(1000015, 0), (17, 0), (79, 0), (80, 0), (81, 0)]
  | 68, 0 => some [(3, 0), (5, 0), (6, 0)]
  | 69, 0 => some [(0, 0), (1, 0), (5, 0)]
  | 71, 0 => some [(0, 0), (3, 1)]
  | 73, 0 => some [(0, 0), (1, 0), (6, 0), (7, 0), (8, 0)]
  | 75, 0 => some [(0, 0), (3, 0), (4, 0)]
  | 76, 0 => some [(3, 0), (6, 0), (7, 0), (8, 0)]
  | 79, 0 => some [(7, 0), (8, 0)]
  | 85, 0 => some [(0, 0), (1, 0), (7, 0), (8, 0)]
  | 86, 0 => some [(1, 0), (6, 0), (36, 0), (37, 0), (38, 0)]
  | 86, 2 => some [(1, 0), (6, 0), (7, 0), (8, 0), (9, 0), (36, 0), (37, 0), (38, 0)]
  | 87, 0 => some [(0, 0), (5, 1), (6, 1), (9, 0), (10, 0), (11, 0)]
  | 91, 0 => some [(0, 0), (3, 0)]
  | 91, 2 => some [(0, 0), (3, 0), (4, 0), (5, 0)]
  | 92, 0 => some [(0, 0), (1, 0), (6, 0), (7, 0), (8, 0)]
  | 93, 0 => some [(7, 0), (8, 0)]
  | 94, 0 => some [(0, 0), (2, 0), (9, 0), (56, 0), (57, 0)]
  | 94, 2 => some [(0, 0), (2, 0), (9, 0), (10, 0), (11, 0), (56, 0), (57, 0)]
  | 95, 1 => some [(8, 1), (10, 0), (30, 0), (31, 0), (32, 0)]
  | 95, 3 => some [(8, 1), (14, 0), (52, 0), (53, 0), (54, 0)]
  | 95, 5 => some [(8, 1), (18, 0), (73, 0), (74, 0), (75, 0)]
  | 96, 0 => some [(0, 0), (5, 1), (6, 1), (7, 0), (8, 0)]
  | 99, 0 => some [(0, 0), (3, 0)]
  | 99, 2 => some [(0, 0), (3, 0), (4, 0), (5, 0)]
  | 103, 0 => some [(5, 0), (8, 0), (9, 0), (10, 0)]
  | 106, 0 => some [(0, 0), (5, 0)]
  | 106, 2 => some [(0, 0), (5, 0), (6, 0), (7, 0)]
  | 107, 0 => some [(0, 0), (1, 0), (2, 0), (8, 1), (9, 0)]
  | 107, 2 => some [(0, 0), (1, 0), (2, 0), (8, 1), (9, 0), (10, 0), (11, 0)]
  | 107, 4 => some [(0, 0), (8, 1), (13, 0)]
  | 108, 0 => some [(0, 0), (1, 0), (2, 0), (3, 0), (8, 0), (9, 0)]
  | 112, 0 => some [(12, 0), (15, 1), (85, 0), (86, 0), (87, 0)]
  | 113, 0 => some [(0, 0), (6, 0), (7, 0), (8, 0), (9, 0)]
  | 114, 0 => some [(0, 0), (1, 0), (2, 0), (3, 0), (8, 0), (9, 0)]
  | 118, 0 => some [(0, 0), (1, 0), (2, 0), (6, 0)]
  | 118, 2 => some [(0, 0), (1, 0), (2, 0), (6, 0), (7, 0)]
  | 119, 0 => some [(0, 0), (6, 0), (7, 0), (8, 0), (9, 0)]
  | 119, 2 => some [(0, 0), (6, 0), (7, 0), (10, 0)]
  | 120, 0 => some [(0, 0), (1, 0), (6, 0), (7, 0), (8, 0), (9, 0)]
  | 122, 0 => some [(0, 0), (6, 0), (7, 0)]
  | 123, 0 => some [(0, 0), (1, 0), (2, 0), (7, 0), (8, 0)]
  | 123, 2 => some [(0, 0), (1, 0), (2, 0), (7, 0), (8, 0)]
  | 123, 4 => some [(0, 0), (1, 0), (2, 0), (7, 0), (8, 0), (9, 0)]
  | 123, 6 => some [(0, 0), (1, 0), (2, 0), (7, 0), (8, 0), (10, 0)]
  | 124, 0 => some [(0, 0), (1, 0), (9, 0), (10, 0)]
  | 124, 2 => some [(0, 0), (1, 0), (9, 0), (10, 0)]
  | 124, 4 => some [(0, 0), (1, 0), (9, 0), (10, 0)]
  | 125, 0 => some [(0, 0), (1, 0), (10, 0), (11, 0)]
  | 125, 2 => some [(0, 0), (1, 0), (10, 0), (11, 0)]
  | 125, 4 => some [(0, 0), (1, 0), (10, 0), (11, 0)]
  | 125, 6 => some [(0, 0), (1, 0), (10, 0), (11, 0)]
  | 125, 8 => some [(0, 0), (1, 0), (10, 0), (11, 0)]
  | 128, 0 => some [(0, 0), (11, 1), (45, 0), (46, 0), (47, 0)]
  | 129, 0 => some [(0, 0), (1, 0), (2, 0), (6, 0)]
  | 129, 2 => some [(0, 0), (1, 0), (2, 0), (6, 0), (7, 0)]
  | 130, 0 => some [(0, 0), (6, 0), (7, 0), (8, 0), (9, 0)]
  | 130, 2 => some [(0, 0), (6, 0), (7, 0), (10, 0)]
  | 131, 0 => some [(0, 0), (1, 0), (6, 0), (7, 0), (8, 0), (9, 0)]
  | 133, 0 => some [(0, 0), (6, 0), (7, 0)]
  | 134, 0 => some [(0, 0), (1, 0), (2, 0), (7, 0), (8, 0)]
  | 134, 2 => some [(0, 0), (1, 0), (2, 0), (7, 0), (8, 0)]
  | 134, 4 => some [(0, 0), (1, 0), (2, 0), (7, 0), (8, 0), (9, 0)]
  | 134, 6 => some [(0, 0), (1, 0), (2, 0), (7, 0), (8, 0), (10, 0)]
  | 135, 0 => some [(0, 0), (1, 0), (9, 0), (10, 0)]
  | 135, 2 => some [(0, 0), (1, 0), (9, 0), (10, 0)]
  | 135, 4 => some [(0, 0), (1, 0), (9, 0), (10, 0)]
  | 136, 0 => some [(0, 0), (1, 0), (10, 0), (11, 0)]
  | 136, 2 => some [(0, 0), (1, 0), (10, 0), (11, 0)]
  | 136, 4 => some [(0, 0), (1, 0), (10, 0), (11, 0)]
  | 136, 6 => some [(0, 0), (1, 0), (10, 0), (11, 0)]
  | 136, 8 => some [(0, 0), (1, 0), (10, 0), (11, 0)]
  | 137, 0 => some [(0, 0), (2, 0), (3, 0), (8, 0)]
  | 142, 0 => some [(0, 0), (2, 0), (3, 0), (8, 0)]
  | _, _ => none
def G : Nat → Option (List D) := fun g => if [1000079, 1000087, 1000090, 1000091, 1000093, 1000098, 1000099, 1000108, 1000114, 1000118, 1000119, 1000120, 1000121, 1000122, 1000123, 1000124, 1000125, 1000129, 1000130, 1000131, 1000132, 1000133, 1000134, 1000135, 1000136, 1000137, 1000140, 1000141, 1000142, 1000143, 1000144, 1000145, 1000146, 2000089, 2000097, 3000022].contains g then some [] else none
@[simp] theorem br_2 : byRef G 2 = false := by decide +kernel
theorem sp_2 : splits G 2 = false := by decide +kernel
@[simp] theorem th_2 : thaws G 2 = false := by decide +kernel
@[simp] theorem br_3 : byRef G 3 = false := by decide +kernel
theorem sp_3 : splits G 3 = false := by decide +kernel
@[simp] theorem th_3 : thaws G 3 = false := by decide +kernel
@[simp] theorem br_4 : byRef G 4 = false := by decide +kernel
theorem sp_4 : splits G 4 = false := by decide +kernel
@[simp] theorem th_4 : thaws G 4 = false := by decide +kernel
@[simp] theorem br_5 : byRef G 5 = false := by decide +kernel
theorem sp_5 : splits G 5 = false := by decide +kernel
@[simp] theorem th_5 : thaws G 5 = false := by decide +kernel
@[simp] theorem br_6 : byRef G 6 = false := by decide +kernel
theorem sp_6 : splits G 6 = false := by decide +kernel
@[simp] theorem th_6 : thaws G 6 = false := by decide +kernel
@[simp] theorem br_7 : byRef G 7 = false := by decide +kernel
theorem sp_7 : splits G 7 = false := by decide +kernel
@[simp] theorem th_7 : thaws G 7 = false := by decide +kernel
@[simp] theorem br_8 : byRef G 8 = false := by decide +kernel
theorem sp_8 : splits G 8 = false := by decide +kernel
@[simp] theorem th_8 : thaws G 8 = false := by decide +kernel
@[simp] theorem br_9 : byRef G 9 = false := by decide +kernel
theorem sp_9 : splits G 9 = false := by decide +kernel
@[simp] theorem th_9 : thaws G 9 = false := by decide +kernel
@[simp] theorem br_10 : byRef G 10 = false := by decide +kernel
theorem sp_10 : splits G 10 = false := by decide +kernel
@[simp] theorem th_10 : thaws G 10 = false := by decide +kernel
@[simp] theorem br_11 : byRef G 11 = false := by decide +kernel
theorem sp_11 : splits G 11 = false := by decide +kernel
@[simp] theorem th_11 : thaws G 11 = false := by decide +kernel
@[simp] theorem br_12 : byRef G 12 = false := by decide +kernel
theorem sp_12 : splits G 12 = false := by decide +kernel
@[simp] theorem th_12 : thaws G 12 = false := by decide +kernel
@[simp] theorem br_13 : byRef G 13 = false := by decide +kernel
theorem sp_13 : splits G 13 = false := by decide +kernel
@[simp] theorem th_13 : thaws G 13 = false := by decide +kernel
@[simp] theorem br_14 : byRef G 14 = false := by decide +kernel
theorem sp_14 : splits G 14 = false := by decide +kernel
@[simp] theorem th_14 : thaws G 14 = false := by decide +kernel
@[simp] theorem br_15 : byRef G 15 = false := by decide +kernel
theorem sp_15 : splits G 15 = false := by decide +kernel
@[simp] theorem th_15 : thaws G 15 = false := by decide +kernel
@[simp] theorem br_16 : byRef G 16 = false := by decide +kernel
theorem sp_16 : splits G 16 = false := by decide +kernel
@[simp] theorem th_16 : thaws G 16 = false := by decide +kernel
@[simp] theorem br_17 : byRef G 17 = false := by decide +kernel
theorem sp_17 : splits G 17 = false := by decide +kernel
@[simp] theorem th_17 : thaws G 17 = false := by decide +kernel
@[simp] theorem br_18 : byRef G 18 = false := by decide +kernel
theorem sp_18 : splits G 18 = false := by decide +kernel
@[simp] theorem th_18 : thaws G 18 = false := by decide +kernel
@[simp] theorem br_19 : byRef G 19 = false := by decide +kernel
theorem sp_19 : splits G 19 = false := by decide +kernel
@[simp] theorem th_19 : thaws G 19 = false := by decide +kernel
@[simp] theorem br_20 : byRef G 20 = false := by decide +kernel
theorem sp_20 : splits G 20 = false := by decide +kernel
@[simp] theorem th_20 : thaws G 20 = false := by decide +kernel
@[simp] theorem br_21 : byRef G 21 = false := by decide +kernel
theorem sp_21 : splits G 21 = false := by decide +kernel
@[simp] theorem th_21 : thaws G 21 = false := by decide +kernel
@[simp] theorem br_22 : byRef G 22 = false := by decide +kernel
theorem sp_22 : splits G 22 = false := by decide +kernel
@[simp] theorem th_22 : thaws G 22 = true := by decide +kernel
@[simp] theorem br_23 : byRef G 23 = false := by decide +kernel
theorem sp_23 : splits G 23 = false := by decide +kernel
@[simp] theorem th_23 : thaws G 23 = false := by decide +kernel
@[simp] theorem br_24 : byRef G 24 = false := by decide +kernel
theorem sp_24 : splits G 24 = false := by decide +kernel
@[simp] theorem th_24 : thaws G 24 = false := by decide +kernel
@[simp] theorem br_25 : byRef G 25 = false := by decide +kernel
theorem sp_25 : splits G 25 = false := by decide +kernel
@[simp] theorem th_25 : thaws G 25 = false := by decide +kernel
@[simp] theorem br_26 : byRef G 26 = false := by decide +kernel
theorem sp_26 : splits G 26 = false := by decide +kernel
@[simp] theorem th_26 : thaws G 26 = false := by decide +kernel
@[simp] theorem br_27 : byRef G 27 = false := by decide +kernel
theorem sp_27 : splits G 27 = false := by decide +kernel
@[simp] theorem th_27 : thaws G 27 = false := by decide +kernel
@[simp] theorem br_28 : byRef G 28 = false := by decide +kernel
theorem sp_28 : splits G 28 = false := by decide +kernel
@[simp] theorem th_28 : thaws G 28 = false := by decide +kernel
@[simp] theorem br_29 : byRef G 29 = false := by decide +kernel
theorem sp_29 : splits G 29 = false := by decide +kernel
@[simp] theorem th_29 : thaws G 29 = false := by decide +kernel
@[simp] theorem br_30 : byRef G 30 = false := by decide +kernel
theorem sp_30 : splits G 30 = false := by decide +kernel
@[simp] theorem th_30 : thaws G 30 = false := by decide +kernel
@[simp] theorem br_31 : byRef G 31 = false := by decide +kernel
theorem sp_31 : splits G 31 = false := by decide +kernel
@[simp] theorem th_31 : thaws G 31 = false := by decide +kernel
@[simp] theorem br_32 : byRef G 32 = false := by decide +kernel
theorem sp_32 : splits G 32 = false := by decide +kernel
@[simp] theorem th_32 : thaws G 32 = false := by decide +kernel
@[simp] theorem br_33 : byRef G 33 = false := by decide +kernel
theorem sp_33 : splits G 33 = false := by decide +kernel
@[simp] theorem th_33 : thaws G 33 = false := by decide +kernel
@[simp] theorem br_34 : byRef G 34 = false := by decide +kernel
theorem sp_34 : splits G 34 = false := by decide +kernel
@[simp] theorem th_34 : thaws G 34 = false := by decide +kernel
@[simp] theorem br_35 : byRef G 35 = false := by decide +kernel
theorem sp_35 : splits G 35 = false := by decide +kernel
@[simp] theorem th_35 : thaws G 35 = false := by decide +kernel
@[simp] theorem br_36 : byRef G 36 = false := by decide +kernel
theorem sp_36 : splits G 36 = false := by decide +kernel
@[simp] theorem th_36 : thaws G 36 = false := by decide +kernel
@[simp] theorem br_37 : byRef G 37 = false := by decide +kernel
theorem sp_37 : splits G 37 = false := by decide +kernel
@[simp] theorem th_37 : thaws G 37 = false := by decide +kernel
@[simp] theorem br_38 : byRef G 38 = false := by decide +kernel
theorem sp_38 : splits G 38 = false := by decide +kernel
@[simp] theorem th_38 : thaws G 38 = false := by decide +kernel
@[simp] theorem br_39 : byRef G 39 = false := by decide +kernel
theorem sp_39 : splits G 39 = false := by decide +kernel
@[simp] theorem th_39 : thaws G 39 = false := by decide +kernel
@[simp] theorem br_40 : byRef G 40 = false := by decide +kernel
theorem sp_40 : splits G 40 = false := by decide +kernel
@[simp] theorem th_40 : thaws G 40 = false := by decide +kernel
@[simp] theorem br_41 : byRef G 41 = false := by decide +kernel
theorem sp_41 : splits G 41 = false := by decide +kernel
@[simp] theorem th_41 : thaws G 41 = false := by decide +kernel
@[simp] theorem br_42 : byRef G 42 = false := by decide +kernel
theorem sp_42 : splits G 42 = false := by decide +kernel
@[simp] theorem th_42 : thaws G 42 = false := by decide +kernel
@[simp] theorem br_43 : byRef G 43 = false := by decide +kernel
theorem sp_43 : splits G 43 = false := by decide +kernel
@[simp] theorem th_43 : thaws G 43 = false := by decide +kernel
@[simp] theorem br_44 : byRef G 44 = false := by decide +kernel
theorem sp_44 : splits G 44 = false := by decide +kernel
@[simp] theorem th_44 : thaws G 44 = false := by decide +kernel
@[simp] theorem br_45 : byRef G 45 = false := by decide +kernel
theorem sp_45 : splits G 45 = false := by decide +kernel
@[simp] theorem th_45 : thaws G 45 = false := by decide +kernel
@[simp] theorem br_46 : byRef G 46 = false := by decide +kernel
theorem sp_46 : splits G 46 = false := by decide +kernel
@[simp] theorem th_46 : thaws G 46 = false := by decide +kernel
@[simp] theorem br_47 : byRef G 47 = false := by decide +kernel
theorem sp_47 : splits G 47 = false := by decide +kernel
@[simp] theorem th_47 : thaws G 47 = false := by decide +kernel
@[simp] theorem br_48 : byRef G 48 = false := by decide +kernel
theorem sp_48 : splits G 48 = false := by decide +kernel
@[simp] theorem th_48 : thaws G 48 = false := by decide +kernel
@[simp] theorem br_49 : byRef G 49 = false := by decide +kernel
theorem sp_49 : splits G 49 = false := by decide +kernel
@[simp] theorem th_49 : thaws G 49 = false := by decide +kernel
@[simp] theorem br_50 : byRef G 50 = false := by decide +kernel
theorem sp_50 : splits G 50 = false := by decide +kernel
@[simp] theorem th_50 : thaws G 50 = false := by decide +kernel
@[simp] theorem br_51 : byRef G 51 = false := by decide +kernel
theorem sp_51 : splits G 51 = false := by decide +kernel
@[simp] theorem th_51 : thaws G 51 = false := by decide +kernel
@[simp] theorem br_52 : byRef G 52 = false := by decide +kernel
theorem sp_52 : splits G 52 = false := by decide +kernel
@[simp] theorem th_52 : thaws G 52 = false := by decide +kernel
@[simp] theorem br_53 : byRef G 53 = false := by decide +kernel
theorem sp_53 : splits G 53 = false := by decide +kernel
@[simp] theorem th_53 : thaws G 53 = false := by decide +kernel
@[simp] theorem br_54 : byRef G 54 = false := by decide +kernel
theorem sp_54 : splits G 54 = false := by decide +kernel
@[simp] theorem th_54 : thaws G 54 = false := by decide +kernel
@[simp] theorem br_55 : byRef G 55 = false := by decide +kernel
theorem sp_55 : splits G 55 = false := by decide +kernel
@[simp] theorem th_55 : thaws G 55 = false := by decide +kernel
@[simp] theorem br_56 : byRef G 56 = false := by decide +kernel
theorem sp_56 : splits G 56 = false := by decide +kernel
@[simp] theorem th_56 : thaws G 56 = false := by decide +kernel
@[simp] theorem br_57 : byRef G 57 = false := by decide +kernel
theorem sp_57 : splits G 57 = false := by decide +kernel
@[simp] theorem th_57 : thaws G 57 = false := by decide +kernel
@[simp] theorem br_58 : byRef G 58 = false := by decide +kernel
theorem sp_58 : splits G 58 = false := by decide +kernel
@[simp] theorem th_58 : thaws G 58 = false := by decide +kernel
@[simp] theorem br_59 : byRef G 59 = false := by decide +kernel
theorem sp_59 : splits G 59 = false := by decide +kernel
@[simp] theorem th_59 : thaws G 59 = false := by decide +kernel
@[simp] theorem br_60 : byRef G 60 = false := by decide +kernel
theorem sp_60 : splits G 60 = false := by decide +kernel
@[simp] theorem th_60 : thaws G 60 = false := by decide +kernel
@[simp] theorem br_61 : byRef G 61 = false := by decide +kernel
theorem sp_61 : splits G 61 = false := by decide +kernel
@[simp] theorem th_61 : thaws G 61 = false := by decide +kernel
@[simp] theorem br_62 : byRef G 62 = false := by decide +kernel
theorem sp_62 : splits G 62 = false := by decide +kernel
@[simp] theorem th_62 : thaws G 62 = false := by decide +kernel
@[simp] theorem br_63 : byRef G 63 = false := by decide +kernel
theorem sp_63 : splits G 63 = false := by decide +kernel
@[simp] theorem th_63 : thaws G 63 = false := by decide +kernel
@[simp] theorem br_64 : byRef G 64 = false := by decide +kernel
theorem sp_64 : splits G 64 = false := by decide +kernel
@[simp] theorem th_64 : thaws G 64 = false := by decide +kernel
@[simp] theorem br_65 : byRef G 65 = false := by decide +kernel
theorem sp_65 : splits G 65 = false := by decide +kernel
@[simp] theorem th_65 : thaws G 65 = false := by decide +kernel
@[simp] theorem br_66 : byRef G 66 = false := by decide +kernel
theorem sp_66 : splits G 66 = false := by decide +kernel
@[simp] theorem th_66 : thaws G 66 = false := by decide +kernel
@[simp] theorem br_67 : byRef G 67 = false := by decide +kernel
theorem sp_67 : splits G 67 = false := by decide +kernel
@[simp] theorem th_67 : thaws G 67 = false := by decide +kernel
@[simp] theorem br_68 : byRef G 68 = false := by decide +kernel
theorem sp_68 : splits G 68 = false := by decide +kernel
@[simp] theorem th_68 : thaws G 68 = false := by decide +kernel
@[simp] theorem br_69 : byRef G 69 = false := by decide +kernel
theorem sp_69 : splits G 69 = false := by decide +kernel
@[simp] theorem th_69 : thaws G 69 = false := by decide +kernel
@[simp] theorem br_70 : byRef G 70 = false := by decide +kernel
theorem sp_70 : splits G 70 = false := by decide +kernel
@[simp] theorem th_70 : thaws G 70 = false := by decide +kernel
@[simp] theorem br_71 : byRef G 71 = false := by decide +kernel
theorem sp_71 : splits G 71 = false := by decide +kernel
@[simp] theorem th_71 : thaws G 71 = false := by decide +kernel
@[simp] theorem br_72 : byRef G 72 = false := by decide +kernel
theorem sp_72 : splits G 72 = false := by decide +kernel
@[simp] theorem th_72 : thaws G 72 = false := by decide +kernel
@[simp] theorem br_73 : byRef G 73 = false := by decide +kernel
theorem sp_73 : splits G 73 = false := by decide +kernel
@[simp] theorem th_73 : thaws G 73 = false := by decide +kernel
@[simp] theorem br_74 : byRef G 74 = false := by decide +kernel
theorem sp_74 : splits G 74 = false := by decide +kernel
@[simp] theorem th_74 : thaws G 74 = false := by decide +kernel
@[simp] theorem br_75 : byRef G 75 = false := by decide +kernel
theorem sp_75 : splits G 75 = false := by decide +kernel
@[simp] theorem th_75 : thaws G 75 = false := by decide +kernel
@[simp] theorem br_76 : byRef G 76 = false := by decide +kernel
theorem sp_76 : splits G 76 = false := by decide +kernel
@[simp] theorem th_76 : thaws G 76 = false := by decide +kernel
@[simp] theorem br_77 : byRef G 77 = false := by decide +kernel
theorem sp_77 : splits G 77 = false := by decide +kernel
@[simp] theorem th_77 : thaws G 77 = false := by decide +kernel
@[simp] theorem br_78 : byRef G 78 = false := by decide +kernel
theorem sp_78 : splits G 78 = false := by decide +kernel
@[simp] theorem th_78 : thaws G 78 = false := by decide +kernel
@[simp] theorem br_79 : byRef G 79 = true := by decide +kernel
theorem sp_79 : splits G 79 = false := by decide +kernel
@[simp] theorem th_79 : thaws G 79 = false := by decide +kernel
@[simp] theorem br_80 : byRef G 80 = false := by decide +kernel
theorem sp_80 : splits G 80 = false := by decide +kernel
@[simp] theorem th_80 : thaws G 80 = false := by decide +kernel
@[simp] theorem br_81 : byRef G 81 = false := by decide +kernel
theorem sp_81 : splits G 81 = false := by decide +kernel
@[simp] theorem th_81 : thaws G 81 = false := by decide +kernel
@[simp] theorem br_82 : byRef G 82 = false := by decide +kernel
theorem sp_82 : splits G 82 = false := by decide +kernel
@[simp] theorem th_82 : thaws G 82 = false := by decide +kernel
@[simp] theorem br_83 : byRef G 83 = false := by decide +kernel
theorem sp_83 : splits G 83 = false := by decide +kernel
@[simp] theorem th_83 : thaws G 83 = false := by decide +kernel
@[simp] theorem br_84 : byRef G 84 = false := by decide +kernel
theorem sp_84 : splits G 84 = false := by decide +kernel
@[simp] theorem th_84 : thaws G 84 = false := by decide +kernel
@[simp] theorem br_85 : byRef G 85 = false := by decide +kernel
theorem sp_85 : splits G 85 = false := by decide +kernel
@[simp] theorem th_85 : thaws G 85 = false := by decide +kernel
@[simp] theorem br_86 : byRef G 86 = false := by decide +kernel
theorem sp_86 : splits G 86 = false := by decide +kernel
@[simp] theorem th_86 : thaws G 86 = false := by decide +kernel
@[simp] theorem br_87 : byRef G 87 = true := by decide +kernel
theorem sp_87 : splits G 87 = false := by decide +kernel
@[simp] theorem th_87 : thaws G 87 = false := by decide +kernel
@[simp] theorem br_88 : byRef G 88 = false := by decide +kernel
theorem sp_88 : splits G 88 = false := by decide +kernel
@[simp] theorem th_88 : thaws G 88 = false := by decide +kernel
@[simp] theorem br_89 : byRef G 89 = false := by decide +kernel
theorem sp_89 : splits G 89 = true := by decide +kernel
@[simp] theorem th_89 : thaws G 89 = false := by decide +kernel
@[simp] theorem br_90 : byRef G 90 = true := by decide +kernel
theorem sp_90 : splits G 90 = false := by decide +kernel
@[simp] theorem th_90 : thaws G 90 = false := by decide +kernel
@[simp] theorem br_91 : byRef G 91 = true := by decide +kernel
theorem sp_91 : splits G 91 = false := by decide +kernel
@[simp] theorem th_91 : thaws G 91 = false := by decide +kernel
@[simp] theorem br_92 : byRef G 92 = false := by decide +kernel
theorem sp_92 : splits G 92 = false := by decide +kernel
@[simp] theorem th_92 : thaws G 92 = false := by decide +kernel
@[simp] theorem br_93 : byRef G 93 = true := by decide +kernel
theorem sp_93 : splits G 93 = false := by decide +kernel
@[simp] theorem th_93 : thaws G 93 = false := by decide +kernel
@[simp] theorem br_94 : byRef G 94 = false := by decide +kernel
theorem sp_94 : splits G 94 = false := by decide +kernel
@[simp] theorem th_94 : thaws G 94 = false := by decide +kernel
@[simp] theorem br_95 : byRef G 95 = false := by decide +kernel
theorem sp_95 : splits G 95 = false := by decide +kernel
@[simp] theorem th_95 : thaws G 95 = false := by decide +kernel
@[simp] theorem br_96 : byRef G 96 = false := by decide +kernel
theorem sp_96 : splits G 96 = false := by decide +kernel
@[simp] theorem th_96 : thaws G 96 = false := by decide +kernel
@[simp] theorem br_97 : byRef G 97 = false := by decide +kernel
theorem sp_97 : splits G 97 = true := by decide +kernel
@[simp] theorem th_97 : thaws G 97 = false := by decide +kernel
@[simp] theorem br_98 : byRef G 98 = true := by decide +kernel
theorem sp_98 : splits G 98 = false := by decide +kernel
@[simp] theorem th_98 : thaws G 98 = false := by decide +kernel
@[simp] theorem br_99 : byRef G 99 = true := by decide +kernel
theorem sp_99 : splits G 99 = false := by decide +kernel
@[simp] theorem th_99 : thaws G 99 = false := by decide +kernel
@[simp] theorem br_100 : byRef G 100 = false := by decide +kernel
theorem sp_100 : splits G 100 = false := by decide +kernel
@[simp] theorem th_100 : thaws G 100 = false := by decide +kernel
@[simp] theorem br_101 : byRef G 101 = false := by decide +kernel
theorem sp_101 : splits G 101 = false := by decide +kernel
@[simp] theorem th_101 : thaws G 101 = false := by decide +kernel
@[simp] theorem br_102 : byRef G 102 = false := by decide +kernel
theorem sp_102 : splits G 102 = false := by decide +kernel
@[simp] theorem th_102 : thaws G 102 = false := by decide +kernel
@[simp] theorem br_103 : byRef G 103 = false := by decide +kernel
theorem sp_103 : splits G 103 = false := by decide +kernel
@[simp] theorem th_103 : thaws G 103 = false := by decide +kernel
@[simp] theorem br_104 : byRef G 104 = false := by decide +kernel
theorem sp_104 : splits G 104 = false := by decide +kernel
@[simp] theorem th_104 : thaws G 104 = false := by decide +kernel
@[simp] theorem br_105 : byRef G 105 = false := by decide +kernel
theorem sp_105 : splits G 105 = false := by decide +kernel
@[simp] theorem th_105 : thaws G 105 = false := by decide +kernel
@[simp] theorem br_106 : byRef G 106 = false := by decide +kernel
theorem sp_106 : splits G 106 = false := by decide +kernel
@[simp] theorem th_106 : thaws G 106 = false := by decide +kernel
@[simp] theorem br_107 : byRef G 107 = false := by decide +kernel
theorem sp_107 : splits G 107 = false := by decide +kernel
@[simp] theorem th_107 : thaws G 107 = false := by decide +kernel
@[simp] theorem br_108 : byRef G 108 = true := by decide +kernel
theorem sp_108 : splits G 108 = false := by decide +kernel
@[simp] theorem th_108 : thaws G 108 = false := by decide +kernel
@[simp] theorem br_109 : byRef G 109 = false := by decide +kernel
theorem sp_109 : splits G 109 = false := by decide +kernel
@[simp] theorem th_109 : thaws G 109 = false := by decide +kernel
@[simp] theorem br_110 : byRef G 110 = false := by decide +kernel
theorem sp_110 : splits G 110 = false := by decide +kernel
@[simp] theorem th_110 : thaws G 110 = false := by decide +kernel
@[simp] theorem br_111 : byRef G 111 = false := by decide +kernel
theorem sp_111 : splits G 111 = false := by decide +kernel
@[simp] theorem th_111 : thaws G 111 = false := by decide +kernel
@[simp] theorem br_112 : byRef G 112 = false := by decide +kernel
theorem sp_112 : splits G 112 = false := by decide +kernel
@[simp] theorem th_112 : thaws G 112 = false := by decide +kernel
@[simp] theorem br_113 : byRef G 113 = false := by decide +kernel
theorem sp_113 : splits G 113 = false := by decide +kernel
@[simp] theorem th_113 : thaws G 113 = false := by decide +kernel
@[simp] theorem br_114 : byRef G 114 = true := by decide +kernel
theorem sp_114 : splits G 114 = false := by decide +kernel
@[simp] theorem th_114 : thaws G 114 = false := by decide +kernel
@[simp] theorem br_115 : byRef G 115 = false := by decide +kernel
theorem sp_115 : splits G 115 = false := by decide +kernel
@[simp] theorem th_115 : thaws G 115 = false := by decide +kernel
@[simp] theorem br_116 : byRef G 116 = false := by decide +kernel
theorem sp_116 : splits G 116 = false := by decide +kernel
@[simp] theorem th_116 : thaws G 116 = false := by decide +kernel
@[simp] theorem br_117 : byRef G 117 = false := by decide +kernel
theorem sp_117 : splits G 117 = false := by decide +kernel
@[simp] theorem th_117 : thaws G 117 = false := by decide +kernel
@[simp] theorem br_118 : byRef G 118 = true := by decide +kernel
theorem sp_118 : splits G 118 = false := by decide +kernel
@[simp] theorem th_118 : thaws G 118 = false := by decide +kernel
@[simp] theorem br_119 : byRef G 119 = true := by decide +kernel
theorem sp_119 : splits G 119 = false := by decide +kernel
@[simp] theorem th_119 : thaws G 119 = false := by decide +kernel
@[simp] theorem br_120 : byRef G 120 = true := by decide +kernel
theorem sp_120 : splits G 120 = false := by decide +kernel
@[simp] theorem th_120 : thaws G 120 = false := by decide +kernel
@[simp] theorem br_121 : byRef G 121 = true := by decide +kernel
theorem sp_121 : splits G 121 = false := by decide +kernel
@[simp] theorem th_121 : thaws G 121 = false := by decide +kernel
@[simp] theorem br_122 : byRef G 122 = true := by decide +kernel
theorem sp_122 : splits G 122 = false := by decide +kernel
@[simp] theorem th_122 : thaws G 122 = false := by decide +kernel
@[simp] theorem br_123 : byRef G 123 = true := by decide +kernel
theorem sp_123 : splits G 123 = false := by decide +kernel
@[simp] theorem th_123 : thaws G 123 = false := by decide +kernel
@[simp] theorem br_124 : byRef G 124 = true := by decide +kernel
theorem sp_124 : splits G 124 = false := by decide +kernel
@[simp] theorem th_124 : thaws G 124 = false := by decide +kernel
@[simp] theorem br_125 : byRef G 125 = true := by decide +kernel
theorem sp_125 : splits G 125 = false := by decide +kernel
@[simp] theorem th_125 : thaws G 125 = false := by decide +kernel
@[simp] theorem br_126 : byRef G 126 = false := by decide +kernel
theorem sp_126 : splits G 126 = false := by decide +kernel
@[simp] theorem th_126 : thaws G 126 = false := by decide +kernel
@[simp] theorem br_127 : byRef G 127 = false := by decide +kernel
theorem sp_127 : splits G 127 = false := by decide +kernel
@[simp] theorem th_127 : thaws G 127 = false := by decide +kernel
@[simp] theorem br_128 : byRef G 128 = false := by decide +kernel
theorem sp_128 : splits G 128 = false := by decide +kernel
@[simp] theorem th_128 : thaws G 128 = false := by decide +kernel
@[simp] theorem br_129 : byRef G 129 = true := by decide +kernel
theorem sp_129 : splits G 129 = false := by decide +kernel
@[simp] theorem th_129 : thaws G 129 = false := by decide +kernel
@[simp] theorem br_130 : byRef G 130 = true := by decide +kernel
theorem sp_130 : splits G 130 = false := by decide +kernel
@[simp] theorem th_130 : thaws G 130 = false := by decide +kernel
@[simp] theorem br_131 : byRef G 131 = true := by decide +kernel
theorem sp_131 : splits G 131 = false := by decide +kernel
@[simp] theorem th_131 : thaws G 131 = false := by decide +kernel
@[simp] theorem br_132 : byRef G 132 = true := by decide +kernel
theorem sp_132 : splits G 132 = false := by decide +kernel
@[simp] theorem th_132 : thaws G 132 = false := by decide +kernel
@[simp] theorem br_133 : byRef G 133 = true := by decide +kernel
theorem sp_133 : splits G 133 = false := by decide +kernel
@[simp] theorem th_133 : thaws G 133 = false := by decide +kernel
@[simp] theorem br_134 : byRef G 134 = true := by decide +kernel
theorem sp_134 : splits G 134 = false := by decide +kernel
@[simp] theorem th_134 : thaws G 134 = false := by decide +kernel
@[simp] theorem br_135 : byRef G 135 = true := by decide +kernel
theorem sp_135 : splits G 135 = false := by decide +kernel
@[simp] theorem th_135 : thaws G 135 = false := by decide +kernel
@[simp] theorem br_136 : byRef G 136 = true := by decide +kernel
theorem sp_136 : splits G 136 = false := by decide +kernel
@[simp] theorem th_136 : thaws G 136 = false := by decide +kernel
@[simp] theorem br_137 : byRef G 137 = true := by decide +kernel
theorem sp_137 : splits G 137 = false := by decide +kernel
@[simp] theorem th_137 : thaws G 137 = false := by decide +kernel
@[simp] theorem br_138 : byRef G 138 = false := by decide +kernel
theorem sp_138 : splits G 138 = false := by decide +kernel
@[simp] theorem th_138 : thaws G 138 = false := by decide +kernel
@[simp] theorem br_139 : byRef G 139 = false := by decide +kernel
theorem sp_139 : splits G 139 = false := by decide +kernel
@[simp] theorem th_139 : thaws G 139 = false := by decide +kernel
@[simp] theorem br_140 : byRef G 140 = true := by decide +kernel
theorem sp_140 : splits G 140 = false := by decide +kernel
@[simp] theorem th_140 : thaws G 140 = false := by decide +kernel
@[simp] theorem br_141 : byRef G 141 = true := by decide +kernel
theorem sp_141 : splits G 141 = false := by decide +kernel
@[simp] theorem th_141 : thaws G 141 = false := by decide +kernel
@[simp] theorem br_142 : byRef G 142 = true := by decide +kernel
theorem sp_142 : splits G 142 = false := by decide +kernel
@[simp] theorem th_142 : thaws G 142 = false := by decide +kernel
@[simp] theorem br_143 : byRef G 143 = true := by decide +kernel
theorem sp_143 : splits G 143 = false := by decide +kernel
@[simp] theorem th_143 : thaws G 143 = false := by decide +kernel
@[simp] theorem br_144 : byRef G 144 = true := by decide +kernel
theorem sp_144 : splits G 144 = false := by decide +kernel
@[simp] theorem th_144 : thaws G 144 = false := by decide +kernel
@[simp] theorem br_145 : byRef G 145 = true := by decide +kernel
theorem sp_145 : splits G 145 = false := by decide +kernel
@[simp] theorem th_145 : thaws G 145 = false := by decide +kernel
@[simp] theorem br_146 : byRef G 146 = true := by decide +kernel
theorem sp_146 : splits G 146 = false := by decide +kernel
@[simp] theorem th_146 : thaws G 146 = false := by decide +kernel
def Hn : Hints := fun f r => match f, r with
  | 3, 5 => [4, 6, 8]
  | 20, 20 => [1]
  | 52, 4 => [8]
  | 67, 31 => [6]
  | 78, 4 => [8]
  | 106, 15 => [6, 7]
  | _, _ => []
@[simp] theorem K_4_0 : K 4 0 = some [(2, 0), (3, 0), (7, 0), (8, 0)] := rfl
@[simp] theorem K_10_0 : K 10 0 = some [(0, 0), (1, 0), (5, 0), (6, 0), (8, 0), (9, 0), (11, 0)] := rfl
@[simp] theorem K_10_2 : K 10 2 = some [(0, 0), (1, 0), (5, 0), (6, 0), (8, 0), (12, 0)] := rfl
@[simp] theorem K_14_0 : K 14 0 = some [(1, 0), (3, 0)] := rfl
@[simp] theorem K_14_2 : K 14 2 = some [(1, 0), (4, 0)] := rfl
@[simp] theorem K_15_0 : K 15 0 = some [(0, 0), (1, 0), (5, 0)] := rfl
@[simp] theorem K_16_0 : K 16 0 = some [(2, 0), (3, 0), (4, 0), (7, 0), (8, 1), (16, 0), (17, 0), (18, 0)] := rfl
@[simp] theorem K_17_0 : K 17 0 = some [(1, 0), (2, 0), (3, 0), (4, 0), (9, 1), (10, 0)] := rfl
@[simp] theorem K_18_0 : K 18 0 = some [(1, 0), (3, 0)] := rfl
@[simp] theorem K_18_2 : K 18 2 = some [(1, 0), (3, 0), (4, 0), (5, 0), (6, 0)] := rfl
@[simp] theorem K_18_4 : K 18 4 = some [(1, 0), (7, 0), (8, 0)] := rfl
@[simp] theorem K_18_6 : K 18 6 = some [(1, 0), (7, 0), (8, 0), (9, 0), (10, 0)] := rfl
@[simp] theorem K_18_8 : K 18 8 = some [(1, 0), (7, 0), (8, 0), (9, 0), (10, 0), (11, 0)] := rfl
@[simp] theorem K_19_0 : K 19 0 = some [(1, 0), (2, 0), (5, 0)] := rfl
@[simp] theorem K_20_0 : K 20 0 = some [(1, 0), (2, 0), (4, 0), (6, 0), (7, 0)] := rfl
@[simp] theorem K_20_2 : K 20 2 = some [(1, 0), (2, 0), (4, 0), (8, 0), (9, 0)] := rfl
@[simp] theorem K_20_4 : K 20 4 = some [(1, 0), (2, 0), (4, 0), (8, 0), (9, 0), (10, 0), (11, 0)] := rfl
@[simp] theorem K_23_1 : K 23 1 = some [(1, 0), (6, 1), (7, 0)] := rfl
@[simp] theorem K_23_3 : K 23 3 = some [(1, 0), (6, 1), (8, 0)] := rfl
@[simp] theorem K_23_5 : K 23 5 = some [(1, 0), (6, 1), (9, 0), (10, 0)] := rfl
@[simp] theorem K_23_7 : K 23 7 = some [(1, 0), (6, 1), (11, 0), (12, 1), (13, 0)] := rfl
@[simp] theorem K_23_9 : K 23 9 = some [(1, 0), (6, 1), (11, 0), (12, 1), (14, 0)] := rfl
@[simp] theorem K_23_11 : K 23 11 = some [(1, 0), (17, 0), (18, 1), (19, 0)] := rfl
@[simp] theorem K_24_0 : K 24 0 = some [(0, 0), (4, 1), (11, 0)] := rfl
@[simp] theorem K_25_0 : K 25 0 = some [(0, 0), (4, 1), (5, 0)] := rfl
@[simp] theorem K_26_2 : K 26 2 = some [(0, 0), (1, 0), (6, 0), (7, 1), (8, 0)] := rfl
@[simp] theorem K_28_0 : K 28 0 = some [(0, 0), (1, 0), (5, 0)] := rfl
@[simp] theorem K_30_0 : K 30 0 = some [(0, 0), (1, 0), (5, 3), (6, 0)] := rfl
@[simp] theorem K_31_0 : K 31 0 = some [(0, 0), (1, 0), (26, 0), (27, 0), (28, 0)] := rfl
@[simp] theorem K_31_2 : K 31 2 = some [(0, 0), (8, 0), (9, 1), (10, 1), (11, 1), (47, 0), (48, 0), (49, 0)] := rfl
@[simp] theorem K_32_0 : K 32 0 = some [(0, 0), (3, 1), (4, 0)] := rfl
@[simp] theorem K_34_0 : K 34 0 = some [(0, 0), (1, 0), (5, 0)] := rfl
@[simp] theorem K_35_0 : K 35 0 = some [(0, 0), (3, 3), (4, 0)] := rfl
@[simp] theorem K_36_0 : K 36 0 = some [(1, 0), (3, 0), (4, 0)] := rfl
@[simp] theorem K_37_0 : K 37 0 = some [(1, 0), (3, 0)] := rfl
@[simp] theorem K_38_0 : K 38 0 = some [(1, 0), (3, 0)] := rfl
@[simp] theorem K_39_0 : K 39 0 = some [(1, 0), (2, 0), (5, 0)] := rfl
@[simp] theorem K_40_0 : K 40 0 = some [(0, 0), (3, 0)] := rfl
@[simp] theorem K_41_0 : K 41 0 = some [(3, 1), (6, 0), (7, 0), (8, 0)] := rfl
@[simp] theorem K_42_0 : K 42 0 = some [(3, 1), (4, 0), (7, 0), (8, 0), (9, 0)] := rfl
@[simp] theorem K_43_0 : K 43 0 = some [(0, 0), (3, 1), (4, 0)] := rfl
@[simp] theorem K_43_2 : K 43 2 = some [(0, 0), (3, 1), (4, 0), (5, 0)] := rfl
@[simp] theorem K_44_0 : K 44 0 = some [(0, 0), (3, 0), (4, 0), (18, 0), (19, 0), (20, 0)] := rfl
@[simp] theorem K_44_2 : K 44 2 = some [(3, 0), (4, 0), (7, 0), (47, 0), (48, 0), (49, 0)] := rfl
@[simp] theorem K_45_0 : K 45 0 = some [(3, 0), (4, 0), (16, 0), (17, 0), (18, 0)] := rfl
@[simp] theorem K_48_0 : K 48 0 = some [(0, 0), (3, 1), (4, 0)] := rfl
@[simp] theorem K_48_2 : K 48 2 = some [(0, 0), (3, 1), (4, 0), (5, 1), (6, 0), (7, 0)] := rfl
@[simp] theorem K_49_0 : K 49 0 = some [(0, 0), (1, 0), (5, 0)] := rfl
@[simp] theorem K_50_0 : K 50 0 = some [(0, 0), (1, 0), (6, 1), (7, 0), (8, 0)] := rfl
@[simp] theorem K_50_2 : K 50 2 = some [(0, 0), (1, 0), (6, 1), (7, 0), (8, 0), (9, 0)] := rfl
@[simp] theorem K_51_0 : K 51 0 = some [(0, 0), (3, 0), (4, 0)] := rfl
@[simp] theorem K_51_2 : K 51 2 = some [(0, 0), (3, 0), (4, 0)] := rfl
@[simp] theorem K_53_0 : K 53 0 = some [(0, 0), (1, 0), (5, 1)] := rfl
@[simp] theorem K_54_0 : K 54 0 = some [(0, 0), (1, 0), (5, 0), (6, 1)] := rfl
@[simp] theorem K_54_2 : K 54 2 = some [(0, 0), (5, 0), (6, 1), (9, 1), (104, 0), (105, 0), (106, 0)] := rfl
@[simp] theorem K_55_0 : K 55 0 = some [(5, 0), (7, 1), (36, 0), (37, 0), (38, 0)] := rfl
@[simp] theorem K_57_0 : K 57 0 = some [(0, 0), (1, 0), (12, 0), (13, 0)] := rfl
@[simp] theorem K_58_1 : K 58 1 = some [(7, 1), (21, 0), (23, 0), (24, 0)] := rfl
@[simp] theorem K_58_3 : K 58 3 = some [(0, 0), (2, 0), (7, 1), (8, 0)] := rfl
@[simp] theorem K_58_5 : K 58 5 = some [(0, 0), (2, 0), (7, 1), (9, 0), (10, 0)] := rfl
@[simp] theorem K_58_7 : K 58 7 = some [(0, 0), (2, 0), (7, 1)] := rfl
@[simp] theorem K_58_9 : K 58 9 = some [(0, 0), (2, 0), (7, 1), (11, 0), (12, 0), (13, 0)] := rfl
@[simp] theorem K_58_11 : K 58 11 = some [(0, 0), (2, 0), (7, 1), (14, 0), (15, 1), (16, 0)] := rfl
@[simp] theorem K_58_13 : K 58 13 = some [(0, 0), (7, 1), (14, 0), (15, 1), (19, 0), (20, 0)] := rfl
@[simp] theorem K_64_0 : K 64 0 = some [(3, 0), (11, 0), (12, 0), (13, 0)] := rfl
@[simp] theorem K_65_0 : K 65 0 = some [(0, 0), (3, 0), (4, 0), (5, 1), (20, 0), (21, 0), (22, 0)] := rfl
@[simp] theorem K_67_0 : K 67 0 = some [(0, 0), (1, 0), (2, 0), (9, 0), (12, 0), (56, 0), (57, 0), (58, 0)] := rfl
@[simp] theorem K_67_2 : K 67 2 = some [(1000015, 0), (17, 0), (79, 0), (80, 0), (81, 0)] := rfl
@[simp] theorem K_68_0 : K 68 0 = some [(3, 0), (5, 0), (6, 0)] := rfl
@[simp] theorem K_69_0 : K 69 0 = some [(0, 0), (1, 0), (5, 0)] := rfl
@[simp] theorem K_71_0 : K 71 0 = some [(0, 0), (3, 1)] := rfl
@[simp] theorem K_73_0 : K 73 0 = some [(0, 0), (1, 0), (6, 0), (7, 0), (8, 0)] := rfl
@[simp] theorem K_75_0 : K 75 0 = some [(0, 0), (3, 0), (4, 0)] := rfl
@[simp] theorem K_76_0 : K 76 0 = some [(3, 0), (6, 0), (7, 0), (8, 0)] := rfl
@[simp] theorem K_79_0 : K 79 0 = some [(7, 0), (8, 0)] := rfl
@[simp] theorem K_85_0 : K 85 0 = some [(0, 0), (1, 0), (7, 0), (8, 0)] := rfl
@[simp] theorem K_86_0 : K 86 0 = some [(1, 0), (6, 0), (36, 0), (37, 0), (38, 0)] := rfl
@[simp] theorem K_86_2 : K 86 2 = some [(1, 0), (6, 0), (7, 0), (8, 0), (9, 0), (36, 0), (37, 0), (38, 0)] := rfl
@[simp] theorem K_87_0 : K 87 0 = some [(0, 0), (5, 1), (6, 1), (9, 0), (10, 0), (11, 0)] := rfl
@[simp] theorem K_91_0 : K 91 0 = some [(0, 0), (3, 0)] := rfl
@[simp] theorem K_91_2 : K 91 2 = some [(0, 0), (3, 0), (4, 0), (5, 0)] := rfl
@[simp] theorem K_92_0 : K 92 0 = some [(0, 0), (1, 0), (6, 0), (7, 0), (8, 0)] := rfl
@[simp] theorem K_93_0 : K 93 0 = some [(7, 0), (8, 0)] := rfl
@[simp] theorem K_94_0 : K 94 0 = some [(0, 0), (2, 0), (9, 0), (56, 0), (57, 0)] := rfl
@[simp] theorem K_94_2 : K 94 2 = some [(0, 0), (2, 0), (9, 0), (10, 0), (11, 0), (56, 0), (57, 0)] := rfl
@[simp] theorem K_95_1 : K 95 1 = some [(8, 1), (10, 0), (30, 0), (31, 0), (32, 0)] := rfl
@[simp] theorem K_95_3 : K 95 3 = some [(8, 1), (14, 0), (52, 0), (53, 0), (54, 0)] := rfl
@[simp] theorem K_95_5 : K 95 5 = some [(8, 1), (18, 0), (73, 0), (74, 0), (75, 0)] := rfl
@[simp] theorem K_96_0 : K 96 0 = some [(0, 0), (5, 1), (6, 1), (7, 0), (8, 0)] := rfl
@[simp] theorem K_99_0 : K 99 0 = some [(0, 0), (3, 0)] := rfl
@[simp] theorem K_99_2 : K 99 2 = some [(0, 0), (3, 0), (4, 0), (5, 0)] := rfl
@[simp] theorem K_103_0 : K 103 0 = some [(5, 0), (8, 0), (9, 0), (10, 0)] := rfl
@[simp] theorem K_106_0 : K 106 0 = some [(0, 0), (5, 0)] := rfl
@[simp] theorem K_106_2 : K 106 2 = some [(0, 0), (5, 0), (6, 0), (7, 0)] := rfl
@[simp] theorem K_107_0 : K 107 0 = some [(0, 0), (1, 0), (2, 0), (8, 1), (9, 0)] := rfl
@[simp] theorem K_107_2 : K 107 2 = some [(0, 0), (1, 0), (2, 0), (8, 1), (9, 0), (10, 0), (11, 0)] := rfl
@[simp] theorem K_107_4 : K 107 4 = some [(0, 0), (8, 1), (13, 0)] := rfl
@[simp] theorem K_108_0 : K 108 0 = some [(0, 0), (1, 0), (2, 0), (3, 0), (8, 0), (9, 0)] := rfl
@[simp] theorem K_112_0 : K 112 0 = some [(12, 0), (15, 1), (85, 0), (86, 0), (87, 0)] := rfl
@[simp] theorem K_113_0 : K 113 0 = some [(0, 0), (6, 0), (7, 0), (8, 0), (9, 0)] := rfl
@[simp] theorem K_114_0 : K 114 0 = some [(0, 0), (1, 0), (2, 0), (3, 0), (8, 0), (9, 0)] := rfl
@[simp] theorem K_118_0 : K 118 0 = some [(0, 0), (1, 0), (2, 0), (6, 0)] := rfl
@[simp] theorem K_118_2 : K 118 2 = some [(0, 0), (1, 0), (2, 0), (6, 0), (7, 0)] := rfl
@[simp] theorem K_119_0 : K 119 0 = some [(0, 0), (6, 0), (7, 0), (8, 0), (9, 0)] := rfl
@[simp] theorem K_119_2 : K 119 2 = some [(0, 0), (6, 0), (7, 0), (10, 0)] := rfl
@[simp] theorem K_120_0 : K 120 0 = some [(0, 0), (1, 0), (6, 0), (7, 0), (8, 0), (9, 0)] := rfl
@[simp] theorem K_122_0 : K 122 0 = some [(0, 0), (6, 0), (7, 0)] := rfl
@[simp] theorem K_123_0 : K 123 0 = some [(0, 0), (1, 0), (2, 0), (7, 0), (8, 0)] := rfl
@[simp] theorem K_123_2 : K 123 2 = some [(0, 0), (1, 0), (2, 0), (7, 0), (8, 0)] := rfl
@[simp] theorem K_123_4 : K 123 4 = some [(0, 0), (1, 0), (2, 0), (7, 0), (8, 0), (9, 0)] := rfl
@[simp] theorem K_123_6 : K 123 6 = some [(0, 0), (1, 0), (2, 0), (7, 0), (8, 0), (10, 0)] := rfl
@[simp] theorem K_124_0 : K 124 0 = some [(0, 0), (1, 0), (9, 0), (10, 0)] := rfl
@[simp] theorem K_124_2 : K 124 2 = some [(0, 0), (1, 0), (9, 0), (10, 0)] := rfl
@[simp] theorem K_124_4 : K 124 4 = some [(0, 0), (1, 0), (9, 0), (10, 0)] := rfl
@[simp] theorem K_125_0 : K 125 0 = some [(0, 0), (1, 0), (10, 0), (11, 0)] := rfl
@[simp] theorem K_125_2 : K 125 2 = some [(0, 0), (1, 0), (10, 0), (11, 0)] := rfl
@[simp] theorem K_125_4 : K 125 4 = some [(0, 0), (1, 0), (10, 0), (11, 0)] := rfl
@[simp] theorem K_125_6 : K 125 6 = some [(0, 0), (1, 0), (10, 0), (11, 0)] := rfl
@[simp] theorem K_125_8 : K 125 8 = some [(0, 0), (1, 0), (10, 0), (11, 0)] := rfl
@[simp] theorem K_128_0 : K 128 0 = some [(0, 0), (11, 1), (45, 0), (46, 0), (47, 0)] := rfl
@[simp] theorem K_129_0 : K 129 0 = some [(0, 0), (1, 0), (2, 0), (6, 0)] := rfl
@[simp] theorem K_129_2 : K 129 2 = some [(0, 0), (1, 0), (2, 0), (6, 0), (7, 0)] := rfl
@[simp] theorem K_130_0 : K 130 0 = some [(0, 0), (6, 0), (7, 0), (8, 0), (9, 0)] := rfl
@[simp] theorem K_130_2 : K 130 2 = some [(0, 0), (6, 0), (7, 0), (10, 0)] := rfl
@[simp] theorem K_131_0 : K 131 0 = some [(0, 0), (1, 0), (6, 0), (7, 0), (8, 0), (9, 0)] := rfl
@[simp] theorem K_133_0 : K 133 0 = some [(0, 0), (6, 0), (7, 0)] := rfl
@[simp] theorem K_134_0 : K 134 0 = some [(0, 0), (1, 0), (2, 0), (7, 0), (8, 0)] := rfl
@[simp] theorem K_134_2 : K 134 2 = some [(0, 0), (1, 0), (2, 0), (7, 0), (8, 0)] := rfl
@[simp] theorem K_134_4 : K 134 4 = some [(0, 0), (1, 0), (2, 0), (7, 0), (8, 0), (9, 0)] := rfl
@[simp] theorem K_134_6 : K 134 6 = some [(0, 0), (1, 0), (2, 0), (7, 0), (8, 0), (10, 0)] := rfl
@[simp] theorem K_135_0 : K 135 0 = some [(0, 0), (1, 0), (9, 0), (10, 0)] := rfl
@[simp] theorem K_135_2 : K 135 2 = some [(0, 0), (1, 0), (9, 0), (10, 0)] := rfl
@[simp] theorem K_135_4 : K 135 4 = some [(0, 0), (1, 0), (9, 0), (10, 0)] := rfl
@[simp] theorem K_136_0 : K 136 0 = some [(0, 0), (1, 0), (10, 0), (11, 0)] := rfl
@[simp] theorem K_136_2 : K 136 2 = some [(0, 0), (1, 0), (10, 0), (11, 0)] := rfl
@[simp] theorem K_136_4 : K 136 4 = some [(0, 0), (1, 0), (10, 0), (11, 0)] := rfl
@[simp] theorem K_136_6 : K 136 6 = some [(0, 0), (1, 0), (10, 0), (11, 0)] := rfl
@[simp] theorem K_136_8 : K 136 8 = some [(0, 0), (1, 0), (10, 0), (11, 0)] := rfl
@[simp] theorem K_137_0 : K 137 0 = some [(0, 0), (2, 0), (3, 0), (8, 0)] := rfl
@[simp] theorem K_142_0 : K 142 0 = some [(0, 0), (2, 0), (3, 0), (8, 0)] := rfl
@[simp] theorem Hn_3_5 : Hn 3 5 = [4, 6, 8] := rfl
@[simp] theorem Hn_4_11 : Hn 4 11 = [] := rfl
@[simp] theorem Hn_4_12 : Hn 4 12 = [] := rfl
@[simp] theorem Hn_8_9 : Hn 8 9 = [] := rfl
@[simp] theorem Hn_15_6 : Hn 15 6 = [] := rfl
@[simp] theorem Hn_18_16 : Hn 18 16 = [] := rfl
@[simp] theorem Hn_18_35 : Hn 18 35 = [] := rfl
@[simp] theorem Hn_20_5 : Hn 20 5 = [] := rfl
@[simp] theorem Hn_20_7 : Hn 20 7 = [] := rfl
@[simp] theorem Hn_20_18 : Hn 20 18 = [] := rfl
@[simp] theorem Hn_20_20 : Hn 20 20 = [1] := rfl
@[simp] theorem Hn_23_16 : Hn 23 16 = [] := rfl
@[simp] theorem Hn_23_23 : Hn 23 23 = [] := rfl
@[simp] theorem Hn_23_36 : Hn 23 36 = [] := rfl
@[simp] theorem Hn_26_29 : Hn 26 29 = [] := rfl
@[simp] theorem Hn_27_13 : Hn 27 13 = [] := rfl
@[simp] theorem Hn_27_16 : Hn 27 16 = [] := rfl
@[simp] theorem Hn_28_6 : Hn 28 6 = [] := rfl
@[simp] theorem Hn_34_6 : Hn 34 6 = [] := rfl
@[simp] theorem Hn_38_7 : Hn 38 7 = [] := rfl
@[simp] theorem Hn_38_9 : Hn 38 9 = [] := rfl
@[simp] theorem Hn_43_5 : Hn 43 5 = [] := rfl
@[simp] theorem Hn_48_10 : Hn 48 10 = [] := rfl
@[simp] theorem Hn_48_12 : Hn 48 12 = [] := rfl
@[simp] theorem Hn_52_4 : Hn 52 4 = [8] := rfl
@[simp] theorem Hn_57_6 : Hn 57 6 = [] := rfl
@[simp] theorem Hn_67_31 : Hn 67 31 = [6] := rfl
@[simp] theorem Hn_78_4 : Hn 78 4 = [8] := rfl
@[simp] theorem Hn_79_9 : Hn 79 9 = [] := rfl
@[simp] theorem Hn_86_11 : Hn 86 11 = [] := rfl
@[simp] theorem Hn_91_6 : Hn 91 6 = [] := rfl
@[simp] theorem Hn_91_11 : Hn 91 11 = [] := rfl
@[simp] theorem Hn_93_9 : Hn 93 9 = [] := rfl
@[simp] theorem Hn_94_16 : Hn 94 16 = [] := rfl
@[simp] theorem Hn_99_6 : Hn 99 6 = [] := rfl
@[simp] theorem Hn_99_11 : Hn 99 11 = [] := rfl
@[simp] theorem Hn_106_15 : Hn 106 15 = [6, 7] := rfl
@[simp] theorem Hn_108_17 : Hn 108 17 = [] := rfl
@[simp] theorem Hn_114_17 : Hn 114 17 = [] := rfl
@[simp] theorem Hn_118_4 : Hn 118 4 = [] := rfl
@[simp] theorem Hn_118_6 : Hn 118 6 = [] := rfl
@[simp] theorem Hn_119_10 : Hn 119 10 = [] := rfl
@[simp] theorem Hn_120_10 : Hn 120 10 = [] := rfl
@[simp] theorem Hn_122_3 : Hn 122 3 = [] := rfl
@[simp] theorem Hn_123_5 : Hn 123 5 = [] := rfl
@[simp] theorem Hn_123_11 : Hn 123 11 = [] := rfl
@[simp] theorem Hn_123_16 : Hn 123 16 = [] := rfl
@[simp] theorem Hn_123_17 : Hn 123 17 = [] := rfl
@[simp] theorem Hn_123_22 : Hn 123 22 = [] := rfl
@[simp] theorem Hn_123_23 : Hn 123 23 = [] := rfl
@[simp] theorem Hn_124_1 : Hn 124 1 = [] := rfl
@[simp] theorem Hn_124_3 : Hn 124 3 = [] := rfl
@[simp] theorem Hn_124_5 : Hn 124 5 = [] := rfl
@[simp] theorem Hn_124_8 : Hn 124 8 = [] := rfl
@[simp] theorem Hn_125_1 : Hn 125 1 = [] := rfl
@[simp] theorem Hn_125_3 : Hn 125 3 = [] := rfl
@[simp] theorem Hn_125_5 : Hn 125 5 = [] := rfl
@[simp] theorem Hn_125_8 : Hn 125 8 = [] := rfl
@[simp] theorem Hn_125_10 : Hn 125 10 = [] := rfl
@[simp] theorem Hn_125_13 : Hn 125 13 = [] := rfl
@[simp] theorem Hn_125_15 : Hn 125 15 = [] := rfl
@[simp] theorem Hn_125_18 : Hn 125 18 = [] := rfl
@[simp] theorem Hn_125_21 : Hn 125 21 = [] := rfl
@[simp] theorem Hn_129_4 : Hn 129 4 = [] := rfl
@[simp] theorem Hn_129_6 : Hn 129 6 = [] := rfl
@[simp] theorem Hn_130_10 : Hn 130 10 = [] := rfl
@[simp] theorem Hn_131_10 : Hn 131 10 = [] := rfl
@[simp] theorem Hn_133_3 : Hn 133 3 = [] := rfl
@[simp] theorem Hn_134_5 : Hn 134 5 = [] := rfl
@[simp] theorem Hn_134_11 : Hn 134 11 = [] := rfl
@[simp] theorem Hn_134_16 : Hn 134 16 = [] := rfl
@[simp] theorem Hn_134_17 : Hn 134 17 = [] := rfl
@[simp] theorem Hn_134_22 : Hn 134 22 = [] := rfl
@[simp] theorem Hn_134_23 : Hn 134 23 = [] := rfl
@[simp] theorem Hn_135_1 : Hn 135 1 = [] := rfl
@[simp] theorem Hn_135_3 : Hn 135 3 = [] := rfl
@[simp] theorem Hn_135_5 : Hn 135 5 = [] := rfl
@[simp] theorem Hn_135_8 : Hn 135 8 = [] := rfl
@[simp] theorem Hn_136_1 : Hn 136 1 = [] := rfl
@[simp] theorem Hn_136_3 : Hn 136 3 = [] := rfl
@[simp] theorem Hn_136_5 : Hn 136 5 = [] := rfl
@[simp] theorem Hn_136_8 : Hn 136 8 = [] := rfl
@[simp] theorem Hn_136_10 : Hn 136 10 = [] := rfl
@[simp] theorem Hn_136_13 : Hn 136 13 = [] := rfl
@[simp] theorem Hn_136_15 : Hn 136 15 = [] := rfl
@[simp] theorem Hn_136_18 : Hn 136 18 = [] := rfl
@[simp] theorem Hn_136_21 : Hn 136 21 = [] := rfl
@[simp] theorem Hn_137_3 : Hn 137 3 = [] := rfl
@[simp] theorem Hn_137_5 : Hn 137 5 = [] := rfl
@[simp] theorem Hn_137_6 : Hn 137 6 = [] := rfl
@[simp] theorem Hn_139_1 : Hn 139 1 = [] := rfl
@[simp] theorem Hn_139_2 : Hn 139 2 = [] := rfl
@[simp] theorem Hn_139_3 : Hn 139 3 = [] := rfl
@[simp] theorem Hn_142_3 : Hn 142 3 = [] := rfl
@[simp] theorem Hn_142_5 : Hn 142 5 = [] := rfl
@[simp] theorem Hn_142_6 : Hn 142 6 = [] := rfl
@[simp] theorem Hn_145_1 : Hn 145 1 = [] := rfl
@[simp] theorem Hn_146_1 : Hn 146 1 = [] := rfl
noncomputable abbrev R : Run := Runs Try.prog G K Hn
end Go.Am.Ab
namespace Go.Am.Ab
structure Fld where
  id : Int
  name : ByteArray
  kind : Int
  need : Bool
structure Sch where
  id : Int
  fields : List Fld
structure Snap where
  id : Int
  parent : Int
  seq : Int
  offset : Int
  time : Int
  schema : Int
  mans : List ByteArray
structure Tab where
  schemas : List Sch
  snaps : List Snap
  current : Int
structure Pol where
  keep : Int
  age : Int
abbrev u64 (n : Int) : D := .int .u64 n
abbrev i64 (n : Int) : D := .int .i64 n
def Fld.d (f : Fld) : D := .agg [.int .u32 f.id, .str f.name, .int .u8 f.kind, .bool f.need]
def Sch.d (s : Sch) : D := .agg [.int .u32 s.id, .list (s.fields.map Fld.d)]
def Snap.d (s : Snap) : D := .agg [.int .u64 s.id, .int .u64 s.parent, .int .u64 s.seq, .int .u64 s.offset, .int .u64 s.time, .int .u32 s.schema, .list (s.mans.map .str)]
def Tab.d (t : Tab) : D := .agg [.list (t.schemas.map Sch.d), .list (t.snaps.map Snap.d), .int .u64 t.current]
def Pol.d (p : Pol) : D := .agg [.int .i64 p.keep, .int .u64 p.age]
attribute [simp] Fld.d Sch.d Snap.d Tab.d Pol.d
end Go.Am.Ab
namespace Go.Am

theorem bits_u8 : IntKind.bits .u8 = 8 := rfl
theorem bits_u32 : IntKind.bits .u32 = 32 := rfl
theorem bits_u64 : IntKind.bits .u64 = 64 := rfl
theorem bits_i64 : IntKind.bits .i64 = 64 := rfl
theorem wrap_mod_u8 (x : Int) : IntKind.u8.wrap x = x % 256 := by simp [IntKind.wrap, IntKind.signed, IntKind.bits]
theorem wrap_mod_u32 (x : Int) : IntKind.u32.wrap x = x % 4294967296 := by simp [IntKind.wrap, IntKind.signed, IntKind.bits]
theorem wrap_mod_u64 (x : Int) : IntKind.u64.wrap x = x % 18446744073709551616 := by simp [IntKind.wrap, IntKind.signed, IntKind.bits]
theorem wrap_mod_i64 (x : Int) : IntKind.i64.wrap x = if x % 18446744073709551616 ≥ 9223372036854775808 then x % 18446744073709551616 - 18446744073709551616 else x % 18446744073709551616 := by
  simp [IntKind.wrap, IntKind.signed, IntKind.bits]

/-- '|', '&', '^' of numbers without a sign. -/
theorem ofInt_nat (n : Nat) (w : Nat) : (BitVec.ofInt w (n : Int)).toNat = n % 2 ^ w := by
  rw [BitVec.toNat_ofInt]
  have : (n : Int) % ((2 ^ w : Nat) : Int) = ((n % 2 ^ w : Nat) : Int) := by rw [Int.natCast_emod]
  rw [this, Int.toNat_natCast]
theorem or_u64 {x y : Nat} (hx : x < 2 ^ 64) (hy : y < 2 ^ 64) : IntKind.u64.wrap (BitVec.ofInt 64 (x : Int) ||| BitVec.ofInt 64 (y : Int)).toNat = ((x ||| y : Nat) : Int) := by
  rw [BitVec.toNat_or, ofInt_nat, ofInt_nat, Nat.mod_eq_of_lt hx, Nat.mod_eq_of_lt hy, wrap_mod_u64]
  have := Nat.or_lt_two_pow hx hy
  omega
theorem and_u64 {x y : Nat} (hx : x < 2 ^ 64) (hy : y < 2 ^ 64) : IntKind.u64.wrap (BitVec.ofInt 64 (x : Int) &&& BitVec.ofInt 64 (y : Int)).toNat = ((x &&& y : Nat) : Int) := by
  rw [BitVec.toNat_and, ofInt_nat, ofInt_nat, Nat.mod_eq_of_lt hx, Nat.mod_eq_of_lt hy, wrap_mod_u64]
  have := Nat.and_lt_two_pow x hy
  omega
theorem xor_u64 {x y : Nat} (hx : x < 2 ^ 64) (hy : y < 2 ^ 64) : IntKind.u64.wrap (BitVec.ofInt 64 (x : Int) ^^^ BitVec.ofInt 64 (y : Int)).toNat = ((x ^^^ y : Nat) : Int) := by
  rw [BitVec.toNat_xor, ofInt_nat, ofInt_nat, Nat.mod_eq_of_lt hx, Nat.mod_eq_of_lt hy, wrap_mod_u64]
  have := Nat.xor_lt_two_pow hx hy
  omega
theorem or_u8 {x y : Nat} (hx : x < 2 ^ 8) (hy : y < 2 ^ 8) : IntKind.u8.wrap (BitVec.ofInt 8 (x : Int) ||| BitVec.ofInt 8 (y : Int)).toNat = ((x ||| y : Nat) : Int) := by
  rw [BitVec.toNat_or, ofInt_nat, ofInt_nat, Nat.mod_eq_of_lt hx, Nat.mod_eq_of_lt hy, wrap_mod_u8]
  have := Nat.or_lt_two_pow hx hy
  omega
theorem and_u8 {x y : Nat} (hx : x < 2 ^ 8) (hy : y < 2 ^ 8) : IntKind.u8.wrap (BitVec.ofInt 8 (x : Int) &&& BitVec.ofInt 8 (y : Int)).toNat = ((x &&& y : Nat) : Int) := by
  rw [BitVec.toNat_and, ofInt_nat, ofInt_nat, Nat.mod_eq_of_lt hx, Nat.mod_eq_of_lt hy, wrap_mod_u8]
  have := Nat.and_lt_two_pow x hy
  omega
theorem or_u32 {x y : Nat} (hx : x < 2 ^ 32) (hy : y < 2 ^ 32) : IntKind.u32.wrap (BitVec.ofInt 32 (x : Int) ||| BitVec.ofInt 32 (y : Int)).toNat = ((x ||| y : Nat) : Int) := by
  rw [BitVec.toNat_or, ofInt_nat, ofInt_nat, Nat.mod_eq_of_lt hx, Nat.mod_eq_of_lt hy, wrap_mod_u32]
  have := Nat.or_lt_two_pow hx hy
  omega
theorem and_u32 {x y : Nat} (hx : x < 2 ^ 32) (hy : y < 2 ^ 32) : IntKind.u32.wrap (BitVec.ofInt 32 (x : Int) &&& BitVec.ofInt 32 (y : Int)).toNat = ((x &&& y : Nat) : Int) := by
  rw [BitVec.toNat_and, ofInt_nat, ofInt_nat, Nat.mod_eq_of_lt hx, Nat.mod_eq_of_lt hy, wrap_mod_u32]
  have := Nat.and_lt_two_pow x hy
  omega
theorem xor_u32 {x y : Nat} (hx : x < 2 ^ 32) (hy : y < 2 ^ 32) : IntKind.u32.wrap (BitVec.ofInt 32 (x : Int) ^^^ BitVec.ofInt 32 (y : Int)).toNat = ((x ^^^ y : Nat) : Int) := by
  rw [BitVec.toNat_xor, ofInt_nat, ofInt_nat, Nat.mod_eq_of_lt hx, Nat.mod_eq_of_lt hy, wrap_mod_u32]
  have := Nat.xor_lt_two_pow hx hy
  omega

theorem intBin_or_u8 {x y : Int} (h1 : 0 ≤ x) (h2 : x < 256) (h3 : 0 ≤ y) (h4 : y < 256) : intBin .or .u8 x y = some (.int .u8 ((x.toNat ||| y.toNat : Nat) : Int)) := by
  obtain ⟨a, rfl⟩ := Int.eq_ofNat_of_zero_le h1
  obtain ⟨b, rfl⟩ := Int.eq_ofNat_of_zero_le h3
  show some (D.int .u8 _) = _
  rw [Int.toNat_natCast, Int.toNat_natCast]
  exact congrArg (fun z => some (D.int .u8 z)) (or_u8 (by omega) (by omega))
attribute [simp] intBin_or_u8
theorem intBin_and_u8 {x y : Int} (h1 : 0 ≤ x) (h2 : x < 256) (h3 : 0 ≤ y) (h4 : y < 256) : intBin .and .u8 x y = some (.int .u8 ((x.toNat &&& y.toNat : Nat) : Int)) := by
  obtain ⟨a, rfl⟩ := Int.eq_ofNat_of_zero_le h1
  obtain ⟨b, rfl⟩ := Int.eq_ofNat_of_zero_le h3
  show some (D.int .u8 _) = _
  rw [Int.toNat_natCast, Int.toNat_natCast]
  exact congrArg (fun z => some (D.int .u8 z)) (and_u8 (by omega) (by omega))
attribute [simp] intBin_and_u8
theorem intBin_or_u32 {x y : Int} (h1 : 0 ≤ x) (h2 : x < 4294967296) (h3 : 0 ≤ y) (h4 : y < 4294967296) : intBin .or .u32 x y = some (.int .u32 ((x.toNat ||| y.toNat : Nat) : Int)) := by
  obtain ⟨a, rfl⟩ := Int.eq_ofNat_of_zero_le h1
  obtain ⟨b, rfl⟩ := Int.eq_ofNat_of_zero_le h3
  show some (D.int .u32 _) = _
  rw [Int.toNat_natCast, Int.toNat_natCast]
  exact congrArg (fun z => some (D.int .u32 z)) (or_u32 (by omega) (by omega))
attribute [simp] intBin_or_u32
theorem intBin_and_u32 {x y : Int} (h1 : 0 ≤ x) (h2 : x < 4294967296) (h3 : 0 ≤ y) (h4 : y < 4294967296) : intBin .and .u32 x y = some (.int .u32 ((x.toNat &&& y.toNat : Nat) : Int)) := by
  obtain ⟨a, rfl⟩ := Int.eq_ofNat_of_zero_le h1
  obtain ⟨b, rfl⟩ := Int.eq_ofNat_of_zero_le h3
  show some (D.int .u32 _) = _
  rw [Int.toNat_natCast, Int.toNat_natCast]
  exact congrArg (fun z => some (D.int .u32 z)) (and_u32 (by omega) (by omega))
attribute [simp] intBin_and_u32
theorem intBin_xor_u32 {x y : Int} (h1 : 0 ≤ x) (h2 : x < 4294967296) (h3 : 0 ≤ y) (h4 : y < 4294967296) : intBin .xor .u32 x y = some (.int .u32 ((x.toNat ^^^ y.toNat : Nat) : Int)) := by
  obtain ⟨a, rfl⟩ := Int.eq_ofNat_of_zero_le h1
  obtain ⟨b, rfl⟩ := Int.eq_ofNat_of_zero_le h3
  show some (D.int .u32 _) = _
  rw [Int.toNat_natCast, Int.toNat_natCast]
  exact congrArg (fun z => some (D.int .u32 z)) (xor_u32 (by omega) (by omega))
attribute [simp] intBin_xor_u32
theorem intBin_or_u64 {x y : Int} (h1 : 0 ≤ x) (h2 : x < 18446744073709551616) (h3 : 0 ≤ y) (h4 : y < 18446744073709551616) : intBin .or .u64 x y = some (.int .u64 ((x.toNat ||| y.toNat : Nat) : Int)) := by
  obtain ⟨a, rfl⟩ := Int.eq_ofNat_of_zero_le h1
  obtain ⟨b, rfl⟩ := Int.eq_ofNat_of_zero_le h3
  show some (D.int .u64 _) = _
  rw [Int.toNat_natCast, Int.toNat_natCast]
  exact congrArg (fun z => some (D.int .u64 z)) (or_u64 (by omega) (by omega))
attribute [simp] intBin_or_u64
theorem intBin_and_u64 {x y : Int} (h1 : 0 ≤ x) (h2 : x < 18446744073709551616) (h3 : 0 ≤ y) (h4 : y < 18446744073709551616) : intBin .and .u64 x y = some (.int .u64 ((x.toNat &&& y.toNat : Nat) : Int)) := by
  obtain ⟨a, rfl⟩ := Int.eq_ofNat_of_zero_le h1
  obtain ⟨b, rfl⟩ := Int.eq_ofNat_of_zero_le h3
  show some (D.int .u64 _) = _
  rw [Int.toNat_natCast, Int.toNat_natCast]
  exact congrArg (fun z => some (D.int .u64 z)) (and_u64 (by omega) (by omega))
attribute [simp] intBin_and_u64
theorem intBin_xor_u64 {x y : Int} (h1 : 0 ≤ x) (h2 : x < 18446744073709551616) (h3 : 0 ≤ y) (h4 : y < 18446744073709551616) : intBin .xor .u64 x y = some (.int .u64 ((x.toNat ^^^ y.toNat : Nat) : Int)) := by
  obtain ⟨a, rfl⟩ := Int.eq_ofNat_of_zero_le h1
  obtain ⟨b, rfl⟩ := Int.eq_ofNat_of_zero_le h3
  show some (D.int .u64 _) = _
  rw [Int.toNat_natCast, Int.toNat_natCast]
  exact congrArg (fun z => some (D.int .u64 z)) (xor_u64 (by omega) (by omega))
attribute [simp] intBin_xor_u64

/-- x | y where y is less than a power of two by which x can be divided. -/
theorem or_add {x y i : Nat} (hx : x % 2 ^ i = 0) (hy : y < 2 ^ i) : x ||| y = x + y := by
  have e : x = 2 ^ i * (x / 2 ^ i) := by
    have := Nat.div_add_mod x (2 ^ i)
    omega
  rw [e, Nat.two_pow_add_eq_or_of_lt hy]
theorem or_add' {x y i : Nat} (hx : x % 2 ^ i = 0) (hy : y < 2 ^ i) : y ||| x = y + x := by rw [Nat.or_comm, or_add hx hy, Nat.add_comm]

theorem or128 (n : Nat) : (n % 256 ||| 128) = n % 128 + 128 := by
  have h1 : n % 256 = n % 128 + 128 * (n / 128 % 2) := by omega
  have h2 : n / 128 % 2 = 0 ∨ n / 128 % 2 = 1 := by omega
  have h3 : n % 128 < 2 ^ 7 := by omega
  rcases h2 with h | h
  · rw [h1, h, Nat.mul_zero, Nat.add_zero]
    rw [or_add' (i := 7) (by decide) h3]
  · rw [h1, h, Nat.mul_one]
    have : n % 128 + 128 = n % 128 ||| 128 := (or_add' (i := 7) (by decide) h3).symm
    rw [this, Nat.or_assoc, Nat.or_self]
theorem and_mask (n k : Nat) : n &&& (2 ^ k - 1) = n % 2 ^ k := Nat.and_two_pow_sub_one_eq_mod n k
theorem and127 (n : Nat) : n &&& 127 = n % 128 := and_mask n 7
theorem and1 (n : Nat) : n &&& 1 = n % 2 := and_mask n 1
theorem xor_ones {x : Nat} (hx : x < 2 ^ 64) : x ^^^ 18446744073709551615 = 18446744073709551615 - x := by
  have h : (BitVec.ofNat 64 x ^^^ BitVec.allOnes 64).toNat = (~~~ BitVec.ofNat 64 x).toNat := by rw [BitVec.xor_allOnes]
  rw [BitVec.toNat_xor, BitVec.toNat_not, BitVec.toNat_ofNat, BitVec.toNat_allOnes, Nat.mod_eq_of_lt hx] at h
  exact h

theorem intBin_xor_i64_zero {x : Int} (h1 : -9223372036854775808 ≤ x) (h2 : x ≤ 9223372036854775807) : intBin .xor .i64 x 0 = some (.int .i64 x) := by
  show some (D.int .i64 (IntKind.i64.wrap (BitVec.ofInt 64 x ^^^ BitVec.ofInt 64 0).toNat)) = _
  have : BitVec.ofInt 64 0 = 0#64 := rfl
  rw [this, BitVec.xor_zero, BitVec.toNat_ofInt, wrap_mod_i64]
  congr 2
  split <;> omega
theorem intBin_xor_i64_m1 {x : Int} (h1 : -9223372036854775808 ≤ x) (h2 : x ≤ 9223372036854775807) : intBin .xor .i64 x (-1) = some (.int .i64 (-x - 1)) := by
  show some (D.int .i64 (IntKind.i64.wrap (BitVec.ofInt 64 x ^^^ BitVec.ofInt 64 (-1)).toNat)) = _
  have : BitVec.ofInt 64 (-1) = BitVec.allOnes 64 := by decide
  rw [this, BitVec.xor_allOnes, BitVec.toNat_not, BitVec.toNat_ofInt, wrap_mod_i64]
  congr 2
  split <;> omega
attribute [simp] intBin_xor_i64_zero intBin_xor_i64_m1

/-- A byte. -/
def u8n (n : Nat) : UInt8 := UInt8.ofNat n
theorem u8n_toNat {n : Nat} (h : n < 256) : (u8n n).toNat = n := by simp [u8n]; omega
theorem u8n_of (b : UInt8) : u8n b.toNat = b := by simp [u8n]
abbrev bytes (l : List UInt8) : List D := l.map byteD
theorem byteD_eq {b : UInt8} {x : Int} (h : (b.toNat : Int) = x) : byteD b = .int .u8 x := by simp [byteD, h]
theorem u8_toNat {n : Nat} (h : n < 256) : (UInt8.ofNat n).toNat = n := by simp; omega
theorem toNat_lt' (b : UInt8) : b.toNat < 256 := b.toNat_lt
theorem fdiv_nat (x k : Nat) : ((x : Int).fdiv (2 ^ k)) = ((x / 2 ^ k : Nat) : Int) := by
  rw [Int.fdiv_eq_ediv_of_nonneg _ (by exact Int.le_of_lt (Int.pow_pos (by decide)))]
  rw [Int.natCast_ediv]
  simp
@[simp] theorem mk_toList (l : List UInt8) : (ByteArray.mk l.toArray).toList = l := by rw [ByteArray.toList_eq]
@[simp] theorem mk_size (l : List UInt8) : (ByteArray.mk l.toArray).size = l.length := by simp [ByteArray.size]
@[simp] theorem bytes_comp (l : List UInt8) : l.mapM (byteOf? ∘ byteD) = some l := by rw [← List.mapM_map]; exact bytes_of_map l
@[simp] theorem bytes_take (l : List UInt8) (k : Nat) : ((l.map byteD).take k).mapM byteOf? = some (l.take k) := by rw [← List.map_take, bytes_of_map]
@[simp] theorem bytes_drop (l : List UInt8) (k : Nat) : ((l.map byteD).drop k).mapM byteOf? = some (l.drop k) := by rw [← List.map_drop, bytes_of_map]
@[simp] theorem bytes_take_drop (l : List UInt8) (k j : Nat) : (((l.map byteD).take k).drop j).mapM byteOf? = some ((l.take k).drop j) := by rw [← List.map_take, ← List.map_drop, bytes_of_map]
@[simp] theorem allSize_bytes (l : List UInt8) : allSize 1 (l.map byteD) = true := allSize_map l fun _ => rfl
@[simp] theorem allSize_ints {α : Type} (k : IntKind) (f : α → Int) (l : List α) : allSize 1 (l.map fun x => D.int k (f x)) = true := allSize_map l fun _ => rfl
@[simp] theorem allSize_strs (l : List ByteArray) : allSize 1 (l.map D.str) = true := allSize_map l fun _ => rfl
attribute [simp] cut
@[simp] theorem take_map_len {α β : Type} (f : α → β) (l : List α) : (l.map f).take l.length = l.map f := List.take_of_length_le (by simp)
attribute [simp] byteD u8n_toNat or128 and127 and1 u8n_of
attribute [simp] wrap_mod_u8 wrap_mod_u32 bits_u8 bits_u32 bits_u64 bits_i64
@[simp] theorem toNat_mod256 (m : Nat) : ((m : Int) % 256).toNat = m % 256 := by omega
@[simp] theorem toNat_mod32 (m : Nat) : ((m : Int) % 4294967296).toNat = m % 4294967296 := by omega
@[simp] theorem toNat_mod64 (m : Nat) : ((m : Int) % 18446744073709551616).toNat = m % 18446744073709551616 := by omega
theorem fdiv_pos (a b : Int) (h : 0 ≤ b) : a.fdiv b = a / b := Int.fdiv_eq_ediv_of_nonneg a h
@[simp] theorem fdiv_pow (a : Int) (w : Nat) : a.fdiv (2 ^ w) = a / 2 ^ w := fdiv_pos a _ (Int.le_of_lt (Int.pow_pos (by decide)))
attribute [simp] fdiv_pos
theorem tdiv_pos (a b : Int) (h : 0 ≤ a) : a.tdiv b = a / b := Int.tdiv_eq_ediv_of_nonneg h
theorem tmod_pos (a b : Int) (h : 0 ≤ a) : a.tmod b = a % b := Int.tmod_eq_emod_of_nonneg h
attribute [simp] tdiv_pos tmod_pos
theorem byteD_nat {n m : Nat} (h : n < 256) (e : n = m) : byteD (u8n n) = .int .u8 (m : Int) := byteD_eq (by rw [u8n_toNat h, e])
end Go.Am
