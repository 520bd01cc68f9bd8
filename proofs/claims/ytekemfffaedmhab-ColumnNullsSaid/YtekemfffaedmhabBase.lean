/- Facts on the types of the program, what loops keep, numbers. -/
import Derived.Test.YtekemfffaedmhabProg
import Derived.KernelRfl
import Derived.Test.YtekemfffaedmhabMachD
set_option linter.all false
namespace Go.Am.Ab
open Go.Proofs
attribute [simp] Try.underlying0
@[simp] theorem sz0 : sizeOf? Try.prog 0 = some 1 := by kernel_rfl
@[simp] theorem ag0 : agg? Try.prog 0 = some false := by kernel_rfl
attribute [simp] Try.underlying2
@[simp] theorem sz2 : sizeOf? Try.prog 2 = some 1 := by kernel_rfl
@[simp] theorem ag2 : agg? Try.prog 2 = some false := by kernel_rfl
@[simp] theorem zs2 : zeroVs? Try.prog 2 = some [.d (.int .i64 0)] := by kernel_rfl
@[simp] theorem al2 (h : List Am.Obj) : allocV Try.prog h 2 = some (.ptr h.length 0, h ++ [.box [.d (.int .i64 0)]]) := allocV_of zs2
@[simp] theorem zv2 : (zero? Try.prog 2).isSome = true := by kernel_rfl
@[simp] theorem ap2 : appElem? Try.prog 2 = some 1 := by kernel_rfl
@[simp] theorem mk2 : makeElem? Try.prog 2 = some (1, .int .i64 0) := by kernel_rfl
@[simp] theorem zd2 : zeroD? Try.prog 2 = some (.int .i64 0) := by kernel_rfl
attribute [simp] Try.underlying3
@[simp] theorem sz3 : sizeOf? Try.prog 3 = some 1 := by kernel_rfl
@[simp] theorem ag3 : agg? Try.prog 3 = some false := by kernel_rfl
@[simp] theorem zs3 : zeroVs? Try.prog 3 = some [.d (.int .i64 0)] := by kernel_rfl
@[simp] theorem al3 (h : List Am.Obj) : allocV Try.prog h 3 = some (.ptr h.length 0, h ++ [.box [.d (.int .i64 0)]]) := allocV_of zs3
@[simp] theorem zv3 : (zero? Try.prog 3).isSome = true := by kernel_rfl
@[simp] theorem ap3 : appElem? Try.prog 3 = some 1 := by kernel_rfl
@[simp] theorem mk3 : makeElem? Try.prog 3 = some (1, .int .i64 0) := by kernel_rfl
@[simp] theorem zd3 : zeroD? Try.prog 3 = some (.int .i64 0) := by kernel_rfl
attribute [simp] Try.underlying4
@[simp] theorem sz4 : sizeOf? Try.prog 4 = some 1 := by kernel_rfl
@[simp] theorem ag4 : agg? Try.prog 4 = some false := by kernel_rfl
@[simp] theorem zs4 : zeroVs? Try.prog 4 = some [.d (.bool false)] := by kernel_rfl
@[simp] theorem al4 (h : List Am.Obj) : allocV Try.prog h 4 = some (.ptr h.length 0, h ++ [.box [.d (.bool false)]]) := allocV_of zs4
@[simp] theorem zv4 : (zero? Try.prog 4).isSome = true := by kernel_rfl
@[simp] theorem ap4 : appElem? Try.prog 4 = some 1 := by kernel_rfl
@[simp] theorem mk4 : makeElem? Try.prog 4 = some (1, .bool false) := by kernel_rfl
@[simp] theorem zd4 : zeroD? Try.prog 4 = some (.bool false) := by kernel_rfl
attribute [simp] Try.underlying5
@[simp] theorem sz5 : sizeOf? Try.prog 5 = some 1 := by kernel_rfl
@[simp] theorem ag5 : agg? Try.prog 5 = some false := by kernel_rfl
@[simp] theorem zs5 : zeroVs? Try.prog 5 = some [.d (.int .u8 0)] := by kernel_rfl
@[simp] theorem al5 (h : List Am.Obj) : allocV Try.prog h 5 = some (.ptr h.length 0, h ++ [.box [.d (.int .u8 0)]]) := allocV_of zs5
@[simp] theorem zv5 : (zero? Try.prog 5).isSome = true := by kernel_rfl
@[simp] theorem ap5 : appElem? Try.prog 5 = some 1 := by kernel_rfl
@[simp] theorem mk5 : makeElem? Try.prog 5 = some (1, .int .u8 0) := by kernel_rfl
@[simp] theorem zd5 : zeroD? Try.prog 5 = some (.int .u8 0) := by kernel_rfl
attribute [simp] Try.underlying9
@[simp] theorem sz9 : sizeOf? Try.prog 9 = some 1 := by kernel_rfl
@[simp] theorem ag9 : agg? Try.prog 9 = some false := by kernel_rfl
@[simp] theorem zs9 : zeroVs? Try.prog 9 = some [.d (.str ⟨#[]⟩)] := by kernel_rfl
@[simp] theorem al9 (h : List Am.Obj) : allocV Try.prog h 9 = some (.ptr h.length 0, h ++ [.box [.d (.str ⟨#[]⟩)]]) := allocV_of zs9
@[simp] theorem zv9 : (zero? Try.prog 9).isSome = true := by kernel_rfl
@[simp] theorem ap9 : appElem? Try.prog 9 = some 1 := by kernel_rfl
@[simp] theorem mk9 : makeElem? Try.prog 9 = some (1, .str ⟨#[]⟩) := by kernel_rfl
@[simp] theorem zd9 : zeroD? Try.prog 9 = some (.str ⟨#[]⟩) := by kernel_rfl
attribute [simp] Try.underlying20
@[simp] theorem sz20 : sizeOf? Try.prog 20 = some 1 := by kernel_rfl
@[simp] theorem ag20 : agg? Try.prog 20 = some false := by kernel_rfl
@[simp] theorem zs20 : zeroVs? Try.prog 20 = some [.d .nilI] := by kernel_rfl
@[simp] theorem al20 (h : List Am.Obj) : allocV Try.prog h 20 = some (.ptr h.length 0, h ++ [.box [.d .nilI]]) := allocV_of zs20
@[simp] theorem zv20 : (zero? Try.prog 20).isSome = true := by kernel_rfl
@[simp] theorem ap20 : appElem? Try.prog 20 = some 1 := by kernel_rfl
@[simp] theorem mk20 : makeElem? Try.prog 20 = some (1, .nilI) := by kernel_rfl
@[simp] theorem zd20 : zeroD? Try.prog 20 = some (.nilI) := by kernel_rfl
attribute [simp] Try.underlying22
@[simp] theorem sz22 : sizeOf? Try.prog 22 = some 1 := by kernel_rfl
@[simp] theorem ag22 : agg? Try.prog 22 = some false := by kernel_rfl
@[simp] theorem zs22 : zeroVs? Try.prog 22 = some [.nilS] := by kernel_rfl
@[simp] theorem al22 (h : List Am.Obj) : allocV Try.prog h 22 = some (.ptr h.length 0, h ++ [.box [.nilS]]) := allocV_of zs22
@[simp] theorem zv22 : (zero? Try.prog 22).isSome = true := by kernel_rfl
@[simp] theorem ap22 : appElem? Try.prog 22 = some 1 := by kernel_rfl
@[simp] theorem mk22 : makeElem? Try.prog 22 = some (1, .list []) := by kernel_rfl
@[simp] theorem zd22 : zeroD? Try.prog 22 = some (.list []) := by kernel_rfl
@[simp] theorem es22 : elemSize Try.prog 22 = 3 := by kernel_rfl
attribute [simp] Try.underlying25
@[simp] theorem sz25 : sizeOf? Try.prog 25 = some 1 := by kernel_rfl
@[simp] theorem ag25 : agg? Try.prog 25 = some false := by kernel_rfl
@[simp] theorem zs25 : zeroVs? Try.prog 25 = some [.d (.int .u8 0)] := by kernel_rfl
@[simp] theorem al25 (h : List Am.Obj) : allocV Try.prog h 25 = some (.ptr h.length 0, h ++ [.box [.d (.int .u8 0)]]) := allocV_of zs25
@[simp] theorem zv25 : (zero? Try.prog 25).isSome = true := by kernel_rfl
@[simp] theorem ap25 : appElem? Try.prog 25 = some 1 := by kernel_rfl
@[simp] theorem mk25 : makeElem? Try.prog 25 = some (1, .int .u8 0) := by kernel_rfl
@[simp] theorem zd25 : zeroD? Try.prog 25 = some (.int .u8 0) := by kernel_rfl
attribute [simp] Try.underlying26
@[simp] theorem sz26 : sizeOf? Try.prog 26 = some 3 := by kernel_rfl
@[simp] theorem ag26 : agg? Try.prog 26 = some true := by kernel_rfl
@[simp] theorem zs26 : zeroVs? Try.prog 26 = some [.d (.int .u8 0), .d (.int .i64 0), .d (.str ⟨#[]⟩)] := by kernel_rfl
@[simp] theorem al26 (h : List Am.Obj) : allocV Try.prog h 26 = some (.ptr h.length 0, h ++ [.box [.d (.int .u8 0), .d (.int .i64 0), .d (.str ⟨#[]⟩)]]) := allocV_of zs26
@[simp] theorem zv26 : (zero? Try.prog 26).isSome = true := by kernel_rfl
@[simp] theorem ap26 : appElem? Try.prog 26 = some 3 := by kernel_rfl
@[simp] theorem bv26 (parts : List (Nat × V)) : buildV Try.prog 26 parts = (fillV (fun i => [(0, 1), (1, 1), (2, 1)][i]?) [.d (.int .u8 0), .d (.int .i64 0), .d (.str ⟨#[]⟩)] parts).map mkAgg := buildV_struct (by kernel_rfl) (by kernel_rfl)
@[simp] theorem fo26_0 : fieldOff? Try.prog 26 0 = some (0, 25) := by kernel_rfl
@[simp] theorem fo26_1 : fieldOff? Try.prog 26 1 = some (1, 2) := by kernel_rfl
@[simp] theorem fo26_2 : fieldOff? Try.prog 26 2 = some (2, 9) := by kernel_rfl
@[simp] theorem fs26 : flatStruct Try.prog 26 = some [(0, 0), (1, 0), (2, 2)] := by kernel_rfl
@[simp] theorem mk26 : makeElem? Try.prog 26 = some (3, .agg [.int .u8 0, .int .i64 0, .str ⟨#[]⟩]) := by kernel_rfl
@[simp] theorem zd26 : zeroD? Try.prog 26 = some (.agg [.int .u8 0, .int .i64 0, .str ⟨#[]⟩]) := by kernel_rfl
attribute [simp] Try.underlying27
@[simp] theorem sz27 : sizeOf? Try.prog 27 = some 3 := by kernel_rfl
@[simp] theorem ag27 : agg? Try.prog 27 = some true := by kernel_rfl
@[simp] theorem zs27 : zeroVs? Try.prog 27 = some [.d (.int .u8 0), .d (.int .i64 0), .d (.str ⟨#[]⟩)] := by kernel_rfl
@[simp] theorem al27 (h : List Am.Obj) : allocV Try.prog h 27 = some (.ptr h.length 0, h ++ [.box [.d (.int .u8 0), .d (.int .i64 0), .d (.str ⟨#[]⟩)]]) := allocV_of zs27
@[simp] theorem zv27 : (zero? Try.prog 27).isSome = true := by kernel_rfl
@[simp] theorem ap27 : appElem? Try.prog 27 = some 3 := by kernel_rfl
@[simp] theorem bv27 (parts : List (Nat × V)) : buildV Try.prog 27 parts = (fillV (fun i => [(0, 1), (1, 1), (2, 1)][i]?) [.d (.int .u8 0), .d (.int .i64 0), .d (.str ⟨#[]⟩)] parts).map mkAgg := buildV_struct (by kernel_rfl) (by kernel_rfl)
@[simp] theorem fo27_0 : fieldOff? Try.prog 27 0 = some (0, 25) := by kernel_rfl
@[simp] theorem fo27_1 : fieldOff? Try.prog 27 1 = some (1, 2) := by kernel_rfl
@[simp] theorem fo27_2 : fieldOff? Try.prog 27 2 = some (2, 9) := by kernel_rfl
@[simp] theorem fs27 : flatStruct Try.prog 27 = some [(0, 0), (1, 0), (2, 2)] := by kernel_rfl
@[simp] theorem mk27 : makeElem? Try.prog 27 = some (3, .agg [.int .u8 0, .int .i64 0, .str ⟨#[]⟩]) := by kernel_rfl
@[simp] theorem zd27 : zeroD? Try.prog 27 = some (.agg [.int .u8 0, .int .i64 0, .str ⟨#[]⟩]) := by kernel_rfl
attribute [simp] Try.underlying28
@[simp] theorem sz28 : sizeOf? Try.prog 28 = some 1 := by kernel_rfl
@[simp] theorem ag28 : agg? Try.prog 28 = some false := by kernel_rfl
@[simp] theorem zs28 : zeroVs? Try.prog 28 = some [.nilS] := by kernel_rfl
@[simp] theorem al28 (h : List Am.Obj) : allocV Try.prog h 28 = some (.ptr h.length 0, h ++ [.box [.nilS]]) := allocV_of zs28
@[simp] theorem zv28 : (zero? Try.prog 28).isSome = true := by kernel_rfl
@[simp] theorem ap28 : appElem? Try.prog 28 = some 1 := by kernel_rfl
@[simp] theorem mk28 : makeElem? Try.prog 28 = some (1, .list []) := by kernel_rfl
@[simp] theorem zd28 : zeroD? Try.prog 28 = some (.list []) := by kernel_rfl
@[simp] theorem es28 : elemSize Try.prog 28 = 1 := by kernel_rfl
attribute [simp] Try.underlying29
@[simp] theorem sz29 : sizeOf? Try.prog 29 = some 1 := by kernel_rfl
@[simp] theorem ag29 : agg? Try.prog 29 = some false := by kernel_rfl
@[simp] theorem zs29 : zeroVs? Try.prog 29 = some [.d (.int .i64 0)] := by kernel_rfl
@[simp] theorem al29 (h : List Am.Obj) : allocV Try.prog h 29 = some (.ptr h.length 0, h ++ [.box [.d (.int .i64 0)]]) := allocV_of zs29
@[simp] theorem zv29 : (zero? Try.prog 29).isSome = true := by kernel_rfl
@[simp] theorem ap29 : appElem? Try.prog 29 = some 1 := by kernel_rfl
@[simp] theorem mk29 : makeElem? Try.prog 29 = some (1, .int .i64 0) := by kernel_rfl
@[simp] theorem zd29 : zeroD? Try.prog 29 = some (.int .i64 0) := by kernel_rfl
attribute [simp] Try.underlying30
@[simp] theorem sz30 : sizeOf? Try.prog 30 = some 1 := by kernel_rfl
@[simp] theorem ag30 : agg? Try.prog 30 = some false := by kernel_rfl
attribute [simp] Try.underlying32
@[simp] theorem sz32 : sizeOf? Try.prog 32 = some 1 := by kernel_rfl
@[simp] theorem ag32 : agg? Try.prog 32 = some false := by kernel_rfl
@[simp] theorem zs32 : zeroVs? Try.prog 32 = some [.nilS] := by kernel_rfl
@[simp] theorem al32 (h : List Am.Obj) : allocV Try.prog h 32 = some (.ptr h.length 0, h ++ [.box [.nilS]]) := allocV_of zs32
@[simp] theorem zv32 : (zero? Try.prog 32).isSome = true := by kernel_rfl
@[simp] theorem ap32 : appElem? Try.prog 32 = some 1 := by kernel_rfl
@[simp] theorem mk32 : makeElem? Try.prog 32 = some (1, .list []) := by kernel_rfl
@[simp] theorem zd32 : zeroD? Try.prog 32 = some (.list []) := by kernel_rfl
@[simp] theorem es32 : elemSize Try.prog 32 = 1 := by kernel_rfl
attribute [simp] Try.underlying35
@[simp] theorem sz35 : sizeOf? Try.prog 35 = some 1 := by kernel_rfl
@[simp] theorem ag35 : agg? Try.prog 35 = some false := by kernel_rfl
attribute [simp] Try.underlying40
@[simp] theorem sz40 : sizeOf? Try.prog 40 = some 1 := by kernel_rfl
@[simp] theorem ag40 : agg? Try.prog 40 = some false := by kernel_rfl
@[simp] theorem zs40 : zeroVs? Try.prog 40 = some [.d .nilI] := by kernel_rfl
@[simp] theorem al40 (h : List Am.Obj) : allocV Try.prog h 40 = some (.ptr h.length 0, h ++ [.box [.d .nilI]]) := allocV_of zs40
@[simp] theorem zv40 : (zero? Try.prog 40).isSome = true := by kernel_rfl
@[simp] theorem ap40 : appElem? Try.prog 40 = some 1 := by kernel_rfl
@[simp] theorem mk40 : makeElem? Try.prog 40 = some (1, .nilI) := by kernel_rfl
@[simp] theorem zd40 : zeroD? Try.prog 40 = some (.nilI) := by kernel_rfl
attribute [simp] Try.underlying44
@[simp] theorem sz44 : sizeOf? Try.prog 44 = some 1 := by kernel_rfl
@[simp] theorem ag44 : agg? Try.prog 44 = some false := by kernel_rfl
@[simp] theorem zs44 : zeroVs? Try.prog 44 = some [.nilS] := by kernel_rfl
@[simp] theorem al44 (h : List Am.Obj) : allocV Try.prog h 44 = some (.ptr h.length 0, h ++ [.box [.nilS]]) := allocV_of zs44
@[simp] theorem zv44 : (zero? Try.prog 44).isSome = true := by kernel_rfl
@[simp] theorem ap44 : appElem? Try.prog 44 = some 1 := by kernel_rfl
@[simp] theorem mk44 : makeElem? Try.prog 44 = some (1, .list []) := by kernel_rfl
@[simp] theorem zd44 : zeroD? Try.prog 44 = some (.list []) := by kernel_rfl
@[simp] theorem es44 : elemSize Try.prog 44 = 1 := by kernel_rfl
attribute [simp] Try.underlying45
@[simp] theorem sz45 : sizeOf? Try.prog 45 = some 1 := by kernel_rfl
@[simp] theorem ag45 : agg? Try.prog 45 = some false := by kernel_rfl
@[simp] theorem zs45 : zeroVs? Try.prog 45 = some [.nilS] := by kernel_rfl
@[simp] theorem al45 (h : List Am.Obj) : allocV Try.prog h 45 = some (.ptr h.length 0, h ++ [.box [.nilS]]) := allocV_of zs45
@[simp] theorem zv45 : (zero? Try.prog 45).isSome = true := by kernel_rfl
@[simp] theorem ap45 : appElem? Try.prog 45 = some 1 := by kernel_rfl
@[simp] theorem mk45 : makeElem? Try.prog 45 = some (1, .list []) := by kernel_rfl
@[simp] theorem zd45 : zeroD? Try.prog 45 = some (.list []) := by kernel_rfl
@[simp] theorem es45 : elemSize Try.prog 45 = 1 := by kernel_rfl
attribute [simp] Try.underlying46
@[simp] theorem sz46 : sizeOf? Try.prog 46 = some 1 := by kernel_rfl
@[simp] theorem ag46 : agg? Try.prog 46 = some false := by kernel_rfl
@[simp] theorem zs46 : zeroVs? Try.prog 46 = some [.nilS] := by kernel_rfl
@[simp] theorem al46 (h : List Am.Obj) : allocV Try.prog h 46 = some (.ptr h.length 0, h ++ [.box [.nilS]]) := allocV_of zs46
@[simp] theorem zv46 : (zero? Try.prog 46).isSome = true := by kernel_rfl
@[simp] theorem ap46 : appElem? Try.prog 46 = some 1 := by kernel_rfl
@[simp] theorem mk46 : makeElem? Try.prog 46 = some (1, .list []) := by kernel_rfl
@[simp] theorem zd46 : zeroD? Try.prog 46 = some (.list []) := by kernel_rfl
@[simp] theorem es46 : elemSize Try.prog 46 = 1 := by kernel_rfl
attribute [simp] Try.underlying47
@[simp] theorem sz47 : sizeOf? Try.prog 47 = some 1 := by kernel_rfl
@[simp] theorem ag47 : agg? Try.prog 47 = some false := by kernel_rfl
attribute [simp] Try.underlying48
@[simp] theorem sz48 : sizeOf? Try.prog 48 = some 1 := by kernel_rfl
@[simp] theorem ag48 : agg? Try.prog 48 = some false := by kernel_rfl
attribute [simp] Try.underlying49
@[simp] theorem sz49 : sizeOf? Try.prog 49 = some 1 := by kernel_rfl
@[simp] theorem ag49 : agg? Try.prog 49 = some false := by kernel_rfl
attribute [simp] Try.underlying52
@[simp] theorem sz52 : sizeOf? Try.prog 52 = some 1 := by kernel_rfl
@[simp] theorem ag52 : agg? Try.prog 52 = some false := by kernel_rfl
attribute [simp] Try.underlying59
@[simp] theorem sz59 : sizeOf? Try.prog 59 = some 1 := by kernel_rfl
@[simp] theorem ag59 : agg? Try.prog 59 = some false := by kernel_rfl
@[simp] theorem zs59 : zeroVs? Try.prog 59 = some [.nilS] := by kernel_rfl
@[simp] theorem al59 (h : List Am.Obj) : allocV Try.prog h 59 = some (.ptr h.length 0, h ++ [.box [.nilS]]) := allocV_of zs59
@[simp] theorem zv59 : (zero? Try.prog 59).isSome = true := by kernel_rfl
@[simp] theorem ap59 : appElem? Try.prog 59 = some 1 := by kernel_rfl
@[simp] theorem mk59 : makeElem? Try.prog 59 = some (1, .list []) := by kernel_rfl
@[simp] theorem zd59 : zeroD? Try.prog 59 = some (.list []) := by kernel_rfl
@[simp] theorem es59 : elemSize Try.prog 59 = 1 := by kernel_rfl
attribute [simp] Try.underlying60
@[simp] theorem sz60 : sizeOf? Try.prog 60 = some 1 := by kernel_rfl
@[simp] theorem ag60 : agg? Try.prog 60 = some false := by kernel_rfl
@[simp] theorem zs60 : zeroVs? Try.prog 60 = some [.d (.int .u64 0)] := by kernel_rfl
@[simp] theorem al60 (h : List Am.Obj) : allocV Try.prog h 60 = some (.ptr h.length 0, h ++ [.box [.d (.int .u64 0)]]) := allocV_of zs60
@[simp] theorem zv60 : (zero? Try.prog 60).isSome = true := by kernel_rfl
@[simp] theorem ap60 : appElem? Try.prog 60 = some 1 := by kernel_rfl
@[simp] theorem mk60 : makeElem? Try.prog 60 = some (1, .int .u64 0) := by kernel_rfl
@[simp] theorem zd60 : zeroD? Try.prog 60 = some (.int .u64 0) := by kernel_rfl
attribute [simp] Try.underlying63
@[simp] theorem sz63 : sizeOf? Try.prog 63 = some 1 := by kernel_rfl
@[simp] theorem ag63 : agg? Try.prog 63 = some false := by kernel_rfl
attribute [simp] Try.underlying64
@[simp] theorem sz64 : sizeOf? Try.prog 64 = some 1 := by kernel_rfl
@[simp] theorem ag64 : agg? Try.prog 64 = some false := by kernel_rfl
attribute [simp] Try.underlying67
@[simp] theorem sz67 : sizeOf? Try.prog 67 = some 1 := by kernel_rfl
@[simp] theorem ag67 : agg? Try.prog 67 = some false := by kernel_rfl
attribute [simp] Try.underlying71
@[simp] theorem sz71 : sizeOf? Try.prog 71 = some 1 := by kernel_rfl
@[simp] theorem ag71 : agg? Try.prog 71 = some false := by kernel_rfl
attribute [simp] Try.underlying74
@[simp] theorem sz74 : sizeOf? Try.prog 74 = some 5 := by kernel_rfl
@[simp] theorem ag74 : agg? Try.prog 74 = some true := by kernel_rfl
@[simp] theorem zs74 : zeroVs? Try.prog 74 = some [.d .nilF, .d .nilF, .d .nilF, .d .nilF, .d .nilF] := by kernel_rfl
@[simp] theorem al74 (h : List Am.Obj) : allocV Try.prog h 74 = some (.ptr h.length 0, h ++ [.box [.d .nilF, .d .nilF, .d .nilF, .d .nilF, .d .nilF]]) := allocV_of zs74
@[simp] theorem zv74 : (zero? Try.prog 74).isSome = true := by kernel_rfl
@[simp] theorem ap74 : appElem? Try.prog 74 = some 5 := by kernel_rfl
@[simp] theorem bv74 (parts : List (Nat × V)) : buildV Try.prog 74 parts = (fillV (fun i => some (i * 1, 1)) [.d .nilF, .d .nilF, .d .nilF, .d .nilF, .d .nilF] parts).map mkAgg := buildV_array (by kernel_rfl) Try.underlying74 (by kernel_rfl)
@[simp] theorem mk74 : makeElem? Try.prog 74 = some (5, .agg [.nilF, .nilF, .nilF, .nilF, .nilF]) := by kernel_rfl
@[simp] theorem zd74 : zeroD? Try.prog 74 = some (.agg [.nilF, .nilF, .nilF, .nilF, .nilF]) := by kernel_rfl
attribute [simp] Try.underlying77
@[simp] theorem sz77 : sizeOf? Try.prog 77 = some 1 := by kernel_rfl
@[simp] theorem ag77 : agg? Try.prog 77 = some false := by kernel_rfl
@[simp] theorem zs77 : zeroVs? Try.prog 77 = some [.d (.int .u64 0)] := by kernel_rfl
@[simp] theorem al77 (h : List Am.Obj) : allocV Try.prog h 77 = some (.ptr h.length 0, h ++ [.box [.d (.int .u64 0)]]) := allocV_of zs77
@[simp] theorem zv77 : (zero? Try.prog 77).isSome = true := by kernel_rfl
@[simp] theorem ap77 : appElem? Try.prog 77 = some 1 := by kernel_rfl
@[simp] theorem mk77 : makeElem? Try.prog 77 = some (1, .int .u64 0) := by kernel_rfl
@[simp] theorem zd77 : zeroD? Try.prog 77 = some (.int .u64 0) := by kernel_rfl
attribute [simp] Try.underlying80
@[simp] theorem sz80 : sizeOf? Try.prog 80 = some 1 := by kernel_rfl
@[simp] theorem ag80 : agg? Try.prog 80 = some false := by kernel_rfl
attribute [simp] Try.underlying82
@[simp] theorem sz82 : sizeOf? Try.prog 82 = some 1 := by kernel_rfl
@[simp] theorem ag82 : agg? Try.prog 82 = some false := by kernel_rfl
attribute [simp] Try.underlying84
@[simp] theorem sz84 : sizeOf? Try.prog 84 = some 1 := by kernel_rfl
@[simp] theorem ag84 : agg? Try.prog 84 = some false := by kernel_rfl
attribute [simp] Try.underlying93
@[simp] theorem sz93 : sizeOf? Try.prog 93 = some 1 := by kernel_rfl
@[simp] theorem ag93 : agg? Try.prog 93 = some false := by kernel_rfl
@[simp] theorem zs93 : zeroVs? Try.prog 93 = some [.d (.int .i64 0)] := by kernel_rfl
@[simp] theorem al93 (h : List Am.Obj) : allocV Try.prog h 93 = some (.ptr h.length 0, h ++ [.box [.d (.int .i64 0)]]) := allocV_of zs93
@[simp] theorem zv93 : (zero? Try.prog 93).isSome = true := by kernel_rfl
@[simp] theorem ap93 : appElem? Try.prog 93 = some 1 := by kernel_rfl
@[simp] theorem mk93 : makeElem? Try.prog 93 = some (1, .int .i64 0) := by kernel_rfl
@[simp] theorem zd93 : zeroD? Try.prog 93 = some (.int .i64 0) := by kernel_rfl
attribute [simp] Try.underlying94
@[simp] theorem sz94 : sizeOf? Try.prog 94 = some 1 := by kernel_rfl
@[simp] theorem ag94 : agg? Try.prog 94 = some false := by kernel_rfl
attribute [simp] Try.underlying100
@[simp] theorem sz100 : sizeOf? Try.prog 100 = some 1 := by kernel_rfl
@[simp] theorem ag100 : agg? Try.prog 100 = some false := by kernel_rfl
@[simp] theorem zs100 : zeroVs? Try.prog 100 = some [.d (.int .u32 0)] := by kernel_rfl
@[simp] theorem al100 (h : List Am.Obj) : allocV Try.prog h 100 = some (.ptr h.length 0, h ++ [.box [.d (.int .u32 0)]]) := allocV_of zs100
@[simp] theorem zv100 : (zero? Try.prog 100).isSome = true := by kernel_rfl
@[simp] theorem ap100 : appElem? Try.prog 100 = some 1 := by kernel_rfl
@[simp] theorem mk100 : makeElem? Try.prog 100 = some (1, .int .u32 0) := by kernel_rfl
@[simp] theorem zd100 : zeroD? Try.prog 100 = some (.int .u32 0) := by kernel_rfl
attribute [simp] Try.underlying101
@[simp] theorem sz101 : sizeOf? Try.prog 101 = some 1 := by kernel_rfl
@[simp] theorem ag101 : agg? Try.prog 101 = some false := by kernel_rfl
attribute [simp] Try.underlying103
@[simp] theorem sz103 : sizeOf? Try.prog 103 = some 1 := by kernel_rfl
@[simp] theorem ag103 : agg? Try.prog 103 = some false := by kernel_rfl
attribute [simp] Try.underlying105
@[simp] theorem sz105 : sizeOf? Try.prog 105 = some 1 := by kernel_rfl
@[simp] theorem ag105 : agg? Try.prog 105 = some false := by kernel_rfl
@[simp] theorem zs105 : zeroVs? Try.prog 105 = some [.d .nilP] := by kernel_rfl
@[simp] theorem al105 (h : List Am.Obj) : allocV Try.prog h 105 = some (.ptr h.length 0, h ++ [.box [.d .nilP]]) := allocV_of zs105
@[simp] theorem zv105 : (zero? Try.prog 105).isSome = true := by kernel_rfl
@[simp] theorem ap105 : appElem? Try.prog 105 = some 1 := by kernel_rfl
@[simp] theorem mk105 : makeElem? Try.prog 105 = some (1, .nilP) := by kernel_rfl
@[simp] theorem zd105 : zeroD? Try.prog 105 = some (.nilP) := by kernel_rfl
attribute [simp] Try.underlying106
@[simp] theorem sz106 : sizeOf? Try.prog 106 = some 2 := by kernel_rfl
@[simp] theorem ag106 : agg? Try.prog 106 = some true := by kernel_rfl
@[simp] theorem zs106 : zeroVs? Try.prog 106 = some [.nilS, .d (.int .i64 0)] := by kernel_rfl
@[simp] theorem al106 (h : List Am.Obj) : allocV Try.prog h 106 = some (.ptr h.length 0, h ++ [.box [.nilS, .d (.int .i64 0)]]) := allocV_of zs106
@[simp] theorem zv106 : (zero? Try.prog 106).isSome = true := by kernel_rfl
@[simp] theorem ap106 : appElem? Try.prog 106 = some 2 := by kernel_rfl
@[simp] theorem bv106 (parts : List (Nat × V)) : buildV Try.prog 106 parts = (fillV (fun i => [(0, 1), (1, 1)][i]?) [.nilS, .d (.int .i64 0)] parts).map mkAgg := buildV_struct (by kernel_rfl) (by kernel_rfl)
@[simp] theorem fo106_0 : fieldOff? Try.prog 106 0 = some (0, 28) := by kernel_rfl
@[simp] theorem fo106_1 : fieldOff? Try.prog 106 1 = some (1, 29) := by kernel_rfl
@[simp] theorem mk106 : makeElem? Try.prog 106 = some (2, .agg [.list [], .int .i64 0]) := by kernel_rfl
@[simp] theorem zd106 : zeroD? Try.prog 106 = some (.agg [.list [], .int .i64 0]) := by kernel_rfl
attribute [simp] Try.underlying107
@[simp] theorem sz107 : sizeOf? Try.prog 107 = some 2 := by kernel_rfl
@[simp] theorem ag107 : agg? Try.prog 107 = some true := by kernel_rfl
@[simp] theorem zs107 : zeroVs? Try.prog 107 = some [.nilS, .d (.int .i64 0)] := by kernel_rfl
@[simp] theorem al107 (h : List Am.Obj) : allocV Try.prog h 107 = some (.ptr h.length 0, h ++ [.box [.nilS, .d (.int .i64 0)]]) := allocV_of zs107
@[simp] theorem zv107 : (zero? Try.prog 107).isSome = true := by kernel_rfl
@[simp] theorem ap107 : appElem? Try.prog 107 = some 2 := by kernel_rfl
@[simp] theorem bv107 (parts : List (Nat × V)) : buildV Try.prog 107 parts = (fillV (fun i => [(0, 1), (1, 1)][i]?) [.nilS, .d (.int .i64 0)] parts).map mkAgg := buildV_struct (by kernel_rfl) (by kernel_rfl)
@[simp] theorem fo107_0 : fieldOff? Try.prog 107 0 = some (0, 28) := by kernel_rfl
@[simp] theorem fo107_1 : fieldOff? Try.prog 107 1 = some (1, 29) := by kernel_rfl
@[simp] theorem mk107 : makeElem? Try.prog 107 = some (2, .agg [.list [], .int .i64 0]) := by kernel_rfl
@[simp] theorem zd107 : zeroD? Try.prog 107 = some (.agg [.list [], .int .i64 0]) := by kernel_rfl
attribute [simp] Try.underlying111
@[simp] theorem sz111 : sizeOf? Try.prog 111 = some 1 := by kernel_rfl
@[simp] theorem ag111 : agg? Try.prog 111 = some false := by kernel_rfl
attribute [simp] Try.underlying113
@[simp] theorem sz113 : sizeOf? Try.prog 113 = some 1 := by kernel_rfl
@[simp] theorem ag113 : agg? Try.prog 113 = some false := by kernel_rfl
attribute [simp] Try.underlying118
@[simp] theorem sz118 : sizeOf? Try.prog 118 = some 1 := by kernel_rfl
@[simp] theorem ag118 : agg? Try.prog 118 = some false := by kernel_rfl
@[simp] theorem zs118 : zeroVs? Try.prog 118 = some [.d (.int .u64 0)] := by kernel_rfl
@[simp] theorem al118 (h : List Am.Obj) : allocV Try.prog h 118 = some (.ptr h.length 0, h ++ [.box [.d (.int .u64 0)]]) := allocV_of zs118
@[simp] theorem zv118 : (zero? Try.prog 118).isSome = true := by kernel_rfl
@[simp] theorem ap118 : appElem? Try.prog 118 = some 1 := by kernel_rfl
@[simp] theorem mk118 : makeElem? Try.prog 118 = some (1, .int .u64 0) := by kernel_rfl
@[simp] theorem zd118 : zeroD? Try.prog 118 = some (.int .u64 0) := by kernel_rfl
attribute [simp] Try.underlying122
@[simp] theorem sz122 : sizeOf? Try.prog 122 = some 1 := by kernel_rfl
@[simp] theorem ag122 : agg? Try.prog 122 = some false := by kernel_rfl
@[simp] theorem zs122 : zeroVs? Try.prog 122 = some [.d .nilP] := by kernel_rfl
@[simp] theorem al122 (h : List Am.Obj) : allocV Try.prog h 122 = some (.ptr h.length 0, h ++ [.box [.d .nilP]]) := allocV_of zs122
@[simp] theorem zv122 : (zero? Try.prog 122).isSome = true := by kernel_rfl
@[simp] theorem ap122 : appElem? Try.prog 122 = some 1 := by kernel_rfl
@[simp] theorem mk122 : makeElem? Try.prog 122 = some (1, .nilP) := by kernel_rfl
@[simp] theorem zd122 : zeroD? Try.prog 122 = some (.nilP) := by kernel_rfl
attribute [simp] Try.underlying124
@[simp] theorem sz124 : sizeOf? Try.prog 124 = some 1 := by kernel_rfl
@[simp] theorem ag124 : agg? Try.prog 124 = some false := by kernel_rfl
attribute [simp] Try.underlying129
@[simp] theorem sz129 : sizeOf? Try.prog 129 = some 1 := by kernel_rfl
@[simp] theorem ag129 : agg? Try.prog 129 = some false := by kernel_rfl
@[simp] theorem zs129 : zeroVs? Try.prog 129 = some [.d .nilP] := by kernel_rfl
@[simp] theorem al129 (h : List Am.Obj) : allocV Try.prog h 129 = some (.ptr h.length 0, h ++ [.box [.d .nilP]]) := allocV_of zs129
@[simp] theorem zv129 : (zero? Try.prog 129).isSome = true := by kernel_rfl
@[simp] theorem ap129 : appElem? Try.prog 129 = some 1 := by kernel_rfl
@[simp] theorem mk129 : makeElem? Try.prog 129 = some (1, .nilP) := by kernel_rfl
@[simp] theorem zd129 : zeroD? Try.prog 129 = some (.nilP) := by kernel_rfl
attribute [simp] Try.underlying130
@[simp] theorem sz130 : sizeOf? Try.prog 130 = some 1 := by kernel_rfl
@[simp] theorem ag130 : agg? Try.prog 130 = some false := by kernel_rfl
/-- What each loop keeps. -/
def K : Keeps := fun f b => match f, b with
  | 3, 0 => some [(0, 0), (5, 0), (6, 3), (7, 0)]
  | 6, 0 => some [(0, 0), (1, 0), (5, 3), (6, 0)]
  | 7, 0 => some [(0, 0), (1, 0), (26, 0), (27, 0), (28, 0)]
  | 7, 2 => some [(0, 0), (8, 0), (9, 1), (10, 1), (11, 1), (47, 0), (48, 0), (49, 0)]
  | 8, 0 => some [(0, 0), (3, 1), (4, 0)]
  | 10, 0 => some [(0, 0), (1, 0), (5, 0)]
  | 11, 0 => some [(0, 0), (3, 3), (4, 0)]
  | 17, 0 => some [(3, 0), (11, 0), (12, 0), (13, 0)]
  | 18, 0 => some [(0, 0), (4, 1), (11, 0)]
  | 19, 0 => some [(0, 0), (3, 0), (4, 0), (5, 1), (20, 0), (21, 0), (22, 0)]
  | 21, 0 => some [(0, 0), (1, 0), (2, 0), (9, 0), (12, 0), (56, 0), (57, 0), (58, 0)]
  | 21, 2 => some [(1000015, 0), (17, 0), (79, 0), (80, 0), (81, 0)]
  | 22, 0 => some [(0, 0), (1, 0), (12, 0), (13, 0)]
  | 24, 0 => some [(0, 0), (1, 0), (7, 0), (8, 0)]
  | 25, 0 => some [(1, 0), (6, 0), (36, 0), (37, 0), (38, 0)]
  | 25, 2 => some [(1, 0), (6, 0), (7, 0), (8, 0), (9, 0), (36, 0), (37, 0), (38, 0)]
  | 27, 0 => some [(0, 0), (5, 1), (6, 1), (9, 0), (10, 0), (11, 0)]
  | 31, 0 => some [(0, 0), (3, 0)]
  | 31, 2 => some [(0, 0), (3, 0), (4, 0), (5, 0)]
  | 32, 0 => some [(0, 0), (1, 0), (6, 0), (7, 0), (8, 0)]
  | 33, 0 => some [(0, 0), (3, 1)]
  | 34, 0 => some [(7, 0), (8, 0)]
  | 35, 0 => some [(0, 0), (2, 0), (9, 0), (56, 0), (57, 0)]
  | 35, 2 => some [(0, 0), (2, 0), (9, 0), (10, 0), (11, 0), (56, 0), (57, 0)]
  | 36, 1 => some [(8, 1), (10, 0), (30, 0), (31, 0), (32, 0)]
  | 36, 3 => some [(8, 1), (14, 0), (52, 0), (53, 0), (54, 0)]
  | 36, 5 => some [(8, 1), (18, 0), (73, 0), (74, 0), (75, 0)]
  | 37, 0 => some [(3, 0), (6, 0), (7, 0), (8, 0)]
  | 38, 0 => some [(3, 1), (6, 0), (7, 0), (8, 0)]
  | 39, 0 => some [(3, 1), (4, 0), (7, 0), (8, 0), (9, 0)]
  | 40, 0 => some [(0, 0), (3, 1), (4, 0)]
  | 40, 2 => some [(0, 0), (3, 1), (4, 0), (5, 0)]
  | 41, 0 => some [(0, 0), (3, 0), (4, 0), (18, 0), (19, 0), (20, 0)]
  | 41, 2 => some [(3, 0), (4, 0), (7, 0), (47, 0), (48, 0), (49, 0)]
  | 42, 0 => some [(3, 0), (4, 0), (16, 0), (17, 0), (18, 0)]
  | 43, 0 => some [(0, 0), (1, 0), (2, 0), (3, 0), (8, 0), (9, 0)]
  | 48, 2 => some [(0, 0), (1, 0), (6, 0), (7, 1), (8, 0)]
  | 49, 0 => some [(12, 0), (15, 1), (85, 0), (86, 0), (87, 0)]
  | 53, 0 => some [(0, 0), (1, 0), (6, 0), (7, 0), (8, 0)]
  | 55, 0 => some [(0, 0), (3, 0), (4, 0)]
  | 56, 0 => some [(0, 0), (1, 0), (2, 0), (6, 0)]
  | 56, 2 => some [(0, 0), (1, 0), (2, 0), (6, 0), (7, 0)]
  | 57, 0 => some [(0, 0), (6, 0), (7, 0), (8, 0), (9, 0)]
  | 57, 2 => some [(0, 0), (6, 0), (7, 0), (10, 0)]
  | 58, 0 => some [(0, 0), (1, 0), (6, 0), (7, 0), (8, 0), (9, 0)]
  | 60, 0 => some [(0, 0), (6, 0), (7, 0)]
  | 61, 0 => some [(0, 0), (1, 0), (2, 0), (7, 0), (8, 0)]
  | 61, 2 => some [(0, 0), (1, 0), (2, 0), (7, 0), (8, 0)]
  | 61, 4 => some [(0, 0), (1, 0), (2, 0), (7, 0), (8, 0), (9, 0)]
  | 61, 6 => some [(0, 0), (1, 0), (2, 0), (7, 0), (8, 0), (10, 0)]
  | 62, 0 => some [(0, 0), (1, 0), (9, 0), (10, 0)]
  | 62, 2 => some [(0, 0), (1, 0), (9, 0), (10, 0)]
  | 62, 4 => some [(0, 0), (1, 0), (9, 0), (10, 0)]
  | 63, 0 => some [(0, 0), (1, 0), (10, 0), (11, 0)]
  | 63, 2 => some [(0, 0), (1, 0), (10, 0), (11, 0)]
  | 63, 4 => some [(0, 0), (1, 0), (10, 0), (11, 0)]
  | 63, 6 => some [(0, 0), (1, 0), (10, 0), (11, 0)]
  | 63, 8 => some [(0, 0), (1, 0), (10, 0), (11, 0)]
  | 69, 0 => some [(0, 0), (1, 0), (5, 1)]
  | 70, 0 => some [(0, 0), (1, 0), (5, 0), (6, 1)]
  | 70, 2 => some [(0, 0), (5, 0), (6, 1), (9, 1), (104, 0), (105, 0), (106, 0)]
  | 71, 0 => some [(5, 0), (7, 1), (36, 0), (37, 0), (38, 0)]
  | 73, 0 => some [(0, 0), (11, 1), (45, 0), (46, 0), (47, 0)]
  | 74, 0 => some [(5, 0), (8, 0), (9, 0), (10, 0)]
  | 77, 0 => some [(0, 0), (3, 0)]
  | 77, 2 => some [(0, 0), (3, 0), (4, 0), (5, 0)]
  | 80, 0 => some [(0, 0), (2, 0), (3, 0), (8, 0)]
  | 87, 0 => some [(7, 0), (8, 0)]
  | 89, 0 => some [(0, 0), (1, 0), (2, 0), (3, 0), (8, 0), (9, 0)]
  | 92, 0 => some [(0, 0), (1, 0), (2, 0), (6, 0)]
  | 92, 2 => some [(0, 0), (1, 0), (2, 0), (6, 0), (7, 0)]
  | 93, 0 => some [(0, 0), (6, 0), (7, 0), (8, 0), (9, 0)]
  | 93, 2 => some [(0, 0), (6, 0), (7, 0), (10, 0)]
  | 94, 0 => some [(0, 0), (1, 0), (6, 0), (7, 0), (8, 0), (9, 0)]
  | 96, 0 => some [(0, 0), (6, 0), (7, 0)]
  | 97, 0 => some [(0, 0), (1, 0), (2, 0), (7, 0), (8, 0)]
  | 97, 2 => some [(0, 0), (1, 0), (2, 0), (7, 0), (8, 0)]
  | 97, 4 => some [(0, 0), (1, 0), (2, 0), (7, 0), (8, 0), (9, 0)]
  | 97, 6 => some [(0, 0), (1, 0), (2, 0), (7, 0), (8, 0), (10, 0)]
  | 98, 0 => some [(0, 0), (1, 0), (9, 0), (10, 0)]
  | 98, 2 => some [(0, 0), (1, 0), (9, 0), (10, 0)]
  | 98, 4 => some [(0, 0), (1, 0), (9, 0), (10, 0)]
  | 99, 0 => some [(0, 0), (1, 0), (10, 0), (11, 0)]
  | 99, 2 => some [(0, 0), (1, 0), (10, 0), (11, 0)]
  | 99, 4 => some [(0, 0), (1, 0), (10, 0), (11, 0)]
  | 99, 6 => some [(0, 0), (1, 0), (10, 0), (11, 0)]
  | 99, 8 => some [(0, 0), (1, 0), (10, 0), (11, 0)]
  | 100, 0 => some [(0, 0), (2, 0), (3, 0), (8, 0)]
  | _, _ => none
def G : Nat → Option (List D) := fun g => if [1000027, 1000030, 1000031, 1000034, 1000043, 1000056, 1000057, 1000058, 1000059, 1000060, 1000061, 1000062, 1000063, 1000076, 1000077, 1000080, 1000083, 1000084, 1000087, 1000089, 1000091, 1000092, 1000093, 1000094, 1000095, 1000096, 1000097, 1000098, 1000099, 1000100, 1000101, 1000102, 1000103, 2000029, 2000075, 3000026].contains g then some [] else none
@[simp] theorem br_2 : byRef G 2 = false := by decide +kernel
theorem sp_2 : splits G 2 = false := by decide +kernel
@[simp] theorem th_2 : thaws G 2 = false := by decide +kernel
@[simp] theorem br_3 : byRef G 3 = false := by decide +kernel
theorem sp_3 : splits G 3 = false := by decide +kernel
@[simp] theorem th_3 : thaws G 3 = false := by decide +kernel
@[simp] theorem br_4 : byRef G 4 = false := by decide +kernel
theorem sp_4 : splits G 4 = false := by decide +kernel
@[simp] theorem th_4 : thaws G 4 = false := by decide +kernel
@[simp] theorem br_5 : byRef G 5 = false := by decide +kernel
theorem sp_5 : splits G 5 = false := by decide +kernel
@[simp] theorem th_5 : thaws G 5 = false := by decide +kernel
@[simp] theorem br_6 : byRef G 6 = false := by decide +kernel
theorem sp_6 : splits G 6 = false := by decide +kernel
@[simp] theorem th_6 : thaws G 6 = false := by decide +kernel
@[simp] theorem br_7 : byRef G 7 = false := by decide +kernel
theorem sp_7 : splits G 7 = false := by decide +kernel
@[simp] theorem th_7 : thaws G 7 = false := by decide +kernel
@[simp] theorem br_8 : byRef G 8 = false := by decide +kernel
theorem sp_8 : splits G 8 = false := by decide +kernel
@[simp] theorem th_8 : thaws G 8 = false := by decide +kernel
@[simp] theorem br_9 : byRef G 9 = false := by decide +kernel
theorem sp_9 : splits G 9 = false := by decide +kernel
@[simp] theorem th_9 : thaws G 9 = false := by decide +kernel
@[simp] theorem br_10 : byRef G 10 = false := by decide +kernel
theorem sp_10 : splits G 10 = false := by decide +kernel
@[simp] theorem th_10 : thaws G 10 = false := by decide +kernel
@[simp] theorem br_11 : byRef G 11 = false := by decide +kernel
theorem sp_11 : splits G 11 = false := by decide +kernel
@[simp] theorem th_11 : thaws G 11 = false := by decide +kernel
@[simp] theorem br_12 : byRef G 12 = false := by decide +kernel
theorem sp_12 : splits G 12 = false := by decide +kernel
@[simp] theorem th_12 : thaws G 12 = false := by decide +kernel
@[simp] theorem br_13 : byRef G 13 = false := by decide +kernel
theorem sp_13 : splits G 13 = false := by decide +kernel
@[simp] theorem th_13 : thaws G 13 = false := by decide +kernel
@[simp] theorem br_14 : byRef G 14 = false := by decide +kernel
theorem sp_14 : splits G 14 = false := by decide +kernel
@[simp] theorem th_14 : thaws G 14 = false := by decide +kernel
@[simp] theorem br_15 : byRef G 15 = false := by decide +kernel
theorem sp_15 : splits G 15 = false := by decide +kernel
@[simp] theorem th_15 : thaws G 15 = false := by decide +kernel
@[simp] theorem br_16 : byRef G 16 = false := by decide +kernel
theorem sp_16 : splits G 16 = false := by decide +kernel
@[simp] theorem th_16 : thaws G 16 = false := by decide +kernel
@[simp] theorem br_17 : byRef G 17 = false := by decide +kernel
theorem sp_17 : splits G 17 = false := by decide +kernel
@[simp] theorem th_17 : thaws G 17 = false := by decide +kernel
@[simp] theorem br_18 : byRef G 18 = false := by decide +kernel
theorem sp_18 : splits G 18 = false := by decide +kernel
@[simp] theorem th_18 : thaws G 18 = false := by decide +kernel
@[simp] theorem br_19 : byRef G 19 = false := by decide +kernel
theorem sp_19 : splits G 19 = false := by decide +kernel
@[simp] theorem th_19 : thaws G 19 = false := by decide +kernel
@[simp] theorem br_20 : byRef G 20 = false := by decide +kernel
theorem sp_20 : splits G 20 = false := by decide +kernel
@[simp] theorem th_20 : thaws G 20 = false := by decide +kernel
@[simp] theorem br_21 : byRef G 21 = false := by decide +kernel
theorem sp_21 : splits G 21 = false := by decide +kernel
@[simp] theorem th_21 : thaws G 21 = false := by decide +kernel
@[simp] theorem br_22 : byRef G 22 = false := by decide +kernel
theorem sp_22 : splits G 22 = false := by decide +kernel
@[simp] theorem th_22 : thaws G 22 = false := by decide +kernel
@[simp] theorem br_23 : byRef G 23 = false := by decide +kernel
theorem sp_23 : splits G 23 = false := by decide +kernel
@[simp] theorem th_23 : thaws G 23 = false := by decide +kernel
@[simp] theorem br_24 : byRef G 24 = false := by decide +kernel
theorem sp_24 : splits G 24 = false := by decide +kernel
@[simp] theorem th_24 : thaws G 24 = false := by decide +kernel
@[simp] theorem br_25 : byRef G 25 = false := by decide +kernel
theorem sp_25 : splits G 25 = false := by decide +kernel
@[simp] theorem th_25 : thaws G 25 = false := by decide +kernel
@[simp] theorem br_26 : byRef G 26 = false := by decide +kernel
theorem sp_26 : splits G 26 = false := by decide +kernel
@[simp] theorem th_26 : thaws G 26 = true := by decide +kernel
@[simp] theorem br_27 : byRef G 27 = true := by decide +kernel
theorem sp_27 : splits G 27 = false := by decide +kernel
@[simp] theorem th_27 : thaws G 27 = false := by decide +kernel
@[simp] theorem br_28 : byRef G 28 = false := by decide +kernel
theorem sp_28 : splits G 28 = false := by decide +kernel
@[simp] theorem th_28 : thaws G 28 = false := by decide +kernel
@[simp] theorem br_29 : byRef G 29 = false := by decide +kernel
theorem sp_29 : splits G 29 = true := by decide +kernel
@[simp] theorem th_29 : thaws G 29 = false := by decide +kernel
@[simp] theorem br_30 : byRef G 30 = true := by decide +kernel
theorem sp_30 : splits G 30 = false := by decide +kernel
@[simp] theorem th_30 : thaws G 30 = false := by decide +kernel
@[simp] theorem br_31 : byRef G 31 = true := by decide +kernel
theorem sp_31 : splits G 31 = false := by decide +kernel
@[simp] theorem th_31 : thaws G 31 = false := by decide +kernel
@[simp] theorem br_32 : byRef G 32 = false := by decide +kernel
theorem sp_32 : splits G 32 = false := by decide +kernel
@[simp] theorem th_32 : thaws G 32 = false := by decide +kernel
@[simp] theorem br_33 : byRef G 33 = false := by decide +kernel
theorem sp_33 : splits G 33 = false := by decide +kernel
@[simp] theorem th_33 : thaws G 33 = false := by decide +kernel
@[simp] theorem br_34 : byRef G 34 = true := by decide +kernel
theorem sp_34 : splits G 34 = false := by decide +kernel
@[simp] theorem th_34 : thaws G 34 = false := by decide +kernel
@[simp] theorem br_35 : byRef G 35 = false := by decide +kernel
theorem sp_35 : splits G 35 = false := by decide +kernel
@[simp] theorem th_35 : thaws G 35 = false := by decide +kernel
@[simp] theorem br_36 : byRef G 36 = false := by decide +kernel
theorem sp_36 : splits G 36 = false := by decide +kernel
@[simp] theorem th_36 : thaws G 36 = false := by decide +kernel
@[simp] theorem br_37 : byRef G 37 = false := by decide +kernel
theorem sp_37 : splits G 37 = false := by decide +kernel
@[simp] theorem th_37 : thaws G 37 = false := by decide +kernel
@[simp] theorem br_38 : byRef G 38 = false := by decide +kernel
theorem sp_38 : splits G 38 = false := by decide +kernel
@[simp] theorem th_38 : thaws G 38 = false := by decide +kernel
@[simp] theorem br_39 : byRef G 39 = false := by decide +kernel
theorem sp_39 : splits G 39 = false := by decide +kernel
@[simp] theorem th_39 : thaws G 39 = false := by decide +kernel
@[simp] theorem br_40 : byRef G 40 = false := by decide +kernel
theorem sp_40 : splits G 40 = false := by decide +kernel
@[simp] theorem th_40 : thaws G 40 = false := by decide +kernel
@[simp] theorem br_41 : byRef G 41 = false := by decide +kernel
theorem sp_41 : splits G 41 = false := by decide +kernel
@[simp] theorem th_41 : thaws G 41 = false := by decide +kernel
@[simp] theorem br_42 : byRef G 42 = false := by decide +kernel
theorem sp_42 : splits G 42 = false := by decide +kernel
@[simp] theorem th_42 : thaws G 42 = false := by decide +kernel
@[simp] theorem br_43 : byRef G 43 = true := by decide +kernel
theorem sp_43 : splits G 43 = false := by decide +kernel
@[simp] theorem th_43 : thaws G 43 = false := by decide +kernel
@[simp] theorem br_44 : byRef G 44 = false := by decide +kernel
theorem sp_44 : splits G 44 = false := by decide +kernel
@[simp] theorem th_44 : thaws G 44 = false := by decide +kernel
@[simp] theorem br_45 : byRef G 45 = false := by decide +kernel
theorem sp_45 : splits G 45 = false := by decide +kernel
@[simp] theorem th_45 : thaws G 45 = false := by decide +kernel
@[simp] theorem br_46 : byRef G 46 = false := by decide +kernel
theorem sp_46 : splits G 46 = false := by decide +kernel
@[simp] theorem th_46 : thaws G 46 = false := by decide +kernel
@[simp] theorem br_47 : byRef G 47 = false := by decide +kernel
theorem sp_47 : splits G 47 = false := by decide +kernel
@[simp] theorem th_47 : thaws G 47 = false := by decide +kernel
@[simp] theorem br_48 : byRef G 48 = false := by decide +kernel
theorem sp_48 : splits G 48 = false := by decide +kernel
@[simp] theorem th_48 : thaws G 48 = false := by decide +kernel
@[simp] theorem br_49 : byRef G 49 = false := by decide +kernel
theorem sp_49 : splits G 49 = false := by decide +kernel
@[simp] theorem th_49 : thaws G 49 = false := by decide +kernel
@[simp] theorem br_50 : byRef G 50 = false := by decide +kernel
theorem sp_50 : splits G 50 = false := by decide +kernel
@[simp] theorem th_50 : thaws G 50 = false := by decide +kernel
@[simp] theorem br_51 : byRef G 51 = false := by decide +kernel
theorem sp_51 : splits G 51 = false := by decide +kernel
@[simp] theorem th_51 : thaws G 51 = false := by decide +kernel
@[simp] theorem br_52 : byRef G 52 = false := by decide +kernel
theorem sp_52 : splits G 52 = false := by decide +kernel
@[simp] theorem th_52 : thaws G 52 = false := by decide +kernel
@[simp] theorem br_53 : byRef G 53 = false := by decide +kernel
theorem sp_53 : splits G 53 = false := by decide +kernel
@[simp] theorem th_53 : thaws G 53 = false := by decide +kernel
@[simp] theorem br_54 : byRef G 54 = false := by decide +kernel
theorem sp_54 : splits G 54 = false := by decide +kernel
@[simp] theorem th_54 : thaws G 54 = false := by decide +kernel
@[simp] theorem br_55 : byRef G 55 = false := by decide +kernel
theorem sp_55 : splits G 55 = false := by decide +kernel
@[simp] theorem th_55 : thaws G 55 = false := by decide +kernel
@[simp] theorem br_56 : byRef G 56 = true := by decide +kernel
theorem sp_56 : splits G 56 = false := by decide +kernel
@[simp] theorem th_56 : thaws G 56 = false := by decide +kernel
@[simp] theorem br_57 : byRef G 57 = true := by decide +kernel
theorem sp_57 : splits G 57 = false := by decide +kernel
@[simp] theorem th_57 : thaws G 57 = false := by decide +kernel
@[simp] theorem br_58 : byRef G 58 = true := by decide +kernel
theorem sp_58 : splits G 58 = false := by decide +kernel
@[simp] theorem th_58 : thaws G 58 = false := by decide +kernel
@[simp] theorem br_59 : byRef G 59 = true := by decide +kernel
theorem sp_59 : splits G 59 = false := by decide +kernel
@[simp] theorem th_59 : thaws G 59 = false := by decide +kernel
@[simp] theorem br_60 : byRef G 60 = true := by decide +kernel
theorem sp_60 : splits G 60 = false := by decide +kernel
@[simp] theorem th_60 : thaws G 60 = false := by decide +kernel
@[simp] theorem br_61 : byRef G 61 = true := by decide +kernel
theorem sp_61 : splits G 61 = false := by decide +kernel
@[simp] theorem th_61 : thaws G 61 = false := by decide +kernel
@[simp] theorem br_62 : byRef G 62 = true := by decide +kernel
theorem sp_62 : splits G 62 = false := by decide +kernel
@[simp] theorem th_62 : thaws G 62 = false := by decide +kernel
@[simp] theorem br_63 : byRef G 63 = true := by decide +kernel
theorem sp_63 : splits G 63 = false := by decide +kernel
@[simp] theorem th_63 : thaws G 63 = false := by decide +kernel
@[simp] theorem br_64 : byRef G 64 = false := by decide +kernel
theorem sp_64 : splits G 64 = false := by decide +kernel
@[simp] theorem th_64 : thaws G 64 = false := by decide +kernel
@[simp] theorem br_65 : byRef G 65 = false := by decide +kernel
theorem sp_65 : splits G 65 = false := by decide +kernel
@[simp] theorem th_65 : thaws G 65 = false := by decide +kernel
@[simp] theorem br_66 : byRef G 66 = false := by decide +kernel
theorem sp_66 : splits G 66 = false := by decide +kernel
@[simp] theorem th_66 : thaws G 66 = false := by decide +kernel
@[simp] theorem br_67 : byRef G 67 = false := by decide +kernel
theorem sp_67 : splits G 67 = false := by decide +kernel
@[simp] theorem th_67 : thaws G 67 = false := by decide +kernel
@[simp] theorem br_68 : byRef G 68 = false := by decide +kernel
theorem sp_68 : splits G 68 = false := by decide +kernel
@[simp] theorem th_68 : thaws G 68 = false := by decide +kernel
@[simp] theorem br_69 : byRef G 69 = false := by decide +kernel
theorem sp_69 : splits G 69 = false := by decide +kernel
@[simp] theorem th_69 : thaws G 69 = false := by decide +kernel
@[simp] theorem br_70 : byRef G 70 = false := by decide +kernel
theorem sp_70 : splits G 70 = false := by decide +kernel
@[simp] theorem th_70 : thaws G 70 = false := by decide +kernel
@[simp] theorem br_71 : byRef G 71 = false := by decide +kernel
theorem sp_71 : splits G 71 = false := by decide +kernel
@[simp] theorem th_71 : thaws G 71 = false := by decide +kernel
@[simp] theorem br_72 : byRef G 72 = false := by decide +kernel
theorem sp_72 : splits G 72 = false := by decide +kernel
@[simp] theorem th_72 : thaws G 72 = false := by decide +kernel
@[simp] theorem br_73 : byRef G 73 = false := by decide +kernel
theorem sp_73 : splits G 73 = false := by decide +kernel
@[simp] theorem th_73 : thaws G 73 = false := by decide +kernel
@[simp] theorem br_74 : byRef G 74 = false := by decide +kernel
theorem sp_74 : splits G 74 = false := by decide +kernel
@[simp] theorem th_74 : thaws G 74 = false := by decide +kernel
@[simp] theorem br_75 : byRef G 75 = false := by decide +kernel
theorem sp_75 : splits G 75 = true := by decide +kernel
@[simp] theorem th_75 : thaws G 75 = false := by decide +kernel
@[simp] theorem br_76 : byRef G 76 = true := by decide +kernel
theorem sp_76 : splits G 76 = false := by decide +kernel
@[simp] theorem th_76 : thaws G 76 = false := by decide +kernel
@[simp] theorem br_77 : byRef G 77 = true := by decide +kernel
theorem sp_77 : splits G 77 = false := by decide +kernel
@[simp] theorem th_77 : thaws G 77 = false := by decide +kernel
@[simp] theorem br_78 : byRef G 78 = false := by decide +kernel
theorem sp_78 : splits G 78 = false := by decide +kernel
@[simp] theorem th_78 : thaws G 78 = false := by decide +kernel
@[simp] theorem br_79 : byRef G 79 = false := by decide +kernel
theorem sp_79 : splits G 79 = false := by decide +kernel
@[simp] theorem th_79 : thaws G 79 = false := by decide +kernel
@[simp] theorem br_80 : byRef G 80 = true := by decide +kernel
theorem sp_80 : splits G 80 = false := by decide +kernel
@[simp] theorem th_80 : thaws G 80 = false := by decide +kernel
@[simp] theorem br_81 : byRef G 81 = false := by decide +kernel
theorem sp_81 : splits G 81 = false := by decide +kernel
@[simp] theorem th_81 : thaws G 81 = false := by decide +kernel
@[simp] theorem br_82 : byRef G 82 = false := by decide +kernel
theorem sp_82 : splits G 82 = false := by decide +kernel
@[simp] theorem th_82 : thaws G 82 = false := by decide +kernel
@[simp] theorem br_83 : byRef G 83 = true := by decide +kernel
theorem sp_83 : splits G 83 = false := by decide +kernel
@[simp] theorem th_83 : thaws G 83 = false := by decide +kernel
@[simp] theorem br_84 : byRef G 84 = true := by decide +kernel
theorem sp_84 : splits G 84 = false := by decide +kernel
@[simp] theorem th_84 : thaws G 84 = false := by decide +kernel
@[simp] theorem br_85 : byRef G 85 = false := by decide +kernel
theorem sp_85 : splits G 85 = false := by decide +kernel
@[simp] theorem th_85 : thaws G 85 = false := by decide +kernel
@[simp] theorem br_86 : byRef G 86 = false := by decide +kernel
theorem sp_86 : splits G 86 = false := by decide +kernel
@[simp] theorem th_86 : thaws G 86 = false := by decide +kernel
@[simp] theorem br_87 : byRef G 87 = true := by decide +kernel
theorem sp_87 : splits G 87 = false := by decide +kernel
@[simp] theorem th_87 : thaws G 87 = false := by decide +kernel
@[simp] theorem br_88 : byRef G 88 = false := by decide +kernel
theorem sp_88 : splits G 88 = false := by decide +kernel
@[simp] theorem th_88 : thaws G 88 = false := by decide +kernel
@[simp] theorem br_89 : byRef G 89 = true := by decide +kernel
theorem sp_89 : splits G 89 = false := by decide +kernel
@[simp] theorem th_89 : thaws G 89 = false := by decide +kernel
@[simp] theorem br_90 : byRef G 90 = false := by decide +kernel
theorem sp_90 : splits G 90 = false := by decide +kernel
@[simp] theorem th_90 : thaws G 90 = false := by decide +kernel
@[simp] theorem br_91 : byRef G 91 = true := by decide +kernel
theorem sp_91 : splits G 91 = false := by decide +kernel
@[simp] theorem th_91 : thaws G 91 = false := by decide +kernel
@[simp] theorem br_92 : byRef G 92 = true := by decide +kernel
theorem sp_92 : splits G 92 = false := by decide +kernel
@[simp] theorem th_92 : thaws G 92 = false := by decide +kernel
@[simp] theorem br_93 : byRef G 93 = true := by decide +kernel
theorem sp_93 : splits G 93 = false := by decide +kernel
@[simp] theorem th_93 : thaws G 93 = false := by decide +kernel
@[simp] theorem br_94 : byRef G 94 = true := by decide +kernel
theorem sp_94 : splits G 94 = false := by decide +kernel
@[simp] theorem th_94 : thaws G 94 = false := by decide +kernel
@[simp] theorem br_95 : byRef G 95 = true := by decide +kernel
theorem sp_95 : splits G 95 = false := by decide +kernel
@[simp] theorem th_95 : thaws G 95 = false := by decide +kernel
@[simp] theorem br_96 : byRef G 96 = true := by decide +kernel
theorem sp_96 : splits G 96 = false := by decide +kernel
@[simp] theorem th_96 : thaws G 96 = false := by decide +kernel
@[simp] theorem br_97 : byRef G 97 = true := by decide +kernel
theorem sp_97 : splits G 97 = false := by decide +kernel
@[simp] theorem th_97 : thaws G 97 = false := by decide +kernel
@[simp] theorem br_98 : byRef G 98 = true := by decide +kernel
theorem sp_98 : splits G 98 = false := by decide +kernel
@[simp] theorem th_98 : thaws G 98 = false := by decide +kernel
@[simp] theorem br_99 : byRef G 99 = true := by decide +kernel
theorem sp_99 : splits G 99 = false := by decide +kernel
@[simp] theorem th_99 : thaws G 99 = false := by decide +kernel
@[simp] theorem br_100 : byRef G 100 = true := by decide +kernel
theorem sp_100 : splits G 100 = false := by decide +kernel
@[simp] theorem th_100 : thaws G 100 = false := by decide +kernel
@[simp] theorem br_101 : byRef G 101 = true := by decide +kernel
theorem sp_101 : splits G 101 = false := by decide +kernel
@[simp] theorem th_101 : thaws G 101 = false := by decide +kernel
@[simp] theorem br_102 : byRef G 102 = true := by decide +kernel
theorem sp_102 : splits G 102 = false := by decide +kernel
@[simp] theorem th_102 : thaws G 102 = false := by decide +kernel
@[simp] theorem br_103 : byRef G 103 = true := by decide +kernel
theorem sp_103 : splits G 103 = false := by decide +kernel
@[simp] theorem th_103 : thaws G 103 = false := by decide +kernel
def Hn : Hints := fun f r => match f, r with
  | 21, 31 => [6]
  | 68, 4 => [8]
  | 86, 4 => [8]
  | _, _ => []
@[simp] theorem K_3_0 : K 3 0 = some [(0, 0), (5, 0), (6, 3), (7, 0)] := rfl
@[simp] theorem K_6_0 : K 6 0 = some [(0, 0), (1, 0), (5, 3), (6, 0)] := rfl
@[simp] theorem K_7_0 : K 7 0 = some [(0, 0), (1, 0), (26, 0), (27, 0), (28, 0)] := rfl
@[simp] theorem K_7_2 : K 7 2 = some [(0, 0), (8, 0), (9, 1), (10, 1), (11, 1), (47, 0), (48, 0), (49, 0)] := rfl
@[simp] theorem K_8_0 : K 8 0 = some [(0, 0), (3, 1), (4, 0)] := rfl
@[simp] theorem K_10_0 : K 10 0 = some [(0, 0), (1, 0), (5, 0)] := rfl
@[simp] theorem K_11_0 : K 11 0 = some [(0, 0), (3, 3), (4, 0)] := rfl
@[simp] theorem K_17_0 : K 17 0 = some [(3, 0), (11, 0), (12, 0), (13, 0)] := rfl
@[simp] theorem K_18_0 : K 18 0 = some [(0, 0), (4, 1), (11, 0)] := rfl
@[simp] theorem K_19_0 : K 19 0 = some [(0, 0), (3, 0), (4, 0), (5, 1), (20, 0), (21, 0), (22, 0)] := rfl
@[simp] theorem K_21_0 : K 21 0 = some [(0, 0), (1, 0), (2, 0), (9, 0), (12, 0), (56, 0), (57, 0), (58, 0)] := rfl
@[simp] theorem K_21_2 : K 21 2 = some [(1000015, 0), (17, 0), (79, 0), (80, 0), (81, 0)] := rfl
@[simp] theorem K_22_0 : K 22 0 = some [(0, 0), (1, 0), (12, 0), (13, 0)] := rfl
@[simp] theorem K_24_0 : K 24 0 = some [(0, 0), (1, 0), (7, 0), (8, 0)] := rfl
@[simp] theorem K_25_0 : K 25 0 = some [(1, 0), (6, 0), (36, 0), (37, 0), (38, 0)] := rfl
@[simp] theorem K_25_2 : K 25 2 = some [(1, 0), (6, 0), (7, 0), (8, 0), (9, 0), (36, 0), (37, 0), (38, 0)] := rfl
@[simp] theorem K_27_0 : K 27 0 = some [(0, 0), (5, 1), (6, 1), (9, 0), (10, 0), (11, 0)] := rfl
@[simp] theorem K_31_0 : K 31 0 = some [(0, 0), (3, 0)] := rfl
@[simp] theorem K_31_2 : K 31 2 = some [(0, 0), (3, 0), (4, 0), (5, 0)] := rfl
@[simp] theorem K_32_0 : K 32 0 = some [(0, 0), (1, 0), (6, 0), (7, 0), (8, 0)] := rfl
@[simp] theorem K_33_0 : K 33 0 = some [(0, 0), (3, 1)] := rfl
@[simp] theorem K_34_0 : K 34 0 = some [(7, 0), (8, 0)] := rfl
@[simp] theorem K_35_0 : K 35 0 = some [(0, 0), (2, 0), (9, 0), (56, 0), (57, 0)] := rfl
@[simp] theorem K_35_2 : K 35 2 = some [(0, 0), (2, 0), (9, 0), (10, 0), (11, 0), (56, 0), (57, 0)] := rfl
@[simp] theorem K_36_1 : K 36 1 = some [(8, 1), (10, 0), (30, 0), (31, 0), (32, 0)] := rfl
@[simp] theorem K_36_3 : K 36 3 = some [(8, 1), (14, 0), (52, 0), (53, 0), (54, 0)] := rfl
@[simp] theorem K_36_5 : K 36 5 = some [(8, 1), (18, 0), (73, 0), (74, 0), (75, 0)] := rfl
@[simp] theorem K_37_0 : K 37 0 = some [(3, 0), (6, 0), (7, 0), (8, 0)] := rfl
@[simp] theorem K_38_0 : K 38 0 = some [(3, 1), (6, 0), (7, 0), (8, 0)] := rfl
@[simp] theorem K_39_0 : K 39 0 = some [(3, 1), (4, 0), (7, 0), (8, 0), (9, 0)] := rfl
@[simp] theorem K_40_0 : K 40 0 = some [(0, 0), (3, 1), (4, 0)] := rfl
@[simp] theorem K_40_2 : K 40 2 = some [(0, 0), (3, 1), (4, 0), (5, 0)] := rfl
@[simp] theorem K_41_0 : K 41 0 = some [(0, 0), (3, 0), (4, 0), (18, 0), (19, 0), (20, 0)] := rfl
@[simp] theorem K_41_2 : K 41 2 = some [(3, 0), (4, 0), (7, 0), (47, 0), (48, 0), (49, 0)] := rfl
@[simp] theorem K_42_0 : K 42 0 = some [(3, 0), (4, 0), (16, 0), (17, 0), (18, 0)] := rfl
@[simp] theorem K_43_0 : K 43 0 = some [(0, 0), (1, 0), (2, 0), (3, 0), (8, 0), (9, 0)] := rfl
@[simp] theorem K_48_2 : K 48 2 = some [(0, 0), (1, 0), (6, 0), (7, 1), (8, 0)] := rfl
@[simp] theorem K_49_0 : K 49 0 = some [(12, 0), (15, 1), (85, 0), (86, 0), (87, 0)] := rfl
@[simp] theorem K_53_0 : K 53 0 = some [(0, 0), (1, 0), (6, 0), (7, 0), (8, 0)] := rfl
@[simp] theorem K_55_0 : K 55 0 = some [(0, 0), (3, 0), (4, 0)] := rfl
@[simp] theorem K_56_0 : K 56 0 = some [(0, 0), (1, 0), (2, 0), (6, 0)] := rfl
@[simp] theorem K_56_2 : K 56 2 = some [(0, 0), (1, 0), (2, 0), (6, 0), (7, 0)] := rfl
@[simp] theorem K_57_0 : K 57 0 = some [(0, 0), (6, 0), (7, 0), (8, 0), (9, 0)] := rfl
@[simp] theorem K_57_2 : K 57 2 = some [(0, 0), (6, 0), (7, 0), (10, 0)] := rfl
@[simp] theorem K_58_0 : K 58 0 = some [(0, 0), (1, 0), (6, 0), (7, 0), (8, 0), (9, 0)] := rfl
@[simp] theorem K_60_0 : K 60 0 = some [(0, 0), (6, 0), (7, 0)] := rfl
@[simp] theorem K_61_0 : K 61 0 = some [(0, 0), (1, 0), (2, 0), (7, 0), (8, 0)] := rfl
@[simp] theorem K_61_2 : K 61 2 = some [(0, 0), (1, 0), (2, 0), (7, 0), (8, 0)] := rfl
@[simp] theorem K_61_4 : K 61 4 = some [(0, 0), (1, 0), (2, 0), (7, 0), (8, 0), (9, 0)] := rfl
@[simp] theorem K_61_6 : K 61 6 = some [(0, 0), (1, 0), (2, 0), (7, 0), (8, 0), (10, 0)] := rfl
@[simp] theorem K_62_0 : K 62 0 = some [(0, 0), (1, 0), (9, 0), (10, 0)] := rfl
@[simp] theorem K_62_2 : K 62 2 = some [(0, 0), (1, 0), (9, 0), (10, 0)] := rfl
@[simp] theorem K_62_4 : K 62 4 = some [(0, 0), (1, 0), (9, 0), (10, 0)] := rfl
@[simp] theorem K_63_0 : K 63 0 = some [(0, 0), (1, 0), (10, 0), (11, 0)] := rfl
@[simp] theorem K_63_2 : K 63 2 = some [(0, 0), (1, 0), (10, 0), (11, 0)] := rfl
@[simp] theorem K_63_4 : K 63 4 = some [(0, 0), (1, 0), (10, 0), (11, 0)] := rfl
@[simp] theorem K_63_6 : K 63 6 = some [(0, 0), (1, 0), (10, 0), (11, 0)] := rfl
@[simp] theorem K_63_8 : K 63 8 = some [(0, 0), (1, 0), (10, 0), (11, 0)] := rfl
@[simp] theorem K_69_0 : K 69 0 = some [(0, 0), (1, 0), (5, 1)] := rfl
@[simp] theorem K_70_0 : K 70 0 = some [(0, 0), (1, 0), (5, 0), (6, 1)] := rfl
@[simp] theorem K_70_2 : K 70 2 = some [(0, 0), (5, 0), (6, 1), (9, 1), (104, 0), (105, 0), (106, 0)] := rfl
@[simp] theorem K_71_0 : K 71 0 = some [(5, 0), (7, 1), (36, 0), (37, 0), (38, 0)] := rfl
@[simp] theorem K_73_0 : K 73 0 = some [(0, 0), (11, 1), (45, 0), (46, 0), (47, 0)] := rfl
@[simp] theorem K_74_0 : K 74 0 = some [(5, 0), (8, 0), (9, 0), (10, 0)] := rfl
@[simp] theorem K_77_0 : K 77 0 = some [(0, 0), (3, 0)] := rfl
@[simp] theorem K_77_2 : K 77 2 = some [(0, 0), (3, 0), (4, 0), (5, 0)] := rfl
@[simp] theorem K_80_0 : K 80 0 = some [(0, 0), (2, 0), (3, 0), (8, 0)] := rfl
@[simp] theorem K_87_0 : K 87 0 = some [(7, 0), (8, 0)] := rfl
@[simp] theorem K_89_0 : K 89 0 = some [(0, 0), (1, 0), (2, 0), (3, 0), (8, 0), (9, 0)] := rfl
@[simp] theorem K_92_0 : K 92 0 = some [(0, 0), (1, 0), (2, 0), (6, 0)] := rfl
@[simp] theorem K_92_2 : K 92 2 = some [(0, 0), (1, 0), (2, 0), (6, 0), (7, 0)] := rfl
@[simp] theorem K_93_0 : K 93 0 = some [(0, 0), (6, 0), (7, 0), (8, 0), (9, 0)] := rfl
@[simp] theorem K_93_2 : K 93 2 = some [(0, 0), (6, 0), (7, 0), (10, 0)] := rfl
@[simp] theorem K_94_0 : K 94 0 = some [(0, 0), (1, 0), (6, 0), (7, 0), (8, 0), (9, 0)] := rfl
@[simp] theorem K_96_0 : K 96 0 = some [(0, 0), (6, 0), (7, 0)] := rfl
@[simp] theorem K_97_0 : K 97 0 = some [(0, 0), (1, 0), (2, 0), (7, 0), (8, 0)] := rfl
@[simp] theorem K_97_2 : K 97 2 = some [(0, 0), (1, 0), (2, 0), (7, 0), (8, 0)] := rfl
@[simp] theorem K_97_4 : K 97 4 = some [(0, 0), (1, 0), (2, 0), (7, 0), (8, 0), (9, 0)] := rfl
@[simp] theorem K_97_6 : K 97 6 = some [(0, 0), (1, 0), (2, 0), (7, 0), (8, 0), (10, 0)] := rfl
@[simp] theorem K_98_0 : K 98 0 = some [(0, 0), (1, 0), (9, 0), (10, 0)] := rfl
@[simp] theorem K_98_2 : K 98 2 = some [(0, 0), (1, 0), (9, 0), (10, 0)] := rfl
@[simp] theorem K_98_4 : K 98 4 = some [(0, 0), (1, 0), (9, 0), (10, 0)] := rfl
@[simp] theorem K_99_0 : K 99 0 = some [(0, 0), (1, 0), (10, 0), (11, 0)] := rfl
@[simp] theorem K_99_2 : K 99 2 = some [(0, 0), (1, 0), (10, 0), (11, 0)] := rfl
@[simp] theorem K_99_4 : K 99 4 = some [(0, 0), (1, 0), (10, 0), (11, 0)] := rfl
@[simp] theorem K_99_6 : K 99 6 = some [(0, 0), (1, 0), (10, 0), (11, 0)] := rfl
@[simp] theorem K_99_8 : K 99 8 = some [(0, 0), (1, 0), (10, 0), (11, 0)] := rfl
@[simp] theorem K_100_0 : K 100 0 = some [(0, 0), (2, 0), (3, 0), (8, 0)] := rfl
@[simp] theorem Hn_3_15 : Hn 3 15 = [] := rfl
@[simp] theorem Hn_10_6 : Hn 10 6 = [] := rfl
@[simp] theorem Hn_21_31 : Hn 21 31 = [6] := rfl
@[simp] theorem Hn_22_6 : Hn 22 6 = [] := rfl
@[simp] theorem Hn_25_11 : Hn 25 11 = [] := rfl
@[simp] theorem Hn_31_6 : Hn 31 6 = [] := rfl
@[simp] theorem Hn_31_11 : Hn 31 11 = [] := rfl
@[simp] theorem Hn_34_9 : Hn 34 9 = [] := rfl
@[simp] theorem Hn_35_16 : Hn 35 16 = [] := rfl
@[simp] theorem Hn_40_5 : Hn 40 5 = [] := rfl
@[simp] theorem Hn_43_17 : Hn 43 17 = [] := rfl
@[simp] theorem Hn_48_29 : Hn 48 29 = [] := rfl
@[simp] theorem Hn_56_4 : Hn 56 4 = [] := rfl
@[simp] theorem Hn_56_6 : Hn 56 6 = [] := rfl
@[simp] theorem Hn_57_10 : Hn 57 10 = [] := rfl
@[simp] theorem Hn_58_10 : Hn 58 10 = [] := rfl
@[simp] theorem Hn_60_3 : Hn 60 3 = [] := rfl
@[simp] theorem Hn_61_5 : Hn 61 5 = [] := rfl
@[simp] theorem Hn_61_11 : Hn 61 11 = [] := rfl
@[simp] theorem Hn_61_16 : Hn 61 16 = [] := rfl
@[simp] theorem Hn_61_17 : Hn 61 17 = [] := rfl
@[simp] theorem Hn_61_22 : Hn 61 22 = [] := rfl
@[simp] theorem Hn_61_23 : Hn 61 23 = [] := rfl
@[simp] theorem Hn_62_1 : Hn 62 1 = [] := rfl
@[simp] theorem Hn_62_3 : Hn 62 3 = [] := rfl
@[simp] theorem Hn_62_5 : Hn 62 5 = [] := rfl
@[simp] theorem Hn_62_8 : Hn 62 8 = [] := rfl
@[simp] theorem Hn_63_1 : Hn 63 1 = [] := rfl
@[simp] theorem Hn_63_3 : Hn 63 3 = [] := rfl
@[simp] theorem Hn_63_5 : Hn 63 5 = [] := rfl
@[simp] theorem Hn_63_8 : Hn 63 8 = [] := rfl
@[simp] theorem Hn_63_10 : Hn 63 10 = [] := rfl
@[simp] theorem Hn_63_13 : Hn 63 13 = [] := rfl
@[simp] theorem Hn_63_15 : Hn 63 15 = [] := rfl
@[simp] theorem Hn_63_18 : Hn 63 18 = [] := rfl
@[simp] theorem Hn_63_21 : Hn 63 21 = [] := rfl
@[simp] theorem Hn_68_4 : Hn 68 4 = [8] := rfl
@[simp] theorem Hn_77_6 : Hn 77 6 = [] := rfl
@[simp] theorem Hn_77_11 : Hn 77 11 = [] := rfl
@[simp] theorem Hn_80_3 : Hn 80 3 = [] := rfl
@[simp] theorem Hn_80_5 : Hn 80 5 = [] := rfl
@[simp] theorem Hn_80_6 : Hn 80 6 = [] := rfl
@[simp] theorem Hn_82_1 : Hn 82 1 = [] := rfl
@[simp] theorem Hn_82_2 : Hn 82 2 = [] := rfl
@[simp] theorem Hn_82_3 : Hn 82 3 = [] := rfl
@[simp] theorem Hn_86_4 : Hn 86 4 = [8] := rfl
@[simp] theorem Hn_87_9 : Hn 87 9 = [] := rfl
@[simp] theorem Hn_89_17 : Hn 89 17 = [] := rfl
@[simp] theorem Hn_91_1 : Hn 91 1 = [] := rfl
@[simp] theorem Hn_92_4 : Hn 92 4 = [] := rfl
@[simp] theorem Hn_92_6 : Hn 92 6 = [] := rfl
@[simp] theorem Hn_93_10 : Hn 93 10 = [] := rfl
@[simp] theorem Hn_94_10 : Hn 94 10 = [] := rfl
@[simp] theorem Hn_96_3 : Hn 96 3 = [] := rfl
@[simp] theorem Hn_97_5 : Hn 97 5 = [] := rfl
@[simp] theorem Hn_97_11 : Hn 97 11 = [] := rfl
@[simp] theorem Hn_97_16 : Hn 97 16 = [] := rfl
@[simp] theorem Hn_97_17 : Hn 97 17 = [] := rfl
@[simp] theorem Hn_97_22 : Hn 97 22 = [] := rfl
@[simp] theorem Hn_97_23 : Hn 97 23 = [] := rfl
@[simp] theorem Hn_98_1 : Hn 98 1 = [] := rfl
@[simp] theorem Hn_98_3 : Hn 98 3 = [] := rfl
@[simp] theorem Hn_98_5 : Hn 98 5 = [] := rfl
@[simp] theorem Hn_98_8 : Hn 98 8 = [] := rfl
@[simp] theorem Hn_99_1 : Hn 99 1 = [] := rfl
@[simp] theorem Hn_99_3 : Hn 99 3 = [] := rfl
@[simp] theorem Hn_99_5 : Hn 99 5 = [] := rfl
@[simp] theorem Hn_99_8 : Hn 99 8 = [] := rfl
@[simp] theorem Hn_99_10 : Hn 99 10 = [] := rfl
@[simp] theorem Hn_99_13 : Hn 99 13 = [] := rfl
@[simp] theorem Hn_99_15 : Hn 99 15 = [] := rfl
@[simp] theorem Hn_99_18 : Hn 99 18 = [] := rfl
@[simp] theorem Hn_99_21 : Hn 99 21 = [] := rfl
@[simp] theorem Hn_100_3 : Hn 100 3 = [] := rfl
@[simp] theorem Hn_100_5 : Hn 100 5 = [] := rfl
@[simp] theorem Hn_100_6 : Hn 100 6 = [] := rfl
@[simp] theorem Hn_103_1 : Hn 103 1 = [] := rfl
noncomputable abbrev R : Run := Runs Try.prog G K Hn
end Go.Am.Ab
namespace Go.Am.Ab
structure Fld where
  id : Int
  name : ByteArray
  kind : Int
  need : Bool
structure Sch where
  id : Int
  fields : List Fld
structure Snap where
  id : Int
  parent : Int
  seq : Int
  offset : Int
  time : Int
  schema : Int
  mans : List ByteArray
structure Tab where
  schemas : List Sch
  snaps : List Snap
  current : Int
structure Pol where
  keep : Int
  age : Int
abbrev u64 (n : Int) : D := .int .u64 n
abbrev i64 (n : Int) : D := .int .i64 n
def Fld.d (f : Fld) : D := .agg [.int .u32 f.id, .str f.name, .int .u8 f.kind, .bool f.need]
def Sch.d (s : Sch) : D := .agg [.int .u32 s.id, .list (s.fields.map Fld.d)]
def Snap.d (s : Snap) : D := .agg [.int .u64 s.id, .int .u64 s.parent, .int .u64 s.seq, .int .u64 s.offset, .int .u64 s.time, .int .u32 s.schema, .list (s.mans.map .str)]
def Tab.d (t : Tab) : D := .agg [.list (t.schemas.map Sch.d), .list (t.snaps.map Snap.d), .int .u64 t.current]
def Pol.d (p : Pol) : D := .agg [.int .i64 p.keep, .int .u64 p.age]
attribute [simp] Fld.d Sch.d Snap.d Tab.d Pol.d
end Go.Am.Ab
namespace Go.Am

theorem bits_u8 : IntKind.bits .u8 = 8 := rfl
theorem bits_u32 : IntKind.bits .u32 = 32 := rfl
theorem bits_u64 : IntKind.bits .u64 = 64 := rfl
theorem bits_i64 : IntKind.bits .i64 = 64 := rfl
theorem wrap_mod_u8 (x : Int) : IntKind.u8.wrap x = x % 256 := by simp [IntKind.wrap, IntKind.signed, IntKind.bits]
theorem wrap_mod_u32 (x : Int) : IntKind.u32.wrap x = x % 4294967296 := by simp [IntKind.wrap, IntKind.signed, IntKind.bits]
theorem wrap_mod_u64 (x : Int) : IntKind.u64.wrap x = x % 18446744073709551616 := by simp [IntKind.wrap, IntKind.signed, IntKind.bits]
theorem wrap_mod_i64 (x : Int) : IntKind.i64.wrap x = if x % 18446744073709551616 ≥ 9223372036854775808 then x % 18446744073709551616 - 18446744073709551616 else x % 18446744073709551616 := by
  simp [IntKind.wrap, IntKind.signed, IntKind.bits]

/-- '|', '&', '^' of numbers without a sign. -/
theorem ofInt_nat (n : Nat) (w : Nat) : (BitVec.ofInt w (n : Int)).toNat = n % 2 ^ w := by
  rw [BitVec.toNat_ofInt]
  have : (n : Int) % ((2 ^ w : Nat) : Int) = ((n % 2 ^ w : Nat) : Int) := by rw [Int.natCast_emod]
  rw [this, Int.toNat_natCast]
theorem or_u64 {x y : Nat} (hx : x < 2 ^ 64) (hy : y < 2 ^ 64) : IntKind.u64.wrap (BitVec.ofInt 64 (x : Int) ||| BitVec.ofInt 64 (y : Int)).toNat = ((x ||| y : Nat) : Int) := by
  rw [BitVec.toNat_or, ofInt_nat, ofInt_nat, Nat.mod_eq_of_lt hx, Nat.mod_eq_of_lt hy, wrap_mod_u64]
  have := Nat.or_lt_two_pow hx hy
  omega
theorem and_u64 {x y : Nat} (hx : x < 2 ^ 64) (hy : y < 2 ^ 64) : IntKind.u64.wrap (BitVec.ofInt 64 (x : Int) &&& BitVec.ofInt 64 (y : Int)).toNat = ((x &&& y : Nat) : Int) := by
  rw [BitVec.toNat_and, ofInt_nat, ofInt_nat, Nat.mod_eq_of_lt hx, Nat.mod_eq_of_lt hy, wrap_mod_u64]
  have := Nat.and_lt_two_pow x hy
  omega
theorem xor_u64 {x y : Nat} (hx : x < 2 ^ 64) (hy : y < 2 ^ 64) : IntKind.u64.wrap (BitVec.ofInt 64 (x : Int) ^^^ BitVec.ofInt 64 (y : Int)).toNat = ((x ^^^ y : Nat) : Int) := by
  rw [BitVec.toNat_xor, ofInt_nat, ofInt_nat, Nat.mod_eq_of_lt hx, Nat.mod_eq_of_lt hy, wrap_mod_u64]
  have := Nat.xor_lt_two_pow hx hy
  omega
theorem or_u8 {x y : Nat} (hx : x < 2 ^ 8) (hy : y < 2 ^ 8) : IntKind.u8.wrap (BitVec.ofInt 8 (x : Int) ||| BitVec.ofInt 8 (y : Int)).toNat = ((x ||| y : Nat) : Int) := by
  rw [BitVec.toNat_or, ofInt_nat, ofInt_nat, Nat.mod_eq_of_lt hx, Nat.mod_eq_of_lt hy, wrap_mod_u8]
  have := Nat.or_lt_two_pow hx hy
  omega
theorem and_u8 {x y : Nat} (hx : x < 2 ^ 8) (hy : y < 2 ^ 8) : IntKind.u8.wrap (BitVec.ofInt 8 (x : Int) &&& BitVec.ofInt 8 (y : Int)).toNat = ((x &&& y : Nat) : Int) := by
  rw [BitVec.toNat_and, ofInt_nat, ofInt_nat, Nat.mod_eq_of_lt hx, Nat.mod_eq_of_lt hy, wrap_mod_u8]
  have := Nat.and_lt_two_pow x hy
  omega
theorem or_u32 {x y : Nat} (hx : x < 2 ^ 32) (hy : y < 2 ^ 32) : IntKind.u32.wrap (BitVec.ofInt 32 (x : Int) ||| BitVec.ofInt 32 (y : Int)).toNat = ((x ||| y : Nat) : Int) := by
  rw [BitVec.toNat_or, ofInt_nat, ofInt_nat, Nat.mod_eq_of_lt hx, Nat.mod_eq_of_lt hy, wrap_mod_u32]
  have := Nat.or_lt_two_pow hx hy
  omega
theorem and_u32 {x y : Nat} (hx : x < 2 ^ 32) (hy : y < 2 ^ 32) : IntKind.u32.wrap (BitVec.ofInt 32 (x : Int) &&& BitVec.ofInt 32 (y : Int)).toNat = ((x &&& y : Nat) : Int) := by
  rw [BitVec.toNat_and, ofInt_nat, ofInt_nat, Nat.mod_eq_of_lt hx, Nat.mod_eq_of_lt hy, wrap_mod_u32]
  have := Nat.and_lt_two_pow x hy
  omega
theorem xor_u32 {x y : Nat} (hx : x < 2 ^ 32) (hy : y < 2 ^ 32) : IntKind.u32.wrap (BitVec.ofInt 32 (x : Int) ^^^ BitVec.ofInt 32 (y : Int)).toNat = ((x ^^^ y : Nat) : Int) := by
  rw [BitVec.toNat_xor, ofInt_nat, ofInt_nat, Nat.mod_eq_of_lt hx, Nat.mod_eq_of_lt hy, wrap_mod_u32]
  have := Nat.xor_lt_two_pow hx hy
  omega

theorem intBin_or_u8 {x y : Int} (h1 : 0 ≤ x) (h2 : x < 256) (h3 : 0 ≤ y) (h4 : y < 256) : intBin .or .u8 x y = some (.int .u8 ((x.toNat ||| y.toNat : Nat) : Int)) := by
  obtain ⟨a, rfl⟩ := Int.eq_ofNat_of_zero_le h1
  obtain ⟨b, rfl⟩ := Int.eq_ofNat_of_zero_le h3
  show some (D.int .u8 _) = _
  rw [Int.toNat_natCast, Int.toNat_natCast]
  exact congrArg (fun z => some (D.int .u8 z)) (or_u8 (by omega) (by omega))
attribute [simp] intBin_or_u8
theorem intBin_and_u8 {x y : Int} (h1 : 0 ≤ x) (h2 : x < 256) (h3 : 0 ≤ y) (h4 : y < 256) : intBin .and .u8 x y = some (.int .u8 ((x.toNat &&& y.toNat : Nat) : Int)) := by
  obtain ⟨a, rfl⟩ := Int.eq_ofNat_of_zero_le h1
  obtain ⟨b, rfl⟩ := Int.eq_ofNat_of_zero_le h3
  show some (D.int .u8 _) = _
  rw [Int.toNat_natCast, Int.toNat_natCast]
  exact congrArg (fun z => some (D.int .u8 z)) (and_u8 (by omega) (by omega))
attribute [simp] intBin_and_u8
theorem intBin_or_u32 {x y : Int} (h1 : 0 ≤ x) (h2 : x < 4294967296) (h3 : 0 ≤ y) (h4 : y < 4294967296) : intBin .or .u32 x y = some (.int .u32 ((x.toNat ||| y.toNat : Nat) : Int)) := by
  obtain ⟨a, rfl⟩ := Int.eq_ofNat_of_zero_le h1
  obtain ⟨b, rfl⟩ := Int.eq_ofNat_of_zero_le h3
  show some (D.int .u32 _) = _
  rw [Int.toNat_natCast, Int.toNat_natCast]
  exact congrArg (fun z => some (D.int .u32 z)) (or_u32 (by omega) (by omega))
attribute [simp] intBin_or_u32
theorem intBin_and_u32 {x y : Int} (h1 : 0 ≤ x) (h2 : x < 4294967296) (h3 : 0 ≤ y) (h4 : y < 4294967296) : intBin .and .u32 x y = some (.int .u32 ((x.toNat &&& y.toNat : Nat) : Int)) := by
  obtain ⟨a, rfl⟩ := Int.eq_ofNat_of_zero_le h1
  obtain ⟨b, rfl⟩ := Int.eq_ofNat_of_zero_le h3
  show some (D.int .u32 _) = _
  rw [Int.toNat_natCast, Int.toNat_natCast]
  exact congrArg (fun z => some (D.int .u32 z)) (and_u32 (by omega) (by omega))
attribute [simp] intBin_and_u32
theorem intBin_xor_u32 {x y : Int} (h1 : 0 ≤ x) (h2 : x < 4294967296) (h3 : 0 ≤ y) (h4 : y < 4294967296) : intBin .xor .u32 x y = some (.int .u32 ((x.toNat ^^^ y.toNat : Nat) : Int)) := by
  obtain ⟨a, rfl⟩ := Int.eq_ofNat_of_zero_le h1
  obtain ⟨b, rfl⟩ := Int.eq_ofNat_of_zero_le h3
  show some (D.int .u32 _) = _
  rw [Int.toNat_natCast, Int.toNat_natCast]
  exact congrArg (fun z => some (D.int .u32 z)) (xor_u32 (by omega) (by omega))
attribute [simp] intBin_xor_u32
theorem intBin_or_u64 {x y : Int} (h1 : 0 ≤ x) (h2 : x < 18446744073709551616) (h3 : 0 ≤ y) (h4 : y < 18446744073709551616) : intBin .or .u64 x y = some (.int .u64 ((x.toNat ||| y.toNat : Nat) : Int)) := by
  obtain ⟨a, rfl⟩ := Int.eq_ofNat_of_zero_le h1
  obtain ⟨b, rfl⟩ := Int.eq_ofNat_of_zero_le h3
  show some (D.int .u64 _) = _
  rw [Int.toNat_natCast, Int.toNat_natCast]
  exact congrArg (fun z => some (D.int .u64 z)) (or_u64 (by omega) (by omega))
attribute [simp] intBin_or_u64
theorem intBin_and_u64 {x y : Int} (h1 : 0 ≤ x) (h2 : x < 18446744073709551616) (h3 : 0 ≤ y) (h4 : y < 18446744073709551616) : intBin .and .u64 x y = some (.int .u64 ((x.toNat &&& y.toNat : Nat) : Int)) := by
  obtain ⟨a, rfl⟩ := Int.eq_ofNat_of_zero_le h1
  obtain ⟨b, rfl⟩ := Int.eq_ofNat_of_zero_le h3
  show some (D.int .u64 _) = _
  rw [Int.toNat_natCast, Int.toNat_natCast]
  exact congrArg (fun z => some (D.int .u64 z)) (and_u64 (by omega) (by omega))
attribute [simp] intBin_and_u64
theorem intBin_xor_u64 {x y : Int} (h1 : 0 ≤ x) (h2 : x < 18446744073709551616) (h3 : 0 ≤ y) (h4 : y < 18446744073709551616) : intBin .xor .u64 x y = some (.int .u64 ((x.toNat ^^^ y.toNat : Nat) : Int)) := by
  obtain ⟨a, rfl⟩ := Int.eq_ofNat_of_zero_le h1
  obtain ⟨b, rfl⟩ := Int.eq_ofNat_of_zero_le h3
  show some (D.int .u64 _) = _
  rw [Int.toNat_natCast, Int.toNat_natCast]
  exact congrArg (fun z => some (D.int .u64 z)) (xor_u64 (by omega) (by omega))
attribute [simp] intBin_xor_u64

/-- x | y where y is less than a power of two by which x can be divided. -/
theorem or_add {x y i : Nat} (hx : x % 2 ^ i = 0) (hy : y < 2 ^ i) : x ||| y = x + y := by
  have e : x = 2 ^ i * (x / 2 ^ i) := by
    have := Nat.div_add_mod x (2 ^ i)
    omega
  rw [e, Nat.two_pow_add_eq_or_of_lt hy]
theorem or_add' {x y i : Nat} (hx : x % 2 ^ i = 0) (hy : y < 2 ^ i) : y ||| x = y + x := by rw [Nat.or_comm, or_add hx hy, Nat.add_comm]

theorem or128 (n : Nat) : (n % 256 ||| 128) = n % 128 + 128 := by
  have h1 : n % 256 = n % 128 + 128 * (n / 128 % 2) := by omega
  have h2 : n / 128 % 2 = 0 ∨ n / 128 % 2 = 1 := by omega
  have h3 : n % 128 < 2 ^ 7 := by omega
  rcases h2 with h | h
  · rw [h1, h, Nat.mul_zero, Nat.add_zero]
    rw [or_add' (i := 7) (by decide) h3]
  · rw [h1, h, Nat.mul_one]
    have : n % 128 + 128 = n % 128 ||| 128 := (or_add' (i := 7) (by decide) h3).symm
    rw [this, Nat.or_assoc, Nat.or_self]
theorem and_mask (n k : Nat) : n &&& (2 ^ k - 1) = n % 2 ^ k := Nat.and_two_pow_sub_one_eq_mod n k
theorem and127 (n : Nat) : n &&& 127 = n % 128 := and_mask n 7
theorem and1 (n : Nat) : n &&& 1 = n % 2 := and_mask n 1
theorem xor_ones {x : Nat} (hx : x < 2 ^ 64) : x ^^^ 18446744073709551615 = 18446744073709551615 - x := by
  have h : (BitVec.ofNat 64 x ^^^ BitVec.allOnes 64).toNat = (~~~ BitVec.ofNat 64 x).toNat := by rw [BitVec.xor_allOnes]
  rw [BitVec.toNat_xor, BitVec.toNat_not, BitVec.toNat_ofNat, BitVec.toNat_allOnes, Nat.mod_eq_of_lt hx] at h
  exact h

theorem intBin_xor_i64_zero {x : Int} (h1 : -9223372036854775808 ≤ x) (h2 : x ≤ 9223372036854775807) : intBin .xor .i64 x 0 = some (.int .i64 x) := by
  show some (D.int .i64 (IntKind.i64.wrap (BitVec.ofInt 64 x ^^^ BitVec.ofInt 64 0).toNat)) = _
  have : BitVec.ofInt 64 0 = 0#64 := rfl
  rw [this, BitVec.xor_zero, BitVec.toNat_ofInt, wrap_mod_i64]
  congr 2
  split <;> omega
theorem intBin_xor_i64_m1 {x : Int} (h1 : -9223372036854775808 ≤ x) (h2 : x ≤ 9223372036854775807) : intBin .xor .i64 x (-1) = some (.int .i64 (-x - 1)) := by
  show some (D.int .i64 (IntKind.i64.wrap (BitVec.ofInt 64 x ^^^ BitVec.ofInt 64 (-1)).toNat)) = _
  have : BitVec.ofInt 64 (-1) = BitVec.allOnes 64 := by decide
  rw [this, BitVec.xor_allOnes, BitVec.toNat_not, BitVec.toNat_ofInt, wrap_mod_i64]
  congr 2
  split <;> omega
attribute [simp] intBin_xor_i64_zero intBin_xor_i64_m1

/-- A byte. -/
def u8n (n : Nat) : UInt8 := UInt8.ofNat n
theorem u8n_toNat {n : Nat} (h : n < 256) : (u8n n).toNat = n := by simp [u8n]; omega
theorem u8n_of (b : UInt8) : u8n b.toNat = b := by simp [u8n]
abbrev bytes (l : List UInt8) : List D := l.map byteD
theorem byteD_eq {b : UInt8} {x : Int} (h : (b.toNat : Int) = x) : byteD b = .int .u8 x := by simp [byteD, h]
theorem u8_toNat {n : Nat} (h : n < 256) : (UInt8.ofNat n).toNat = n := by simp; omega
theorem toNat_lt' (b : UInt8) : b.toNat < 256 := b.toNat_lt
theorem fdiv_nat (x k : Nat) : ((x : Int).fdiv (2 ^ k)) = ((x / 2 ^ k : Nat) : Int) := by
  rw [Int.fdiv_eq_ediv_of_nonneg _ (by exact Int.le_of_lt (Int.pow_pos (by decide)))]
  rw [Int.natCast_ediv]
  simp
@[simp] theorem mk_toList (l : List UInt8) : (ByteArray.mk l.toArray).toList = l := by rw [ByteArray.toList_eq]
@[simp] theorem mk_size (l : List UInt8) : (ByteArray.mk l.toArray).size = l.length := by simp [ByteArray.size]
@[simp] theorem bytes_comp (l : List UInt8) : l.mapM (byteOf? ∘ byteD) = some l := by rw [← List.mapM_map]; exact bytes_of_map l
@[simp] theorem bytes_take (l : List UInt8) (k : Nat) : ((l.map byteD).take k).mapM byteOf? = some (l.take k) := by rw [← List.map_take, bytes_of_map]
@[simp] theorem bytes_drop (l : List UInt8) (k : Nat) : ((l.map byteD).drop k).mapM byteOf? = some (l.drop k) := by rw [← List.map_drop, bytes_of_map]
@[simp] theorem bytes_take_drop (l : List UInt8) (k j : Nat) : (((l.map byteD).take k).drop j).mapM byteOf? = some ((l.take k).drop j) := by rw [← List.map_take, ← List.map_drop, bytes_of_map]
@[simp] theorem allSize_bytes (l : List UInt8) : allSize 1 (l.map byteD) = true := allSize_map l fun _ => rfl
@[simp] theorem allSize_ints {α : Type} (k : IntKind) (f : α → Int) (l : List α) : allSize 1 (l.map fun x => D.int k (f x)) = true := allSize_map l fun _ => rfl
@[simp] theorem allSize_strs (l : List ByteArray) : allSize 1 (l.map D.str) = true := allSize_map l fun _ => rfl
attribute [simp] cut
@[simp] theorem take_map_len {α β : Type} (f : α → β) (l : List α) : (l.map f).take l.length = l.map f := List.take_of_length_le (by simp)
attribute [simp] byteD u8n_toNat or128 and127 and1 u8n_of
attribute [simp] wrap_mod_u8 wrap_mod_u32 bits_u8 bits_u32 bits_u64 bits_i64
@[simp] theorem toNat_mod256 (m : Nat) : ((m : Int) % 256).toNat = m % 256 := by omega
@[simp] theorem toNat_mod32 (m : Nat) : ((m : Int) % 4294967296).toNat = m % 4294967296 := by omega
@[simp] theorem toNat_mod64 (m : Nat) : ((m : Int) % 18446744073709551616).toNat = m % 18446744073709551616 := by omega
theorem fdiv_pos (a b : Int) (h : 0 ≤ b) : a.fdiv b = a / b := Int.fdiv_eq_ediv_of_nonneg a h
@[simp] theorem fdiv_pow (a : Int) (w : Nat) : a.fdiv (2 ^ w) = a / 2 ^ w := fdiv_pos a _ (Int.le_of_lt (Int.pow_pos (by decide)))
attribute [simp] fdiv_pos
theorem tdiv_pos (a b : Int) (h : 0 ≤ a) : a.tdiv b = a / b := Int.tdiv_eq_ediv_of_nonneg h
theorem tmod_pos (a b : Int) (h : 0 ≤ a) : a.tmod b = a % b := Int.tmod_eq_emod_of_nonneg h
attribute [simp] tdiv_pos tmod_pos
theorem byteD_nat {n m : Nat} (h : n < 256) (e : n = m) : byteD (u8n n) = .int .u8 (m : Int) := byteD_eq (by rw [u8n_toNat h, e])
end Go.Am
