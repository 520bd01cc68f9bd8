/- Facts on the types of this program, and what each loop keeps. Printed by seat.py. -/
import Derived.Test.YtekemfffaedmhaaAmAuto
import Derived.Test.YtekemfffaedmhaaProg
import Derived.KernelRfl
set_option linter.all false
namespace Go.Am.Ab
open Go.Proofs
attribute [simp] Try.underlying0
@[simp] theorem sz0 : sizeOf? Try.prog 0 = some 1 := by kernel_rfl
@[simp] theorem ag0 : agg? Try.prog 0 = some false := by kernel_rfl
attribute [simp] Try.underlying2
@[simp] theorem sz2 : sizeOf? Try.prog 2 = some 1 := by kernel_rfl
@[simp] theorem ag2 : agg? Try.prog 2 = some false := by kernel_rfl
@[simp] theorem zs2 : zeroVs? Try.prog 2 = some [.d (.int .i64 0)] := by kernel_rfl
@[simp] theorem al2 (h : List Am.Obj) : allocV Try.prog h 2 = some (.ptr h.length 0, h ++ [.box [.d (.int .i64 0)]]) := allocV_of zs2
@[simp] theorem zv2 : (zero? Try.prog 2).isSome = true := by kernel_rfl
@[simp] theorem ap2 : appElem? Try.prog 2 = some 1 := by kernel_rfl
attribute [simp] Try.underlying3
@[simp] theorem sz3 : sizeOf? Try.prog 3 = some 1 := by kernel_rfl
@[simp] theorem ag3 : agg? Try.prog 3 = some false := by kernel_rfl
@[simp] theorem zs3 : zeroVs? Try.prog 3 = some [.d (.int .i64 0)] := by kernel_rfl
@[simp] theorem al3 (h : List Am.Obj) : allocV Try.prog h 3 = some (.ptr h.length 0, h ++ [.box [.d (.int .i64 0)]]) := allocV_of zs3
@[simp] theorem zv3 : (zero? Try.prog 3).isSome = true := by kernel_rfl
@[simp] theorem ap3 : appElem? Try.prog 3 = some 1 := by kernel_rfl
attribute [simp] Try.underlying4
@[simp] theorem sz4 : sizeOf? Try.prog 4 = some 1 := by kernel_rfl
@[simp] theorem ag4 : agg? Try.prog 4 = some false := by kernel_rfl
@[simp] theorem zs4 : zeroVs? Try.prog 4 = some [.d (.bool false)] := by kernel_rfl
@[simp] theorem al4 (h : List Am.Obj) : allocV Try.prog h 4 = some (.ptr h.length 0, h ++ [.box [.d (.bool false)]]) := allocV_of zs4
@[simp] theorem zv4 : (zero? Try.prog 4).isSome = true := by kernel_rfl
@[simp] theorem ap4 : appElem? Try.prog 4 = some 1 := by kernel_rfl
attribute [simp] Try.underlying5
@[simp] theorem sz5 : sizeOf? Try.prog 5 = some 1 := by kernel_rfl
@[simp] theorem ag5 : agg? Try.prog 5 = some false := by kernel_rfl
@[simp] theorem zs5 : zeroVs? Try.prog 5 = some [.d (.int .u8 0)] := by kernel_rfl
@[simp] theorem al5 (h : List Am.Obj) : allocV Try.prog h 5 = some (.ptr h.length 0, h ++ [.box [.d (.int .u8 0)]]) := allocV_of zs5
@[simp] theorem zv5 : (zero? Try.prog 5).isSome = true := by kernel_rfl
@[simp] theorem ap5 : appElem? Try.prog 5 = some 1 := by kernel_rfl
attribute [simp] Try.underlying9
@[simp] theorem sz9 : sizeOf? Try.prog 9 = some 1 := by kernel_rfl
@[simp] theorem ag9 : agg? Try.prog 9 = some false := by kernel_rfl
@[simp] theorem zs9 : zeroVs? Try.prog 9 = some [.d (.str ⟨#[]⟩)] := by kernel_rfl
@[simp] theorem al9 (h : List Am.Obj) : allocV Try.prog h 9 = some (.ptr h.length 0, h ++ [.box [.d (.str ⟨#[]⟩)]]) := allocV_of zs9
@[simp] theorem zv9 : (zero? Try.prog 9).isSome = true := by kernel_rfl
@[simp] theorem ap9 : appElem? Try.prog 9 = some 1 := by kernel_rfl
attribute [simp] Try.underlying20
@[simp] theorem sz20 : sizeOf? Try.prog 20 = some 1 := by kernel_rfl
@[simp] theorem ag20 : agg? Try.prog 20 = some false := by kernel_rfl
@[simp] theorem zs20 : zeroVs? Try.prog 20 = some [.d .nilI] := by kernel_rfl
@[simp] theorem al20 (h : List Am.Obj) : allocV Try.prog h 20 = some (.ptr h.length 0, h ++ [.box [.d .nilI]]) := allocV_of zs20
@[simp] theorem zv20 : (zero? Try.prog 20).isSome = true := by kernel_rfl
@[simp] theorem ap20 : appElem? Try.prog 20 = some 1 := by kernel_rfl
attribute [simp] Try.underlying22
@[simp] theorem sz22 : sizeOf? Try.prog 22 = some 1 := by kernel_rfl
@[simp] theorem ag22 : agg? Try.prog 22 = some false := by kernel_rfl
@[simp] theorem zs22 : zeroVs? Try.prog 22 = some [.nilS] := by kernel_rfl
@[simp] theorem al22 (h : List Am.Obj) : allocV Try.prog h 22 = some (.ptr h.length 0, h ++ [.box [.nilS]]) := allocV_of zs22
@[simp] theorem zv22 : (zero? Try.prog 22).isSome = true := by kernel_rfl
@[simp] theorem ap22 : appElem? Try.prog 22 = some 1 := by kernel_rfl
@[simp] theorem es22 : elemSize Try.prog 22 = 2 := by kernel_rfl
attribute [simp] Try.underlying23
@[simp] theorem sz23 : sizeOf? Try.prog 23 = some 1 := by kernel_rfl
@[simp] theorem ag23 : agg? Try.prog 23 = some false := by kernel_rfl
@[simp] theorem zs23 : zeroVs? Try.prog 23 = some [.nilS] := by kernel_rfl
@[simp] theorem al23 (h : List Am.Obj) : allocV Try.prog h 23 = some (.ptr h.length 0, h ++ [.box [.nilS]]) := allocV_of zs23
@[simp] theorem zv23 : (zero? Try.prog 23).isSome = true := by kernel_rfl
@[simp] theorem ap23 : appElem? Try.prog 23 = some 1 := by kernel_rfl
@[simp] theorem es23 : elemSize Try.prog 23 = 7 := by kernel_rfl
attribute [simp] Try.underlying24
@[simp] theorem sz24 : sizeOf? Try.prog 24 = some 1 := by kernel_rfl
@[simp] theorem ag24 : agg? Try.prog 24 = some false := by kernel_rfl
@[simp] theorem zs24 : zeroVs? Try.prog 24 = some [.d (.int .u64 0)] := by kernel_rfl
@[simp] theorem al24 (h : List Am.Obj) : allocV Try.prog h 24 = some (.ptr h.length 0, h ++ [.box [.d (.int .u64 0)]]) := allocV_of zs24
@[simp] theorem zv24 : (zero? Try.prog 24).isSome = true := by kernel_rfl
@[simp] theorem ap24 : appElem? Try.prog 24 = some 1 := by kernel_rfl
attribute [simp] Try.underlying25
@[simp] theorem sz25 : sizeOf? Try.prog 25 = some 3 := by kernel_rfl
@[simp] theorem ag25 : agg? Try.prog 25 = some true := by kernel_rfl
@[simp] theorem zs25 : zeroVs? Try.prog 25 = some [.nilS, .nilS, .d (.int .u64 0)] := by kernel_rfl
@[simp] theorem al25 (h : List Am.Obj) : allocV Try.prog h 25 = some (.ptr h.length 0, h ++ [.box [.nilS, .nilS, .d (.int .u64 0)]]) := allocV_of zs25
@[simp] theorem zv25 : (zero? Try.prog 25).isSome = true := by kernel_rfl
@[simp] theorem ap25 : appElem? Try.prog 25 = some 3 := by kernel_rfl
@[simp] theorem bv25 (parts : List (Nat × V)) : buildV Try.prog 25 parts = (fillV (fun i => [(0, 1), (1, 1), (2, 1)][i]?) [.nilS, .nilS, .d (.int .u64 0)] parts).map mkAgg := buildV_struct (by kernel_rfl) (by kernel_rfl)
@[simp] theorem fo25_0 : fieldOff? Try.prog 25 0 = some (0, 22) := by kernel_rfl
@[simp] theorem fo25_1 : fieldOff? Try.prog 25 1 = some (1, 23) := by kernel_rfl
@[simp] theorem fo25_2 : fieldOff? Try.prog 25 2 = some (2, 24) := by kernel_rfl
attribute [simp] Try.underlying26
@[simp] theorem sz26 : sizeOf? Try.prog 26 = some 3 := by kernel_rfl
@[simp] theorem ag26 : agg? Try.prog 26 = some true := by kernel_rfl
@[simp] theorem zs26 : zeroVs? Try.prog 26 = some [.nilS, .nilS, .d (.int .u64 0)] := by kernel_rfl
@[simp] theorem al26 (h : List Am.Obj) : allocV Try.prog h 26 = some (.ptr h.length 0, h ++ [.box [.nilS, .nilS, .d (.int .u64 0)]]) := allocV_of zs26
@[simp] theorem zv26 : (zero? Try.prog 26).isSome = true := by kernel_rfl
@[simp] theorem ap26 : appElem? Try.prog 26 = some 3 := by kernel_rfl
@[simp] theorem bv26 (parts : List (Nat × V)) : buildV Try.prog 26 parts = (fillV (fun i => [(0, 1), (1, 1), (2, 1)][i]?) [.nilS, .nilS, .d (.int .u64 0)] parts).map mkAgg := buildV_struct (by kernel_rfl) (by kernel_rfl)
@[simp] theorem fo26_0 : fieldOff? Try.prog 26 0 = some (0, 22) := by kernel_rfl
@[simp] theorem fo26_1 : fieldOff? Try.prog 26 1 = some (1, 23) := by kernel_rfl
@[simp] theorem fo26_2 : fieldOff? Try.prog 26 2 = some (2, 24) := by kernel_rfl
attribute [simp] Try.underlying27
@[simp] theorem sz27 : sizeOf? Try.prog 27 = some 2 := by kernel_rfl
@[simp] theorem ag27 : agg? Try.prog 27 = some true := by kernel_rfl
@[simp] theorem zs27 : zeroVs? Try.prog 27 = some [.d (.int .i64 0), .d (.int .u64 0)] := by kernel_rfl
@[simp] theorem al27 (h : List Am.Obj) : allocV Try.prog h 27 = some (.ptr h.length 0, h ++ [.box [.d (.int .i64 0), .d (.int .u64 0)]]) := allocV_of zs27
@[simp] theorem zv27 : (zero? Try.prog 27).isSome = true := by kernel_rfl
@[simp] theorem ap27 : appElem? Try.prog 27 = some 2 := by kernel_rfl
@[simp] theorem bv27 (parts : List (Nat × V)) : buildV Try.prog 27 parts = (fillV (fun i => [(0, 1), (1, 1)][i]?) [.d (.int .i64 0), .d (.int .u64 0)] parts).map mkAgg := buildV_struct (by kernel_rfl) (by kernel_rfl)
@[simp] theorem fo27_0 : fieldOff? Try.prog 27 0 = some (0, 3) := by kernel_rfl
@[simp] theorem fo27_1 : fieldOff? Try.prog 27 1 = some (1, 24) := by kernel_rfl
attribute [simp] Try.underlying28
@[simp] theorem sz28 : sizeOf? Try.prog 28 = some 2 := by kernel_rfl
@[simp] theorem ag28 : agg? Try.prog 28 = some true := by kernel_rfl
@[simp] theorem zs28 : zeroVs? Try.prog 28 = some [.d (.int .i64 0), .d (.int .u64 0)] := by kernel_rfl
@[simp] theorem al28 (h : List Am.Obj) : allocV Try.prog h 28 = some (.ptr h.length 0, h ++ [.box [.d (.int .i64 0), .d (.int .u64 0)]]) := allocV_of zs28
@[simp] theorem zv28 : (zero? Try.prog 28).isSome = true := by kernel_rfl
@[simp] theorem ap28 : appElem? Try.prog 28 = some 2 := by kernel_rfl
@[simp] theorem bv28 (parts : List (Nat × V)) : buildV Try.prog 28 parts = (fillV (fun i => [(0, 1), (1, 1)][i]?) [.d (.int .i64 0), .d (.int .u64 0)] parts).map mkAgg := buildV_struct (by kernel_rfl) (by kernel_rfl)
@[simp] theorem fo28_0 : fieldOff? Try.prog 28 0 = some (0, 3) := by kernel_rfl
@[simp] theorem fo28_1 : fieldOff? Try.prog 28 1 = some (1, 24) := by kernel_rfl
attribute [simp] Try.underlying32
@[simp] theorem sz32 : sizeOf? Try.prog 32 = some 1 := by kernel_rfl
@[simp] theorem ag32 : agg? Try.prog 32 = some false := by kernel_rfl
@[simp] theorem zs32 : zeroVs? Try.prog 32 = some [.nilS] := by kernel_rfl
@[simp] theorem al32 (h : List Am.Obj) : allocV Try.prog h 32 = some (.ptr h.length 0, h ++ [.box [.nilS]]) := allocV_of zs32
@[simp] theorem zv32 : (zero? Try.prog 32).isSome = true := by kernel_rfl
@[simp] theorem ap32 : appElem? Try.prog 32 = some 1 := by kernel_rfl
@[simp] theorem es32 : elemSize Try.prog 32 = 1 := by kernel_rfl
attribute [simp] Try.underlying37
@[simp] theorem sz37 : sizeOf? Try.prog 37 = some 1 := by kernel_rfl
@[simp] theorem ag37 : agg? Try.prog 37 = some false := by kernel_rfl
@[simp] theorem zs37 : zeroVs? Try.prog 37 = some [.d (.int .u32 0)] := by kernel_rfl
@[simp] theorem al37 (h : List Am.Obj) : allocV Try.prog h 37 = some (.ptr h.length 0, h ++ [.box [.d (.int .u32 0)]]) := allocV_of zs37
@[simp] theorem zv37 : (zero? Try.prog 37).isSome = true := by kernel_rfl
@[simp] theorem ap37 : appElem? Try.prog 37 = some 1 := by kernel_rfl
attribute [simp] Try.underlying38
@[simp] theorem sz38 : sizeOf? Try.prog 38 = some 1 := by kernel_rfl
@[simp] theorem ag38 : agg? Try.prog 38 = some false := by kernel_rfl
@[simp] theorem zs38 : zeroVs? Try.prog 38 = some [.nilS] := by kernel_rfl
@[simp] theorem al38 (h : List Am.Obj) : allocV Try.prog h 38 = some (.ptr h.length 0, h ++ [.box [.nilS]]) := allocV_of zs38
@[simp] theorem zv38 : (zero? Try.prog 38).isSome = true := by kernel_rfl
@[simp] theorem ap38 : appElem? Try.prog 38 = some 1 := by kernel_rfl
@[simp] theorem es38 : elemSize Try.prog 38 = 1 := by kernel_rfl
attribute [simp] Try.underlying39
@[simp] theorem sz39 : sizeOf? Try.prog 39 = some 7 := by kernel_rfl
@[simp] theorem ag39 : agg? Try.prog 39 = some true := by kernel_rfl
@[simp] theorem zs39 : zeroVs? Try.prog 39 = some [.d (.int .u64 0), .d (.int .u64 0), .d (.int .u64 0), .d (.int .u64 0), .d (.int .u64 0), .d (.int .u32 0), .nilS] := by kernel_rfl
@[simp] theorem al39 (h : List Am.Obj) : allocV Try.prog h 39 = some (.ptr h.length 0, h ++ [.box [.d (.int .u64 0), .d (.int .u64 0), .d (.int .u64 0), .d (.int .u64 0), .d (.int .u64 0), .d (.int .u32 0), .nilS]]) := allocV_of zs39
@[simp] theorem zv39 : (zero? Try.prog 39).isSome = true := by kernel_rfl
@[simp] theorem ap39 : appElem? Try.prog 39 = some 7 := by kernel_rfl
@[simp] theorem bv39 (parts : List (Nat × V)) : buildV Try.prog 39 parts = (fillV (fun i => [(0, 1), (1, 1), (2, 1), (3, 1), (4, 1), (5, 1), (6, 1)][i]?) [.d (.int .u64 0), .d (.int .u64 0), .d (.int .u64 0), .d (.int .u64 0), .d (.int .u64 0), .d (.int .u32 0), .nilS] parts).map mkAgg := buildV_struct (by kernel_rfl) (by kernel_rfl)
@[simp] theorem fo39_0 : fieldOff? Try.prog 39 0 = some (0, 24) := by kernel_rfl
@[simp] theorem fo39_1 : fieldOff? Try.prog 39 1 = some (1, 24) := by kernel_rfl
@[simp] theorem fo39_2 : fieldOff? Try.prog 39 2 = some (2, 24) := by kernel_rfl
@[simp] theorem fo39_3 : fieldOff? Try.prog 39 3 = some (3, 24) := by kernel_rfl
@[simp] theorem fo39_4 : fieldOff? Try.prog 39 4 = some (4, 24) := by kernel_rfl
@[simp] theorem fo39_5 : fieldOff? Try.prog 39 5 = some (5, 37) := by kernel_rfl
@[simp] theorem fo39_6 : fieldOff? Try.prog 39 6 = some (6, 38) := by kernel_rfl
attribute [simp] Try.underlying40
@[simp] theorem sz40 : sizeOf? Try.prog 40 = some 7 := by kernel_rfl
@[simp] theorem ag40 : agg? Try.prog 40 = some true := by kernel_rfl
@[simp] theorem zs40 : zeroVs? Try.prog 40 = some [.d (.int .u64 0), .d (.int .u64 0), .d (.int .u64 0), .d (.int .u64 0), .d (.int .u64 0), .d (.int .u32 0), .nilS] := by kernel_rfl
@[simp] theorem al40 (h : List Am.Obj) : allocV Try.prog h 40 = some (.ptr h.length 0, h ++ [.box [.d (.int .u64 0), .d (.int .u64 0), .d (.int .u64 0), .d (.int .u64 0), .d (.int .u64 0), .d (.int .u32 0), .nilS]]) := allocV_of zs40
@[simp] theorem zv40 : (zero? Try.prog 40).isSome = true := by kernel_rfl
@[simp] theorem ap40 : appElem? Try.prog 40 = some 7 := by kernel_rfl
@[simp] theorem bv40 (parts : List (Nat × V)) : buildV Try.prog 40 parts = (fillV (fun i => [(0, 1), (1, 1), (2, 1), (3, 1), (4, 1), (5, 1), (6, 1)][i]?) [.d (.int .u64 0), .d (.int .u64 0), .d (.int .u64 0), .d (.int .u64 0), .d (.int .u64 0), .d (.int .u32 0), .nilS] parts).map mkAgg := buildV_struct (by kernel_rfl) (by kernel_rfl)
@[simp] theorem fo40_0 : fieldOff? Try.prog 40 0 = some (0, 24) := by kernel_rfl
@[simp] theorem fo40_1 : fieldOff? Try.prog 40 1 = some (1, 24) := by kernel_rfl
@[simp] theorem fo40_2 : fieldOff? Try.prog 40 2 = some (2, 24) := by kernel_rfl
@[simp] theorem fo40_3 : fieldOff? Try.prog 40 3 = some (3, 24) := by kernel_rfl
@[simp] theorem fo40_4 : fieldOff? Try.prog 40 4 = some (4, 24) := by kernel_rfl
@[simp] theorem fo40_5 : fieldOff? Try.prog 40 5 = some (5, 37) := by kernel_rfl
@[simp] theorem fo40_6 : fieldOff? Try.prog 40 6 = some (6, 38) := by kernel_rfl
attribute [simp] Try.underlying41
@[simp] theorem sz41 : sizeOf? Try.prog 41 = some 1 := by kernel_rfl
@[simp] theorem ag41 : agg? Try.prog 41 = some false := by kernel_rfl
attribute [simp] Try.underlying43
@[simp] theorem sz43 : sizeOf? Try.prog 43 = some 1 := by kernel_rfl
@[simp] theorem ag43 : agg? Try.prog 43 = some false := by kernel_rfl
@[simp] theorem zs43 : zeroVs? Try.prog 43 = some [.nilS] := by kernel_rfl
@[simp] theorem al43 (h : List Am.Obj) : allocV Try.prog h 43 = some (.ptr h.length 0, h ++ [.box [.nilS]]) := allocV_of zs43
@[simp] theorem zv43 : (zero? Try.prog 43).isSome = true := by kernel_rfl
@[simp] theorem ap43 : appElem? Try.prog 43 = some 1 := by kernel_rfl
@[simp] theorem es43 : elemSize Try.prog 43 = 1 := by kernel_rfl
attribute [simp] Try.underlying44
@[simp] theorem sz44 : sizeOf? Try.prog 44 = some 1 := by kernel_rfl
@[simp] theorem ag44 : agg? Try.prog 44 = some false := by kernel_rfl
@[simp] theorem zs44 : zeroVs? Try.prog 44 = some [.nilS] := by kernel_rfl
@[simp] theorem al44 (h : List Am.Obj) : allocV Try.prog h 44 = some (.ptr h.length 0, h ++ [.box [.nilS]]) := allocV_of zs44
@[simp] theorem zv44 : (zero? Try.prog 44).isSome = true := by kernel_rfl
@[simp] theorem ap44 : appElem? Try.prog 44 = some 1 := by kernel_rfl
@[simp] theorem es44 : elemSize Try.prog 44 = 1 := by kernel_rfl
attribute [simp] Try.underlying45
@[simp] theorem sz45 : sizeOf? Try.prog 45 = some 1 := by kernel_rfl
@[simp] theorem ag45 : agg? Try.prog 45 = some false := by kernel_rfl
attribute [simp] Try.underlying50
@[simp] theorem sz50 : sizeOf? Try.prog 50 = some 1 := by kernel_rfl
@[simp] theorem ag50 : agg? Try.prog 50 = some false := by kernel_rfl
@[simp] theorem zs50 : zeroVs? Try.prog 50 = some [.d (.int .i64 0)] := by kernel_rfl
@[simp] theorem al50 (h : List Am.Obj) : allocV Try.prog h 50 = some (.ptr h.length 0, h ++ [.box [.d (.int .i64 0)]]) := allocV_of zs50
@[simp] theorem zv50 : (zero? Try.prog 50).isSome = true := by kernel_rfl
@[simp] theorem ap50 : appElem? Try.prog 50 = some 1 := by kernel_rfl
attribute [simp] Try.underlying51
@[simp] theorem sz51 : sizeOf? Try.prog 51 = some 1 := by kernel_rfl
@[simp] theorem ag51 : agg? Try.prog 51 = some false := by kernel_rfl
attribute [simp] Try.underlying53
@[simp] theorem sz53 : sizeOf? Try.prog 53 = some 1 := by kernel_rfl
@[simp] theorem ag53 : agg? Try.prog 53 = some false := by kernel_rfl
attribute [simp] Try.underlying60
@[simp] theorem sz60 : sizeOf? Try.prog 60 = some 1 := by kernel_rfl
@[simp] theorem ag60 : agg? Try.prog 60 = some false := by kernel_rfl
@[simp] theorem zs60 : zeroVs? Try.prog 60 = some [.nilS] := by kernel_rfl
@[simp] theorem al60 (h : List Am.Obj) : allocV Try.prog h 60 = some (.ptr h.length 0, h ++ [.box [.nilS]]) := allocV_of zs60
@[simp] theorem zv60 : (zero? Try.prog 60).isSome = true := by kernel_rfl
@[simp] theorem ap60 : appElem? Try.prog 60 = some 1 := by kernel_rfl
@[simp] theorem es60 : elemSize Try.prog 60 = 3 := by kernel_rfl
attribute [simp] Try.underlying62
@[simp] theorem sz62 : sizeOf? Try.prog 62 = some 1 := by kernel_rfl
@[simp] theorem ag62 : agg? Try.prog 62 = some false := by kernel_rfl
attribute [simp] Try.underlying64
@[simp] theorem sz64 : sizeOf? Try.prog 64 = some 1 := by kernel_rfl
@[simp] theorem ag64 : agg? Try.prog 64 = some false := by kernel_rfl
@[simp] theorem zs64 : zeroVs? Try.prog 64 = some [.d (.int .u8 0)] := by kernel_rfl
@[simp] theorem al64 (h : List Am.Obj) : allocV Try.prog h 64 = some (.ptr h.length 0, h ++ [.box [.d (.int .u8 0)]]) := allocV_of zs64
@[simp] theorem zv64 : (zero? Try.prog 64).isSome = true := by kernel_rfl
@[simp] theorem ap64 : appElem? Try.prog 64 = some 1 := by kernel_rfl
attribute [simp] Try.underlying65
@[simp] theorem sz65 : sizeOf? Try.prog 65 = some 1 := by kernel_rfl
@[simp] theorem ag65 : agg? Try.prog 65 = some false := by kernel_rfl
@[simp] theorem zs65 : zeroVs? Try.prog 65 = some [.nilS] := by kernel_rfl
@[simp] theorem al65 (h : List Am.Obj) : allocV Try.prog h 65 = some (.ptr h.length 0, h ++ [.box [.nilS]]) := allocV_of zs65
@[simp] theorem zv65 : (zero? Try.prog 65).isSome = true := by kernel_rfl
@[simp] theorem ap65 : appElem? Try.prog 65 = some 1 := by kernel_rfl
@[simp] theorem es65 : elemSize Try.prog 65 = 1 := by kernel_rfl
attribute [simp] Try.underlying67
@[simp] theorem sz67 : sizeOf? Try.prog 67 = some 1 := by kernel_rfl
@[simp] theorem ag67 : agg? Try.prog 67 = some false := by kernel_rfl
attribute [simp] Try.underlying74
@[simp] theorem sz74 : sizeOf? Try.prog 74 = some 1 := by kernel_rfl
@[simp] theorem ag74 : agg? Try.prog 74 = some false := by kernel_rfl
@[simp] theorem zs74 : zeroVs? Try.prog 74 = some [.nilS] := by kernel_rfl
@[simp] theorem al74 (h : List Am.Obj) : allocV Try.prog h 74 = some (.ptr h.length 0, h ++ [.box [.nilS]]) := allocV_of zs74
@[simp] theorem zv74 : (zero? Try.prog 74).isSome = true := by kernel_rfl
@[simp] theorem ap74 : appElem? Try.prog 74 = some 1 := by kernel_rfl
@[simp] theorem es74 : elemSize Try.prog 74 = 4 := by kernel_rfl
attribute [simp] Try.underlying75
@[simp] theorem sz75 : sizeOf? Try.prog 75 = some 2 := by kernel_rfl
@[simp] theorem ag75 : agg? Try.prog 75 = some true := by kernel_rfl
@[simp] theorem zs75 : zeroVs? Try.prog 75 = some [.d (.int .u32 0), .nilS] := by kernel_rfl
@[simp] theorem al75 (h : List Am.Obj) : allocV Try.prog h 75 = some (.ptr h.length 0, h ++ [.box [.d (.int .u32 0), .nilS]]) := allocV_of zs75
@[simp] theorem zv75 : (zero? Try.prog 75).isSome = true := by kernel_rfl
@[simp] theorem ap75 : appElem? Try.prog 75 = some 2 := by kernel_rfl
@[simp] theorem bv75 (parts : List (Nat × V)) : buildV Try.prog 75 parts = (fillV (fun i => [(0, 1), (1, 1)][i]?) [.d (.int .u32 0), .nilS] parts).map mkAgg := buildV_struct (by kernel_rfl) (by kernel_rfl)
@[simp] theorem fo75_0 : fieldOff? Try.prog 75 0 = some (0, 37) := by kernel_rfl
@[simp] theorem fo75_1 : fieldOff? Try.prog 75 1 = some (1, 74) := by kernel_rfl
attribute [simp] Try.underlying76
@[simp] theorem sz76 : sizeOf? Try.prog 76 = some 2 := by kernel_rfl
@[simp] theorem ag76 : agg? Try.prog 76 = some true := by kernel_rfl
@[simp] theorem zs76 : zeroVs? Try.prog 76 = some [.d (.int .u32 0), .nilS] := by kernel_rfl
@[simp] theorem al76 (h : List Am.Obj) : allocV Try.prog h 76 = some (.ptr h.length 0, h ++ [.box [.d (.int .u32 0), .nilS]]) := allocV_of zs76
@[simp] theorem zv76 : (zero? Try.prog 76).isSome = true := by kernel_rfl
@[simp] theorem ap76 : appElem? Try.prog 76 = some 2 := by kernel_rfl
@[simp] theorem bv76 (parts : List (Nat × V)) : buildV Try.prog 76 parts = (fillV (fun i => [(0, 1), (1, 1)][i]?) [.d (.int .u32 0), .nilS] parts).map mkAgg := buildV_struct (by kernel_rfl) (by kernel_rfl)
@[simp] theorem fo76_0 : fieldOff? Try.prog 76 0 = some (0, 37) := by kernel_rfl
@[simp] theorem fo76_1 : fieldOff? Try.prog 76 1 = some (1, 74) := by kernel_rfl
attribute [simp] Try.underlying79
@[simp] theorem sz79 : sizeOf? Try.prog 79 = some 4 := by kernel_rfl
@[simp] theorem ag79 : agg? Try.prog 79 = some true := by kernel_rfl
@[simp] theorem zs79 : zeroVs? Try.prog 79 = some [.d (.int .u32 0), .d (.str ⟨#[]⟩), .d (.int .u8 0), .d (.bool false)] := by kernel_rfl
@[simp] theorem al79 (h : List Am.Obj) : allocV Try.prog h 79 = some (.ptr h.length 0, h ++ [.box [.d (.int .u32 0), .d (.str ⟨#[]⟩), .d (.int .u8 0), .d (.bool false)]]) := allocV_of zs79
@[simp] theorem zv79 : (zero? Try.prog 79).isSome = true := by kernel_rfl
@[simp] theorem ap79 : appElem? Try.prog 79 = some 4 := by kernel_rfl
@[simp] theorem bv79 (parts : List (Nat × V)) : buildV Try.prog 79 parts = (fillV (fun i => [(0, 1), (1, 1), (2, 1), (3, 1)][i]?) [.d (.int .u32 0), .d (.str ⟨#[]⟩), .d (.int .u8 0), .d (.bool false)] parts).map mkAgg := buildV_struct (by kernel_rfl) (by kernel_rfl)
@[simp] theorem fo79_0 : fieldOff? Try.prog 79 0 = some (0, 37) := by kernel_rfl
@[simp] theorem fo79_1 : fieldOff? Try.prog 79 1 = some (1, 9) := by kernel_rfl
@[simp] theorem fo79_2 : fieldOff? Try.prog 79 2 = some (2, 64) := by kernel_rfl
@[simp] theorem fo79_3 : fieldOff? Try.prog 79 3 = some (3, 4) := by kernel_rfl
attribute [simp] Try.underlying80
@[simp] theorem sz80 : sizeOf? Try.prog 80 = some 4 := by kernel_rfl
@[simp] theorem ag80 : agg? Try.prog 80 = some true := by kernel_rfl
@[simp] theorem zs80 : zeroVs? Try.prog 80 = some [.d (.int .u32 0), .d (.str ⟨#[]⟩), .d (.int .u8 0), .d (.bool false)] := by kernel_rfl
@[simp] theorem al80 (h : List Am.Obj) : allocV Try.prog h 80 = some (.ptr h.length 0, h ++ [.box [.d (.int .u32 0), .d (.str ⟨#[]⟩), .d (.int .u8 0), .d (.bool false)]]) := allocV_of zs80
@[simp] theorem zv80 : (zero? Try.prog 80).isSome = true := by kernel_rfl
@[simp] theorem ap80 : appElem? Try.prog 80 = some 4 := by kernel_rfl
@[simp] theorem bv80 (parts : List (Nat × V)) : buildV Try.prog 80 parts = (fillV (fun i => [(0, 1), (1, 1), (2, 1), (3, 1)][i]?) [.d (.int .u32 0), .d (.str ⟨#[]⟩), .d (.int .u8 0), .d (.bool false)] parts).map mkAgg := buildV_struct (by kernel_rfl) (by kernel_rfl)
@[simp] theorem fo80_0 : fieldOff? Try.prog 80 0 = some (0, 37) := by kernel_rfl
@[simp] theorem fo80_1 : fieldOff? Try.prog 80 1 = some (1, 9) := by kernel_rfl
@[simp] theorem fo80_2 : fieldOff? Try.prog 80 2 = some (2, 64) := by kernel_rfl
@[simp] theorem fo80_3 : fieldOff? Try.prog 80 3 = some (3, 4) := by kernel_rfl
attribute [simp] Try.underlying83
@[simp] theorem sz83 : sizeOf? Try.prog 83 = some 1 := by kernel_rfl
@[simp] theorem ag83 : agg? Try.prog 83 = some false := by kernel_rfl
attribute [simp] Try.underlying84
@[simp] theorem sz84 : sizeOf? Try.prog 84 = some 5 := by kernel_rfl
@[simp] theorem ag84 : agg? Try.prog 84 = some true := by kernel_rfl
@[simp] theorem zs84 : zeroVs? Try.prog 84 = some [.d .nilF, .d .nilF, .d .nilF, .d .nilF, .d .nilF] := by kernel_rfl
@[simp] theorem al84 (h : List Am.Obj) : allocV Try.prog h 84 = some (.ptr h.length 0, h ++ [.box [.d .nilF, .d .nilF, .d .nilF, .d .nilF, .d .nilF]]) := allocV_of zs84
@[simp] theorem zv84 : (zero? Try.prog 84).isSome = true := by kernel_rfl
@[simp] theorem ap84 : appElem? Try.prog 84 = some 5 := by kernel_rfl
attribute [simp] Try.underlying91
@[simp] theorem sz91 : sizeOf? Try.prog 91 = some 1 := by kernel_rfl
@[simp] theorem ag91 : agg? Try.prog 91 = some false := by kernel_rfl
@[simp] theorem zs91 : zeroVs? Try.prog 91 = some [.d .nilP] := by kernel_rfl
@[simp] theorem al91 (h : List Am.Obj) : allocV Try.prog h 91 = some (.ptr h.length 0, h ++ [.box [.d .nilP]]) := allocV_of zs91
@[simp] theorem zv91 : (zero? Try.prog 91).isSome = true := by kernel_rfl
@[simp] theorem ap91 : appElem? Try.prog 91 = some 1 := by kernel_rfl
attribute [simp] Try.underlying92
@[simp] theorem sz92 : sizeOf? Try.prog 92 = some 2 := by kernel_rfl
@[simp] theorem ag92 : agg? Try.prog 92 = some true := by kernel_rfl
@[simp] theorem zs92 : zeroVs? Try.prog 92 = some [.nilS, .d (.int .i64 0)] := by kernel_rfl
@[simp] theorem al92 (h : List Am.Obj) : allocV Try.prog h 92 = some (.ptr h.length 0, h ++ [.box [.nilS, .d (.int .i64 0)]]) := allocV_of zs92
@[simp] theorem zv92 : (zero? Try.prog 92).isSome = true := by kernel_rfl
@[simp] theorem ap92 : appElem? Try.prog 92 = some 2 := by kernel_rfl
@[simp] theorem bv92 (parts : List (Nat × V)) : buildV Try.prog 92 parts = (fillV (fun i => [(0, 1), (1, 1)][i]?) [.nilS, .d (.int .i64 0)] parts).map mkAgg := buildV_struct (by kernel_rfl) (by kernel_rfl)
@[simp] theorem fo92_0 : fieldOff? Try.prog 92 0 = some (0, 44) := by kernel_rfl
@[simp] theorem fo92_1 : fieldOff? Try.prog 92 1 = some (1, 50) := by kernel_rfl
attribute [simp] Try.underlying93
@[simp] theorem sz93 : sizeOf? Try.prog 93 = some 2 := by kernel_rfl
@[simp] theorem ag93 : agg? Try.prog 93 = some true := by kernel_rfl
@[simp] theorem zs93 : zeroVs? Try.prog 93 = some [.nilS, .d (.int .i64 0)] := by kernel_rfl
@[simp] theorem al93 (h : List Am.Obj) : allocV Try.prog h 93 = some (.ptr h.length 0, h ++ [.box [.nilS, .d (.int .i64 0)]]) := allocV_of zs93
@[simp] theorem zv93 : (zero? Try.prog 93).isSome = true := by kernel_rfl
@[simp] theorem ap93 : appElem? Try.prog 93 = some 2 := by kernel_rfl
@[simp] theorem bv93 (parts : List (Nat × V)) : buildV Try.prog 93 parts = (fillV (fun i => [(0, 1), (1, 1)][i]?) [.nilS, .d (.int .i64 0)] parts).map mkAgg := buildV_struct (by kernel_rfl) (by kernel_rfl)
@[simp] theorem fo93_0 : fieldOff? Try.prog 93 0 = some (0, 44) := by kernel_rfl
@[simp] theorem fo93_1 : fieldOff? Try.prog 93 1 = some (1, 50) := by kernel_rfl
attribute [simp] Try.underlying98
@[simp] theorem sz98 : sizeOf? Try.prog 98 = some 1 := by kernel_rfl
@[simp] theorem ag98 : agg? Try.prog 98 = some false := by kernel_rfl
@[simp] theorem zs98 : zeroVs? Try.prog 98 = some [.d .nilP] := by kernel_rfl
@[simp] theorem al98 (h : List Am.Obj) : allocV Try.prog h 98 = some (.ptr h.length 0, h ++ [.box [.d .nilP]]) := allocV_of zs98
@[simp] theorem zv98 : (zero? Try.prog 98).isSome = true := by kernel_rfl
@[simp] theorem ap98 : appElem? Try.prog 98 = some 1 := by kernel_rfl
attribute [simp] Try.underlying99
@[simp] theorem sz99 : sizeOf? Try.prog 99 = some 2 := by kernel_rfl
@[simp] theorem ag99 : agg? Try.prog 99 = some true := by kernel_rfl
@[simp] theorem zs99 : zeroVs? Try.prog 99 = some [.nilS, .d (.int .i64 0)] := by kernel_rfl
@[simp] theorem al99 (h : List Am.Obj) : allocV Try.prog h 99 = some (.ptr h.length 0, h ++ [.box [.nilS, .d (.int .i64 0)]]) := allocV_of zs99
@[simp] theorem zv99 : (zero? Try.prog 99).isSome = true := by kernel_rfl
@[simp] theorem ap99 : appElem? Try.prog 99 = some 2 := by kernel_rfl
@[simp] theorem bv99 (parts : List (Nat × V)) : buildV Try.prog 99 parts = (fillV (fun i => [(0, 1), (1, 1)][i]?) [.nilS, .d (.int .i64 0)] parts).map mkAgg := buildV_struct (by kernel_rfl) (by kernel_rfl)
@[simp] theorem fo99_0 : fieldOff? Try.prog 99 0 = some (0, 44) := by kernel_rfl
@[simp] theorem fo99_1 : fieldOff? Try.prog 99 1 = some (1, 3) := by kernel_rfl
attribute [simp] Try.underlying100
@[simp] theorem sz100 : sizeOf? Try.prog 100 = some 2 := by kernel_rfl
@[simp] theorem ag100 : agg? Try.prog 100 = some true := by kernel_rfl
@[simp] theorem zs100 : zeroVs? Try.prog 100 = some [.nilS, .d (.int .i64 0)] := by kernel_rfl
@[simp] theorem al100 (h : List Am.Obj) : allocV Try.prog h 100 = some (.ptr h.length 0, h ++ [.box [.nilS, .d (.int .i64 0)]]) := allocV_of zs100
@[simp] theorem zv100 : (zero? Try.prog 100).isSome = true := by kernel_rfl
@[simp] theorem ap100 : appElem? Try.prog 100 = some 2 := by kernel_rfl
@[simp] theorem bv100 (parts : List (Nat × V)) : buildV Try.prog 100 parts = (fillV (fun i => [(0, 1), (1, 1)][i]?) [.nilS, .d (.int .i64 0)] parts).map mkAgg := buildV_struct (by kernel_rfl) (by kernel_rfl)
@[simp] theorem fo100_0 : fieldOff? Try.prog 100 0 = some (0, 44) := by kernel_rfl
@[simp] theorem fo100_1 : fieldOff? Try.prog 100 1 = some (1, 3) := by kernel_rfl
attribute [simp] Try.underlying102
@[simp] theorem sz102 : sizeOf? Try.prog 102 = some 3 := by kernel_rfl
@[simp] theorem ag102 : agg? Try.prog 102 = some true := by kernel_rfl
@[simp] theorem zs102 : zeroVs? Try.prog 102 = some [.d (.int .u8 0), .d (.int .i64 0), .d (.str ⟨#[]⟩)] := by kernel_rfl
@[simp] theorem al102 (h : List Am.Obj) : allocV Try.prog h 102 = some (.ptr h.length 0, h ++ [.box [.d (.int .u8 0), .d (.int .i64 0), .d (.str ⟨#[]⟩)]]) := allocV_of zs102
@[simp] theorem zv102 : (zero? Try.prog 102).isSome = true := by kernel_rfl
@[simp] theorem ap102 : appElem? Try.prog 102 = some 3 := by kernel_rfl
@[simp] theorem bv102 (parts : List (Nat × V)) : buildV Try.prog 102 parts = (fillV (fun i => [(0, 1), (1, 1), (2, 1)][i]?) [.d (.int .u8 0), .d (.int .i64 0), .d (.str ⟨#[]⟩)] parts).map mkAgg := buildV_struct (by kernel_rfl) (by kernel_rfl)
@[simp] theorem fo102_0 : fieldOff? Try.prog 102 0 = some (0, 64) := by kernel_rfl
@[simp] theorem fo102_1 : fieldOff? Try.prog 102 1 = some (1, 2) := by kernel_rfl
@[simp] theorem fo102_2 : fieldOff? Try.prog 102 2 = some (2, 9) := by kernel_rfl
attribute [simp] Try.underlying103
@[simp] theorem sz103 : sizeOf? Try.prog 103 = some 3 := by kernel_rfl
@[simp] theorem ag103 : agg? Try.prog 103 = some true := by kernel_rfl
@[simp] theorem zs103 : zeroVs? Try.prog 103 = some [.d (.int .u8 0), .d (.int .i64 0), .d (.str ⟨#[]⟩)] := by kernel_rfl
@[simp] theorem al103 (h : List Am.Obj) : allocV Try.prog h 103 = some (.ptr h.length 0, h ++ [.box [.d (.int .u8 0), .d (.int .i64 0), .d (.str ⟨#[]⟩)]]) := allocV_of zs103
@[simp] theorem zv103 : (zero? Try.prog 103).isSome = true := by kernel_rfl
@[simp] theorem ap103 : appElem? Try.prog 103 = some 3 := by kernel_rfl
@[simp] theorem bv103 (parts : List (Nat × V)) : buildV Try.prog 103 parts = (fillV (fun i => [(0, 1), (1, 1), (2, 1)][i]?) [.d (.int .u8 0), .d (.int .i64 0), .d (.str ⟨#[]⟩)] parts).map mkAgg := buildV_struct (by kernel_rfl) (by kernel_rfl)
@[simp] theorem fo103_0 : fieldOff? Try.prog 103 0 = some (0, 64) := by kernel_rfl
@[simp] theorem fo103_1 : fieldOff? Try.prog 103 1 = some (1, 2) := by kernel_rfl
@[simp] theorem fo103_2 : fieldOff? Try.prog 103 2 = some (2, 9) := by kernel_rfl
attribute [simp] Try.underlying105
@[simp] theorem sz105 : sizeOf? Try.prog 105 = some 1 := by kernel_rfl
@[simp] theorem ag105 : agg? Try.prog 105 = some false := by kernel_rfl
@[simp] theorem zs105 : zeroVs? Try.prog 105 = some [.d .nilI] := by kernel_rfl
@[simp] theorem al105 (h : List Am.Obj) : allocV Try.prog h 105 = some (.ptr h.length 0, h ++ [.box [.d .nilI]]) := allocV_of zs105
@[simp] theorem zv105 : (zero? Try.prog 105).isSome = true := by kernel_rfl
@[simp] theorem ap105 : appElem? Try.prog 105 = some 1 := by kernel_rfl
attribute [simp] Try.underlying109
@[simp] theorem sz109 : sizeOf? Try.prog 109 = some 1 := by kernel_rfl
@[simp] theorem ag109 : agg? Try.prog 109 = some false := by kernel_rfl
@[simp] theorem zs109 : zeroVs? Try.prog 109 = some [.nilS] := by kernel_rfl
@[simp] theorem al109 (h : List Am.Obj) : allocV Try.prog h 109 = some (.ptr h.length 0, h ++ [.box [.nilS]]) := allocV_of zs109
@[simp] theorem zv109 : (zero? Try.prog 109).isSome = true := by kernel_rfl
@[simp] theorem ap109 : appElem? Try.prog 109 = some 1 := by kernel_rfl
@[simp] theorem es109 : elemSize Try.prog 109 = 1 := by kernel_rfl
attribute [simp] Try.underlying110
@[simp] theorem sz110 : sizeOf? Try.prog 110 = some 1 := by kernel_rfl
@[simp] theorem ag110 : agg? Try.prog 110 = some false := by kernel_rfl
attribute [simp] Try.underlying111
@[simp] theorem sz111 : sizeOf? Try.prog 111 = some 1 := by kernel_rfl
@[simp] theorem ag111 : agg? Try.prog 111 = some false := by kernel_rfl
attribute [simp] Try.underlying112
@[simp] theorem sz112 : sizeOf? Try.prog 112 = some 1 := by kernel_rfl
@[simp] theorem ag112 : agg? Try.prog 112 = some false := by kernel_rfl
attribute [simp] Try.underlying118
@[simp] theorem sz118 : sizeOf? Try.prog 118 = some 1 := by kernel_rfl
@[simp] theorem ag118 : agg? Try.prog 118 = some false := by kernel_rfl
attribute [simp] Try.underlying122
@[simp] theorem sz122 : sizeOf? Try.prog 122 = some 1 := by kernel_rfl
@[simp] theorem ag122 : agg? Try.prog 122 = some false := by kernel_rfl
@[simp] theorem zs122 : zeroVs? Try.prog 122 = some [.d (.int .u64 0)] := by kernel_rfl
@[simp] theorem al122 (h : List Am.Obj) : allocV Try.prog h 122 = some (.ptr h.length 0, h ++ [.box [.d (.int .u64 0)]]) := allocV_of zs122
@[simp] theorem zv122 : (zero? Try.prog 122).isSome = true := by kernel_rfl
@[simp] theorem ap122 : appElem? Try.prog 122 = some 1 := by kernel_rfl
attribute [simp] Try.underlying123
@[simp] theorem sz123 : sizeOf? Try.prog 123 = some 1 := by kernel_rfl
@[simp] theorem ag123 : agg? Try.prog 123 = some false := by kernel_rfl
attribute [simp] Try.underlying130
@[simp] theorem sz130 : sizeOf? Try.prog 130 = some 1 := by kernel_rfl
@[simp] theorem ag130 : agg? Try.prog 130 = some false := by kernel_rfl
attribute [simp] Try.underlying135
@[simp] theorem sz135 : sizeOf? Try.prog 135 = some 1 := by kernel_rfl
@[simp] theorem ag135 : agg? Try.prog 135 = some false := by kernel_rfl
attribute [simp] Try.underlying137
@[simp] theorem sz137 : sizeOf? Try.prog 137 = some 1 := by kernel_rfl
@[simp] theorem ag137 : agg? Try.prog 137 = some false := by kernel_rfl
@[simp] theorem zs137 : zeroVs? Try.prog 137 = some [.nilS] := by kernel_rfl
@[simp] theorem al137 (h : List Am.Obj) : allocV Try.prog h 137 = some (.ptr h.length 0, h ++ [.box [.nilS]]) := allocV_of zs137
@[simp] theorem zv137 : (zero? Try.prog 137).isSome = true := by kernel_rfl
@[simp] theorem ap137 : appElem? Try.prog 137 = some 1 := by kernel_rfl
@[simp] theorem es137 : elemSize Try.prog 137 = 1 := by kernel_rfl
attribute [simp] Try.underlying138
@[simp] theorem sz138 : sizeOf? Try.prog 138 = some 1 := by kernel_rfl
@[simp] theorem ag138 : agg? Try.prog 138 = some false := by kernel_rfl
attribute [simp] Try.underlying144
@[simp] theorem sz144 : sizeOf? Try.prog 144 = some 1 := by kernel_rfl
@[simp] theorem ag144 : agg? Try.prog 144 = some false := by kernel_rfl
attribute [simp] Try.underlying146
@[simp] theorem sz146 : sizeOf? Try.prog 146 = some 1 := by kernel_rfl
@[simp] theorem ag146 : agg? Try.prog 146 = some false := by kernel_rfl
attribute [simp] Try.underlying148
@[simp] theorem sz148 : sizeOf? Try.prog 148 = some 1 := by kernel_rfl
@[simp] theorem ag148 : agg? Try.prog 148 = some false := by kernel_rfl
attribute [simp] Try.underlying150
@[simp] theorem sz150 : sizeOf? Try.prog 150 = some 1 := by kernel_rfl
@[simp] theorem ag150 : agg? Try.prog 150 = some false := by kernel_rfl
attribute [simp] Try.underlying152
@[simp] theorem sz152 : sizeOf? Try.prog 152 = some 1 := by kernel_rfl
@[simp] theorem ag152 : agg? Try.prog 152 = some false := by kernel_rfl
attribute [simp] Try.underlying157
@[simp] theorem sz157 : sizeOf? Try.prog 157 = some 1 := by kernel_rfl
@[simp] theorem ag157 : agg? Try.prog 157 = some false := by kernel_rfl
attribute [simp] Try.underlying159
@[simp] theorem sz159 : sizeOf? Try.prog 159 = some 1 := by kernel_rfl
@[simp] theorem ag159 : agg? Try.prog 159 = some false := by kernel_rfl
attribute [simp] Try.underlying162
@[simp] theorem sz162 : sizeOf? Try.prog 162 = some 1 := by kernel_rfl
@[simp] theorem ag162 : agg? Try.prog 162 = some false := by kernel_rfl
attribute [simp] Try.underlying164
@[simp] theorem sz164 : sizeOf? Try.prog 164 = some 1 := by kernel_rfl
@[simp] theorem ag164 : agg? Try.prog 164 = some false := by kernel_rfl
attribute [simp] Try.underlying167
@[simp] theorem sz167 : sizeOf? Try.prog 167 = some 1 := by kernel_rfl
@[simp] theorem ag167 : agg? Try.prog 167 = some false := by kernel_rfl
@[simp] theorem zs167 : zeroVs? Try.prog 167 = some [.d (.int .i64 0)] := by kernel_rfl
@[simp] theorem al167 (h : List Am.Obj) : allocV Try.prog h 167 = some (.ptr h.length 0, h ++ [.box [.d (.int .i64 0)]]) := allocV_of zs167
@[simp] theorem zv167 : (zero? Try.prog 167).isSome = true := by kernel_rfl
@[simp] theorem ap167 : appElem? Try.prog 167 = some 1 := by kernel_rfl
attribute [simp] Try.underlying168
@[simp] theorem sz168 : sizeOf? Try.prog 168 = some 1 := by kernel_rfl
@[simp] theorem ag168 : agg? Try.prog 168 = some false := by kernel_rfl
attribute [simp] Try.underlying174
@[simp] theorem sz174 : sizeOf? Try.prog 174 = some 1 := by kernel_rfl
@[simp] theorem ag174 : agg? Try.prog 174 = some false := by kernel_rfl
attribute [simp] Try.underlying181
@[simp] theorem sz181 : sizeOf? Try.prog 181 = some 1 := by kernel_rfl
@[simp] theorem ag181 : agg? Try.prog 181 = some false := by kernel_rfl
@[simp] theorem zs181 : zeroVs? Try.prog 181 = some [.d (.int .u64 0)] := by kernel_rfl
@[simp] theorem al181 (h : List Am.Obj) : allocV Try.prog h 181 = some (.ptr h.length 0, h ++ [.box [.d (.int .u64 0)]]) := allocV_of zs181
@[simp] theorem zv181 : (zero? Try.prog 181).isSome = true := by kernel_rfl
@[simp] theorem ap181 : appElem? Try.prog 181 = some 1 := by kernel_rfl
attribute [simp] Try.underlying184
@[simp] theorem sz184 : sizeOf? Try.prog 184 = some 1 := by kernel_rfl
@[simp] theorem ag184 : agg? Try.prog 184 = some false := by kernel_rfl
@[simp] theorem zs184 : zeroVs? Try.prog 184 = some [.d .nilP] := by kernel_rfl
@[simp] theorem al184 (h : List Am.Obj) : allocV Try.prog h 184 = some (.ptr h.length 0, h ++ [.box [.d .nilP]]) := allocV_of zs184
@[simp] theorem zv184 : (zero? Try.prog 184).isSome = true := by kernel_rfl
@[simp] theorem ap184 : appElem? Try.prog 184 = some 1 := by kernel_rfl
attribute [simp] Try.underlying188
@[simp] theorem sz188 : sizeOf? Try.prog 188 = some 1 := by kernel_rfl
@[simp] theorem ag188 : agg? Try.prog 188 = some false := by kernel_rfl
@[simp] theorem zs188 : zeroVs? Try.prog 188 = some [.d .nilP] := by kernel_rfl
@[simp] theorem al188 (h : List Am.Obj) : allocV Try.prog h 188 = some (.ptr h.length 0, h ++ [.box [.d .nilP]]) := allocV_of zs188
@[simp] theorem zv188 : (zero? Try.prog 188).isSome = true := by kernel_rfl
@[simp] theorem ap188 : appElem? Try.prog 188 = some 1 := by kernel_rfl
attribute [simp] Try.underlying189
@[simp] theorem sz189 : sizeOf? Try.prog 189 = some 1 := by kernel_rfl
@[simp] theorem ag189 : agg? Try.prog 189 = some false := by kernel_rfl
/-- What each loop keeps. -/
def K : Keeps := fun f b => match f, b with
  | 4, 0 => some [(2, 0), (3, 0), (7, 0), (8, 0)]
  | 10, 0 => some [(0, 0), (1, 0), (5, 0), (6, 0), (8, 0), (9, 0), (11, 0)]
  | 10, 2 => some [(0, 0), (1, 0), (5, 0), (6, 0), (8, 0), (12, 0)]
  | 14, 0 => some [(1, 0), (3, 0)]
  | 14, 2 => some [(1, 0), (4, 0)]
  | 15, 0 => some [(0, 0), (1, 0), (5, 0)]
  | 16, 0 => some [(2, 0), (3, 0), (4, 0), (7, 0), (8, 1), (16, 0), (17, 0), (18, 0)]
  | 17, 0 => some [(1, 0), (2, 0), (3, 0), (4, 0), (9, 1), (10, 0)]
  | 18, 0 => some [(1, 0), (3, 0)]
  | 18, 2 => some [(1, 0), (3, 0), (4, 0), (5, 0), (6, 0)]
  | 18, 4 => some [(1, 0), (7, 0), (8, 0)]
  | 18, 6 => some [(1, 0), (7, 0), (8, 0), (9, 0), (10, 0)]
  | 18, 8 => some [(1, 0), (7, 0), (8, 0), (9, 0), (10, 0), (11, 0)]
  | 19, 0 => some [(1, 0), (2, 0), (5, 0)]
  | 20, 0 => some [(1, 0), (2, 0), (4, 0), (6, 0), (7, 0)]
  | 20, 2 => some [(1, 0), (2, 0), (4, 0), (8, 0), (9, 0)]
  | 20, 4 => some [(1, 0), (2, 0), (4, 0), (8, 0), (9, 0), (10, 0), (11, 0)]
  | 23, 1 => some [(1, 0), (6, 1), (7, 0)]
  | 23, 3 => some [(1, 0), (6, 1), (8, 0)]
  | 23, 5 => some [(1, 0), (6, 1), (9, 0), (10, 0)]
  | 23, 7 => some [(1, 0), (6, 1), (11, 0), (12, 1), (13, 0)]
  | 23, 9 => some [(1, 0), (6, 1), (11, 0), (12, 1), (14, 0)]
  | 23, 11 => some [(1, 0), (17, 0), (18, 1), (19, 0)]
  | 24, 0 => some [(0, 0), (4, 1), (11, 0)]
  | 25, 0 => some [(0, 0), (4, 1), (5, 0)]
  | 26, 2 => some [(0, 0), (1, 0), (6, 0), (7, 1), (8, 0)]
  | 28, 0 => some [(0, 0), (1, 0), (5, 0)]
  | 30, 0 => some [(0, 0), (1, 0), (5, 3), (6, 0)]
  | 31, 0 => some [(0, 0), (1, 0), (26, 0), (27, 0), (28, 0)]
  | 31, 2 => some [(0, 0), (8, 0), (9, 1), (10, 1), (11, 1), (47, 0), (48, 0), (49, 0)]
  | 32, 0 => some [(0, 0), (3, 1), (4, 0)]
  | 34, 0 => some [(0, 0), (1, 0), (5, 0)]
  | 35, 0 => some [(0, 0), (3, 3), (4, 0)]
  | 36, 0 => some [(1, 0), (3, 0), (4, 0)]
  | 37, 0 => some [(1, 0), (3, 0)]
  | 38, 0 => some [(1, 0), (3, 0)]
  | 39, 0 => some [(1, 0), (2, 0), (5, 0)]
  | 40, 0 => some [(0, 0), (3, 0)]
  | 41, 0 => some [(3, 1), (6, 0), (7, 0), (8, 0)]
  | 42, 0 => some [(3, 1), (4, 0), (7, 0), (8, 0), (9, 0)]
  | 43, 0 => some [(0, 0), (3, 1), (4, 0)]
  | 43, 2 => some [(0, 0), (3, 1), (4, 0), (5, 0)]
  | 44, 0 => some [(0, 0), (3, 0), (4, 0), (18, 0), (19, 0), (20, 0)]
  | 44, 2 => some [(3, 0), (4, 0), (7, 0), (47, 0), (48, 0), (49, 0)]
  | 45, 0 => some [(3, 0), (4, 0), (16, 0), (17, 0), (18, 0)]
  | 48, 0 => some [(0, 0), (3, 1), (4, 0)]
  | 48, 2 => some [(0, 0), (3, 1), (4, 0), (5, 1), (6, 0), (7, 0)]
  | 49, 0 => some [(0, 0), (1, 0), (5, 0)]
  | 50, 0 => some [(0, 0), (1, 0), (6, 1), (7, 0), (8, 0)]
  | 50, 2 => some [(0, 0), (1, 0), (6, 1), (7, 0), (8, 0), (9, 0)]
  | 51, 0 => some [(0, 0), (3, 0), (4, 0)]
  | 51, 2 => some [(0, 0), (3, 0), (4, 0)]
  | 53, 0 => some [(0, 0), (1, 0), (5, 1)]
  | 54, 0 => some [(0, 0), (1, 0), (5, 0), (6, 1)]
  | 54, 2 => some [(0, 0), (5, 0), (6, 1), (9, 1), (104, 0), (105, 0), (106, 0)]
  | 55, 0 => some [(5, 0), (7, 1), (36, 0), (37, 0), (38, 0)]
  | 57, 0 => some [(0, 0), (1, 0), (12, 0), (13, 0)]
  | 58, 1 => some [(7, 1), (21, 0), (23, 0), (24, 0)]
  | 58, 3 => some [(0, 0), (2, 0), (7, 1), (8, 0)]
  | 58, 5 => some [(0, 0), (2, 0), (7, 1), (9, 0), (10, 0)]
  | 58, 7 => some [(0, 0), (2, 0), (7, 1)]
  | 58, 9 => some [(0, 0), (2, 0), (7, 1), (11, 0), (12, 0), (13, 0)]
  | 58, 11 => some [(0, 0), (2, 0), (7, 1), (14, 0), (15, 1), (16, 0)]
  | 58, 13 => some [(0, 0), (7, 1), (14, 0), (15, 1), (19, 0), (20, 0)]
  | 64, 0 => some [(3, 0), (11, 0), (12, 0), (13, 0)]
  | 65, 0 => some [(0, 0), (3, 0), (4, 0), (5, 1), (20, 0), (21, 0), (22, 0)]
  | 67, 0 => some [(0, 0), (1, 0), (2, 0), (9, 0), (12, 0), (56, 0), (57, 0), (58, 0)]
  | 67, 2 => some [(15, 0), (17, 0), (79, 0), (80, 0), (81, 0)]
  | 68, 0 => some [(3, 0), (5, 0), (6, 0)]
  | 69, 0 => some [(0, 0), (1, 0), (5, 0)]
  | 71, 0 => some [(0, 0), (3, 1)]
  | 73, 0 => some [(0, 0), (1, 0), (6, 0), (7, 0), (8, 0)]
  | 75, 0 => some [(0, 0), (3, 0), (4, 0)]
  | 76, 0 => some [(3, 0), (6, 0), (7, 0), (8, 0)]
  | 79, 0 => some [(7, 0), (8, 0)]
  | 85, 0 => some [(0, 0), (1, 0), (7, 0), (8, 0)]
  | 86, 0 => some [(1, 0), (6, 0), (36, 0), (37, 0), (38, 0)]
  | 86, 2 => some [(1, 0), (6, 0), (7, 0), (8, 0), (9, 0), (36, 0), (37, 0), (38, 0)]
  | 87, 0 => some [(0, 0), (5, 1), (6, 1), (9, 0), (10, 0), (11, 0)]
  | 91, 0 => some [(0, 0), (3, 0)]
  | 91, 2 => some [(0, 0), (3, 0), (4, 0), (5, 0)]
  | 92, 0 => some [(0, 0), (1, 0), (6, 0), (7, 0), (8, 0)]
  | 93, 0 => some [(7, 0), (8, 0)]
  | 94, 0 => some [(0, 0), (2, 0), (9, 0), (56, 0), (57, 0)]
  | 94, 2 => some [(0, 0), (2, 0), (9, 0), (10, 0), (11, 0), (56, 0), (57, 0)]
  | 95, 1 => some [(8, 1), (10, 0), (30, 0), (31, 0), (32, 0)]
  | 95, 3 => some [(8, 1), (14, 0), (52, 0), (53, 0), (54, 0)]
  | 95, 5 => some [(8, 1), (18, 0), (73, 0), (74, 0), (75, 0)]
  | 96, 0 => some [(0, 0), (5, 1), (6, 1), (7, 0), (8, 0)]
  | 99, 0 => some [(0, 0), (3, 0)]
  | 99, 2 => some [(0, 0), (3, 0), (4, 0), (5, 0)]
  | 103, 0 => some [(5, 0), (8, 0), (9, 0), (10, 0)]
  | 106, 0 => some [(0, 0), (5, 0)]
  | 106, 2 => some [(0, 0), (5, 0), (6, 0), (7, 0)]
  | 107, 0 => some [(0, 0), (1, 0), (2, 0), (8, 1), (9, 0)]
  | 107, 2 => some [(0, 0), (1, 0), (2, 0), (8, 1), (9, 0), (10, 0), (11, 0)]
  | 107, 4 => some [(0, 0), (8, 1), (13, 0)]
  | 108, 0 => some [(0, 0), (1, 0), (2, 0), (3, 0), (8, 0), (9, 0)]
  | 112, 0 => some [(12, 0), (15, 1), (85, 0), (86, 0), (87, 0)]
  | 113, 0 => some [(0, 0), (6, 0), (7, 0), (8, 0), (9, 0)]
  | 114, 0 => some [(0, 0), (1, 0), (2, 0), (3, 0), (8, 0), (9, 0)]
  | 118, 0 => some [(0, 0), (1, 0), (2, 0), (6, 0)]
  | 118, 2 => some [(0, 0), (1, 0), (2, 0), (6, 0), (7, 0)]
  | 119, 0 => some [(0, 0), (6, 0), (7, 0), (8, 0), (9, 0)]
  | 119, 2 => some [(0, 0), (6, 0), (7, 0), (10, 0)]
  | 120, 0 => some [(0, 0), (1, 0), (6, 0), (7, 0), (8, 0), (9, 0)]
  | 122, 0 => some [(0, 0), (6, 0), (7, 0)]
  | 123, 0 => some [(0, 0), (1, 0), (2, 0), (7, 0), (8, 0)]
  | 123, 2 => some [(0, 0), (1, 0), (2, 0), (7, 0), (8, 0)]
  | 123, 4 => some [(0, 0), (1, 0), (2, 0), (7, 0), (8, 0), (9, 0)]
  | 123, 6 => some [(0, 0), (1, 0), (2, 0), (7, 0), (8, 0), (10, 0)]
  | 124, 0 => some [(0, 0), (1, 0), (9, 0), (10, 0)]
  | 124, 2 => some [(0, 0), (1, 0), (9, 0), (10, 0)]
  | 124, 4 => some [(0, 0), (1, 0), (9, 0), (10, 0)]
  | 125, 0 => some [(0, 0), (1, 0), (10, 0), (11, 0)]
  | 125, 2 => some [(0, 0), (1, 0), (10, 0), (11, 0)]
  | 125, 4 => some [(0, 0), (1, 0), (10, 0), (11, 0)]
  | 125, 6 => some [(0, 0), (1, 0), (10, 0), (11, 0)]
  | 125, 8 => some [(0, 0), (1, 0), (10, 0), (11, 0)]
  | 128, 0 => some [(0, 0), (11, 1), (45, 0), (46, 0), (47, 0)]
  | 129, 0 => some [(0, 0), (1, 0), (2, 0), (6, 0)]
  | 129, 2 => some [(0, 0), (1, 0), (2, 0), (6, 0), (7, 0)]
  | 130, 0 => some [(0, 0), (6, 0), (7, 0), (8, 0), (9, 0)]
  | 130, 2 => some [(0, 0), (6, 0), (7, 0), (10, 0)]
  | 131, 0 => some [(0, 0), (1, 0), (6, 0), (7, 0), (8, 0), (9, 0)]
  | 133, 0 => some [(0, 0), (6, 0), (7, 0)]
  | 134, 0 => some [(0, 0), (1, 0), (2, 0), (7, 0), (8, 0)]
  | 134, 2 => some [(0, 0), (1, 0), (2, 0), (7, 0), (8, 0)]
  | 134, 4 => some [(0, 0), (1, 0), (2, 0), (7, 0), (8, 0), (9, 0)]
  | 134, 6 => some [(0, 0), (1, 0), (2, 0), (7, 0), (8, 0), (10, 0)]
  | 135, 0 => some [(0, 0), (1, 0), (9, 0), (10, 0)]
  | 135, 2 => some [(0, 0), (1, 0), (9, 0), (10, 0)]
  | 135, 4 => some [(0, 0), (1, 0), (9, 0), (10, 0)]
  | 136, 0 => some [(0, 0), (1, 0), (10, 0), (11, 0)]
  | 136, 2 => some [(0, 0), (1, 0), (10, 0), (11, 0)]
  | 136, 4 => some [(0, 0), (1, 0), (10, 0), (11, 0)]
  | 136, 6 => some [(0, 0), (1, 0), (10, 0), (11, 0)]
  | 136, 8 => some [(0, 0), (1, 0), (10, 0), (11, 0)]
  | 137, 0 => some [(0, 0), (2, 0), (3, 0), (8, 0)]
  | 142, 0 => some [(0, 0), (2, 0), (3, 0), (8, 0)]
  | _, _ => none
def G : Nat → Option (List D) := fun _ => none
def Hn : Hints := fun f r => match f, r with
  | 3, 5 => [4, 6, 8]
  | 20, 20 => [1]
  | 52, 4 => [8]
  | 67, 31 => [6]
  | 78, 4 => [8]
  | 106, 15 => [6, 7]
  | _, _ => []
@[simp] theorem K_4_0 : K 4 0 = some [(2, 0), (3, 0), (7, 0), (8, 0)] := rfl
@[simp] theorem K_10_0 : K 10 0 = some [(0, 0), (1, 0), (5, 0), (6, 0), (8, 0), (9, 0), (11, 0)] := rfl
@[simp] theorem K_10_2 : K 10 2 = some [(0, 0), (1, 0), (5, 0), (6, 0), (8, 0), (12, 0)] := rfl
@[simp] theorem K_14_0 : K 14 0 = some [(1, 0), (3, 0)] := rfl
@[simp] theorem K_14_2 : K 14 2 = some [(1, 0), (4, 0)] := rfl
@[simp] theorem K_15_0 : K 15 0 = some [(0, 0), (1, 0), (5, 0)] := rfl
@[simp] theorem K_16_0 : K 16 0 = some [(2, 0), (3, 0), (4, 0), (7, 0), (8, 1), (16, 0), (17, 0), (18, 0)] := rfl
@[simp] theorem K_17_0 : K 17 0 = some [(1, 0), (2, 0), (3, 0), (4, 0), (9, 1), (10, 0)] := rfl
@[simp] theorem K_18_0 : K 18 0 = some [(1, 0), (3, 0)] := rfl
@[simp] theorem K_18_2 : K 18 2 = some [(1, 0), (3, 0), (4, 0), (5, 0), (6, 0)] := rfl
@[simp] theorem K_18_4 : K 18 4 = some [(1, 0), (7, 0), (8, 0)] := rfl
@[simp] theorem K_18_6 : K 18 6 = some [(1, 0), (7, 0), (8, 0), (9, 0), (10, 0)] := rfl
@[simp] theorem K_18_8 : K 18 8 = some [(1, 0), (7, 0), (8, 0), (9, 0), (10, 0), (11, 0)] := rfl
@[simp] theorem K_19_0 : K 19 0 = some [(1, 0), (2, 0), (5, 0)] := rfl
@[simp] theorem K_20_0 : K 20 0 = some [(1, 0), (2, 0), (4, 0), (6, 0), (7, 0)] := rfl
@[simp] theorem K_20_2 : K 20 2 = some [(1, 0), (2, 0), (4, 0), (8, 0), (9, 0)] := rfl
@[simp] theorem K_20_4 : K 20 4 = some [(1, 0), (2, 0), (4, 0), (8, 0), (9, 0), (10, 0), (11, 0)] := rfl
@[simp] theorem K_23_1 : K 23 1 = some [(1, 0), (6, 1), (7, 0)] := rfl
@[simp] theorem K_23_3 : K 23 3 = some [(1, 0), (6, 1), (8, 0)] := rfl
@[simp] theorem K_23_5 : K 23 5 = some [(1, 0), (6, 1), (9, 0), (10, 0)] := rfl
@[simp] theorem K_23_7 : K 23 7 = some [(1, 0), (6, 1), (11, 0), (12, 1), (13, 0)] := rfl
@[simp] theorem K_23_9 : K 23 9 = some [(1, 0), (6, 1), (11, 0), (12, 1), (14, 0)] := rfl
@[simp] theorem K_23_11 : K 23 11 = some [(1, 0), (17, 0), (18, 1), (19, 0)] := rfl
@[simp] theorem K_24_0 : K 24 0 = some [(0, 0), (4, 1), (11, 0)] := rfl
@[simp] theorem K_25_0 : K 25 0 = some [(0, 0), (4, 1), (5, 0)] := rfl
@[simp] theorem K_26_2 : K 26 2 = some [(0, 0), (1, 0), (6, 0), (7, 1), (8, 0)] := rfl
@[simp] theorem K_28_0 : K 28 0 = some [(0, 0), (1, 0), (5, 0)] := rfl
@[simp] theorem K_30_0 : K 30 0 = some [(0, 0), (1, 0), (5, 3), (6, 0)] := rfl
@[simp] theorem K_31_0 : K 31 0 = some [(0, 0), (1, 0), (26, 0), (27, 0), (28, 0)] := rfl
@[simp] theorem K_31_2 : K 31 2 = some [(0, 0), (8, 0), (9, 1), (10, 1), (11, 1), (47, 0), (48, 0), (49, 0)] := rfl
@[simp] theorem K_32_0 : K 32 0 = some [(0, 0), (3, 1), (4, 0)] := rfl
@[simp] theorem K_34_0 : K 34 0 = some [(0, 0), (1, 0), (5, 0)] := rfl
@[simp] theorem K_35_0 : K 35 0 = some [(0, 0), (3, 3), (4, 0)] := rfl
@[simp] theorem K_36_0 : K 36 0 = some [(1, 0), (3, 0), (4, 0)] := rfl
@[simp] theorem K_37_0 : K 37 0 = some [(1, 0), (3, 0)] := rfl
@[simp] theorem K_38_0 : K 38 0 = some [(1, 0), (3, 0)] := rfl
@[simp] theorem K_39_0 : K 39 0 = some [(1, 0), (2, 0), (5, 0)] := rfl
@[simp] theorem K_40_0 : K 40 0 = some [(0, 0), (3, 0)] := rfl
@[simp] theorem K_41_0 : K 41 0 = some [(3, 1), (6, 0), (7, 0), (8, 0)] := rfl
@[simp] theorem K_42_0 : K 42 0 = some [(3, 1), (4, 0), (7, 0), (8, 0), (9, 0)] := rfl
@[simp] theorem K_43_0 : K 43 0 = some [(0, 0), (3, 1), (4, 0)] := rfl
@[simp] theorem K_43_2 : K 43 2 = some [(0, 0), (3, 1), (4, 0), (5, 0)] := rfl
@[simp] theorem K_44_0 : K 44 0 = some [(0, 0), (3, 0), (4, 0), (18, 0), (19, 0), (20, 0)] := rfl
@[simp] theorem K_44_2 : K 44 2 = some [(3, 0), (4, 0), (7, 0), (47, 0), (48, 0), (49, 0)] := rfl
@[simp] theorem K_45_0 : K 45 0 = some [(3, 0), (4, 0), (16, 0), (17, 0), (18, 0)] := rfl
@[simp] theorem K_48_0 : K 48 0 = some [(0, 0), (3, 1), (4, 0)] := rfl
@[simp] theorem K_48_2 : K 48 2 = some [(0, 0), (3, 1), (4, 0), (5, 1), (6, 0), (7, 0)] := rfl
@[simp] theorem K_49_0 : K 49 0 = some [(0, 0), (1, 0), (5, 0)] := rfl
@[simp] theorem K_50_0 : K 50 0 = some [(0, 0), (1, 0), (6, 1), (7, 0), (8, 0)] := rfl
@[simp] theorem K_50_2 : K 50 2 = some [(0, 0), (1, 0), (6, 1), (7, 0), (8, 0), (9, 0)] := rfl
@[simp] theorem K_51_0 : K 51 0 = some [(0, 0), (3, 0), (4, 0)] := rfl
@[simp] theorem K_51_2 : K 51 2 = some [(0, 0), (3, 0), (4, 0)] := rfl
@[simp] theorem K_53_0 : K 53 0 = some [(0, 0), (1, 0), (5, 1)] := rfl
@[simp] theorem K_54_0 : K 54 0 = some [(0, 0), (1, 0), (5, 0), (6, 1)] := rfl
@[simp] theorem K_54_2 : K 54 2 = some [(0, 0), (5, 0), (6, 1), (9, 1), (104, 0), (105, 0), (106, 0)] := rfl
@[simp] theorem K_55_0 : K 55 0 = some [(5, 0), (7, 1), (36, 0), (37, 0), (38, 0)] := rfl
@[simp] theorem K_57_0 : K 57 0 = some [(0, 0), (1, 0), (12, 0), (13, 0)] := rfl
@[simp] theorem K_58_1 : K 58 1 = some [(7, 1), (21, 0), (23, 0), (24, 0)] := rfl
@[simp] theorem K_58_3 : K 58 3 = some [(0, 0), (2, 0), (7, 1), (8, 0)] := rfl
@[simp] theorem K_58_5 : K 58 5 = some [(0, 0), (2, 0), (7, 1), (9, 0), (10, 0)] := rfl
@[simp] theorem K_58_7 : K 58 7 = some [(0, 0), (2, 0), (7, 1)] := rfl
@[simp] theorem K_58_9 : K 58 9 = some [(0, 0), (2, 0), (7, 1), (11, 0), (12, 0), (13, 0)] := rfl
@[simp] theorem K_58_11 : K 58 11 = some [(0, 0), (2, 0), (7, 1), (14, 0), (15, 1), (16, 0)] := rfl
@[simp] theorem K_58_13 : K 58 13 = some [(0, 0), (7, 1), (14, 0), (15, 1), (19, 0), (20, 0)] := rfl
@[simp] theorem K_64_0 : K 64 0 = some [(3, 0), (11, 0), (12, 0), (13, 0)] := rfl
@[simp] theorem K_65_0 : K 65 0 = some [(0, 0), (3, 0), (4, 0), (5, 1), (20, 0), (21, 0), (22, 0)] := rfl
@[simp] theorem K_67_0 : K 67 0 = some [(0, 0), (1, 0), (2, 0), (9, 0), (12, 0), (56, 0), (57, 0), (58, 0)] := rfl
@[simp] theorem K_67_2 : K 67 2 = some [(15, 0), (17, 0), (79, 0), (80, 0), (81, 0)] := rfl
@[simp] theorem K_68_0 : K 68 0 = some [(3, 0), (5, 0), (6, 0)] := rfl
@[simp] theorem K_69_0 : K 69 0 = some [(0, 0), (1, 0), (5, 0)] := rfl
@[simp] theorem K_71_0 : K 71 0 = some [(0, 0), (3, 1)] := rfl
@[simp] theorem K_73_0 : K 73 0 = some [(0, 0), (1, 0), (6, 0), (7, 0), (8, 0)] := rfl
@[simp] theorem K_75_0 : K 75 0 = some [(0, 0), (3, 0), (4, 0)] := rfl
@[simp] theorem K_76_0 : K 76 0 = some [(3, 0), (6, 0), (7, 0), (8, 0)] := rfl
@[simp] theorem K_79_0 : K 79 0 = some [(7, 0), (8, 0)] := rfl
@[simp] theorem K_85_0 : K 85 0 = some [(0, 0), (1, 0), (7, 0), (8, 0)] := rfl
@[simp] theorem K_86_0 : K 86 0 = some [(1, 0), (6, 0), (36, 0), (37, 0), (38, 0)] := rfl
@[simp] theorem K_86_2 : K 86 2 = some [(1, 0), (6, 0), (7, 0), (8, 0), (9, 0), (36, 0), (37, 0), (38, 0)] := rfl
@[simp] theorem K_87_0 : K 87 0 = some [(0, 0), (5, 1), (6, 1), (9, 0), (10, 0), (11, 0)] := rfl
@[simp] theorem K_91_0 : K 91 0 = some [(0, 0), (3, 0)] := rfl
@[simp] theorem K_91_2 : K 91 2 = some [(0, 0), (3, 0), (4, 0), (5, 0)] := rfl
@[simp] theorem K_92_0 : K 92 0 = some [(0, 0), (1, 0), (6, 0), (7, 0), (8, 0)] := rfl
@[simp] theorem K_93_0 : K 93 0 = some [(7, 0), (8, 0)] := rfl
@[simp] theorem K_94_0 : K 94 0 = some [(0, 0), (2, 0), (9, 0), (56, 0), (57, 0)] := rfl
@[simp] theorem K_94_2 : K 94 2 = some [(0, 0), (2, 0), (9, 0), (10, 0), (11, 0), (56, 0), (57, 0)] := rfl
@[simp] theorem K_95_1 : K 95 1 = some [(8, 1), (10, 0), (30, 0), (31, 0), (32, 0)] := rfl
@[simp] theorem K_95_3 : K 95 3 = some [(8, 1), (14, 0), (52, 0), (53, 0), (54, 0)] := rfl
@[simp] theorem K_95_5 : K 95 5 = some [(8, 1), (18, 0), (73, 0), (74, 0), (75, 0)] := rfl
@[simp] theorem K_96_0 : K 96 0 = some [(0, 0), (5, 1), (6, 1), (7, 0), (8, 0)] := rfl
@[simp] theorem K_99_0 : K 99 0 = some [(0, 0), (3, 0)] := rfl
@[simp] theorem K_99_2 : K 99 2 = some [(0, 0), (3, 0), (4, 0), (5, 0)] := rfl
@[simp] theorem K_103_0 : K 103 0 = some [(5, 0), (8, 0), (9, 0), (10, 0)] := rfl
@[simp] theorem K_106_0 : K 106 0 = some [(0, 0), (5, 0)] := rfl
@[simp] theorem K_106_2 : K 106 2 = some [(0, 0), (5, 0), (6, 0), (7, 0)] := rfl
@[simp] theorem K_107_0 : K 107 0 = some [(0, 0), (1, 0), (2, 0), (8, 1), (9, 0)] := rfl
@[simp] theorem K_107_2 : K 107 2 = some [(0, 0), (1, 0), (2, 0), (8, 1), (9, 0), (10, 0), (11, 0)] := rfl
@[simp] theorem K_107_4 : K 107 4 = some [(0, 0), (8, 1), (13, 0)] := rfl
@[simp] theorem K_108_0 : K 108 0 = some [(0, 0), (1, 0), (2, 0), (3, 0), (8, 0), (9, 0)] := rfl
@[simp] theorem K_112_0 : K 112 0 = some [(12, 0), (15, 1), (85, 0), (86, 0), (87, 0)] := rfl
@[simp] theorem K_113_0 : K 113 0 = some [(0, 0), (6, 0), (7, 0), (8, 0), (9, 0)] := rfl
@[simp] theorem K_114_0 : K 114 0 = some [(0, 0), (1, 0), (2, 0), (3, 0), (8, 0), (9, 0)] := rfl
@[simp] theorem K_118_0 : K 118 0 = some [(0, 0), (1, 0), (2, 0), (6, 0)] := rfl
@[simp] theorem K_118_2 : K 118 2 = some [(0, 0), (1, 0), (2, 0), (6, 0), (7, 0)] := rfl
@[simp] theorem K_119_0 : K 119 0 = some [(0, 0), (6, 0), (7, 0), (8, 0), (9, 0)] := rfl
@[simp] theorem K_119_2 : K 119 2 = some [(0, 0), (6, 0), (7, 0), (10, 0)] := rfl
@[simp] theorem K_120_0 : K 120 0 = some [(0, 0), (1, 0), (6, 0), (7, 0), (8, 0), (9, 0)] := rfl
@[simp] theorem K_122_0 : K 122 0 = some [(0, 0), (6, 0), (7, 0)] := rfl
@[simp] theorem K_123_0 : K 123 0 = some [(0, 0), (1, 0), (2, 0), (7, 0), (8, 0)] := rfl
@[simp] theorem K_123_2 : K 123 2 = some [(0, 0), (1, 0), (2, 0), (7, 0), (8, 0)] := rfl
@[simp] theorem K_123_4 : K 123 4 = some [(0, 0), (1, 0), (2, 0), (7, 0), (8, 0), (9, 0)] := rfl
@[simp] theorem K_123_6 : K 123 6 = some [(0, 0), (1, 0), (2, 0), (7, 0), (8, 0), (10, 0)] := rfl
@[simp] theorem K_124_0 : K 124 0 = some [(0, 0), (1, 0), (9, 0), (10, 0)] := rfl
@[simp] theorem K_124_2 : K 124 2 = some [(0, 0), (1, 0), (9, 0), (10, 0)] := rfl
@[simp] theorem K_124_4 : K 124 4 = some [(0, 0), (1, 0), (9, 0), (10, 0)] := rfl
@[simp] theorem K_125_0 : K 125 0 = some [(0, 0), (1, 0), (10, 0), (11, 0)] := rfl
@[simp] theorem K_125_2 : K 125 2 = some [(0, 0), (1, 0), (10, 0), (11, 0)] := rfl
@[simp] theorem K_125_4 : K 125 4 = some [(0, 0), (1, 0), (10, 0), (11, 0)] := rfl
@[simp] theorem K_125_6 : K 125 6 = some [(0, 0), (1, 0), (10, 0), (11, 0)] := rfl
@[simp] theorem K_125_8 : K 125 8 = some [(0, 0), (1, 0), (10, 0), (11, 0)] := rfl
@[simp] theorem K_128_0 : K 128 0 = some [(0, 0), (11, 1), (45, 0), (46, 0), (47, 0)] := rfl
@[simp] theorem K_129_0 : K 129 0 = some [(0, 0), (1, 0), (2, 0), (6, 0)] := rfl
@[simp] theorem K_129_2 : K 129 2 = some [(0, 0), (1, 0), (2, 0), (6, 0), (7, 0)] := rfl
@[simp] theorem K_130_0 : K 130 0 = some [(0, 0), (6, 0), (7, 0), (8, 0), (9, 0)] := rfl
@[simp] theorem K_130_2 : K 130 2 = some [(0, 0), (6, 0), (7, 0), (10, 0)] := rfl
@[simp] theorem K_131_0 : K 131 0 = some [(0, 0), (1, 0), (6, 0), (7, 0), (8, 0), (9, 0)] := rfl
@[simp] theorem K_133_0 : K 133 0 = some [(0, 0), (6, 0), (7, 0)] := rfl
@[simp] theorem K_134_0 : K 134 0 = some [(0, 0), (1, 0), (2, 0), (7, 0), (8, 0)] := rfl
@[simp] theorem K_134_2 : K 134 2 = some [(0, 0), (1, 0), (2, 0), (7, 0), (8, 0)] := rfl
@[simp] theorem K_134_4 : K 134 4 = some [(0, 0), (1, 0), (2, 0), (7, 0), (8, 0), (9, 0)] := rfl
@[simp] theorem K_134_6 : K 134 6 = some [(0, 0), (1, 0), (2, 0), (7, 0), (8, 0), (10, 0)] := rfl
@[simp] theorem K_135_0 : K 135 0 = some [(0, 0), (1, 0), (9, 0), (10, 0)] := rfl
@[simp] theorem K_135_2 : K 135 2 = some [(0, 0), (1, 0), (9, 0), (10, 0)] := rfl
@[simp] theorem K_135_4 : K 135 4 = some [(0, 0), (1, 0), (9, 0), (10, 0)] := rfl
@[simp] theorem K_136_0 : K 136 0 = some [(0, 0), (1, 0), (10, 0), (11, 0)] := rfl
@[simp] theorem K_136_2 : K 136 2 = some [(0, 0), (1, 0), (10, 0), (11, 0)] := rfl
@[simp] theorem K_136_4 : K 136 4 = some [(0, 0), (1, 0), (10, 0), (11, 0)] := rfl
@[simp] theorem K_136_6 : K 136 6 = some [(0, 0), (1, 0), (10, 0), (11, 0)] := rfl
@[simp] theorem K_136_8 : K 136 8 = some [(0, 0), (1, 0), (10, 0), (11, 0)] := rfl
@[simp] theorem K_137_0 : K 137 0 = some [(0, 0), (2, 0), (3, 0), (8, 0)] := rfl
@[simp] theorem K_142_0 : K 142 0 = some [(0, 0), (2, 0), (3, 0), (8, 0)] := rfl
@[simp] theorem Hn_3_5 : Hn 3 5 = [4, 6, 8] := rfl
@[simp] theorem Hn_4_11 : Hn 4 11 = [] := rfl
@[simp] theorem Hn_4_12 : Hn 4 12 = [] := rfl
@[simp] theorem Hn_8_9 : Hn 8 9 = [] := rfl
@[simp] theorem Hn_15_6 : Hn 15 6 = [] := rfl
@[simp] theorem Hn_18_16 : Hn 18 16 = [] := rfl
@[simp] theorem Hn_18_35 : Hn 18 35 = [] := rfl
@[simp] theorem Hn_20_5 : Hn 20 5 = [] := rfl
@[simp] theorem Hn_20_7 : Hn 20 7 = [] := rfl
@[simp] theorem Hn_20_18 : Hn 20 18 = [] := rfl
@[simp] theorem Hn_20_20 : Hn 20 20 = [1] := rfl
@[simp] theorem Hn_23_16 : Hn 23 16 = [] := rfl
@[simp] theorem Hn_23_23 : Hn 23 23 = [] := rfl
@[simp] theorem Hn_23_36 : Hn 23 36 = [] := rfl
@[simp] theorem Hn_26_29 : Hn 26 29 = [] := rfl
@[simp] theorem Hn_27_13 : Hn 27 13 = [] := rfl
@[simp] theorem Hn_27_16 : Hn 27 16 = [] := rfl
@[simp] theorem Hn_28_6 : Hn 28 6 = [] := rfl
@[simp] theorem Hn_34_6 : Hn 34 6 = [] := rfl
@[simp] theorem Hn_38_7 : Hn 38 7 = [] := rfl
@[simp] theorem Hn_38_9 : Hn 38 9 = [] := rfl
@[simp] theorem Hn_43_5 : Hn 43 5 = [] := rfl
@[simp] theorem Hn_48_10 : Hn 48 10 = [] := rfl
@[simp] theorem Hn_48_12 : Hn 48 12 = [] := rfl
@[simp] theorem Hn_52_4 : Hn 52 4 = [8] := rfl
@[simp] theorem Hn_57_6 : Hn 57 6 = [] := rfl
@[simp] theorem Hn_67_31 : Hn 67 31 = [6] := rfl
@[simp] theorem Hn_78_4 : Hn 78 4 = [8] := rfl
@[simp] theorem Hn_79_9 : Hn 79 9 = [] := rfl
@[simp] theorem Hn_86_11 : Hn 86 11 = [] := rfl
@[simp] theorem Hn_91_6 : Hn 91 6 = [] := rfl
@[simp] theorem Hn_91_11 : Hn 91 11 = [] := rfl
@[simp] theorem Hn_93_9 : Hn 93 9 = [] := rfl
@[simp] theorem Hn_94_16 : Hn 94 16 = [] := rfl
@[simp] theorem Hn_99_6 : Hn 99 6 = [] := rfl
@[simp] theorem Hn_99_11 : Hn 99 11 = [] := rfl
@[simp] theorem Hn_106_15 : Hn 106 15 = [6, 7] := rfl
@[simp] theorem Hn_108_17 : Hn 108 17 = [] := rfl
@[simp] theorem Hn_114_17 : Hn 114 17 = [] := rfl
@[simp] theorem Hn_118_4 : Hn 118 4 = [] := rfl
@[simp] theorem Hn_118_6 : Hn 118 6 = [] := rfl
@[simp] theorem Hn_119_10 : Hn 119 10 = [] := rfl
@[simp] theorem Hn_120_10 : Hn 120 10 = [] := rfl
@[simp] theorem Hn_122_3 : Hn 122 3 = [] := rfl
@[simp] theorem Hn_123_5 : Hn 123 5 = [] := rfl
@[simp] theorem Hn_123_11 : Hn 123 11 = [] := rfl
@[simp] theorem Hn_123_16 : Hn 123 16 = [] := rfl
@[simp] theorem Hn_123_17 : Hn 123 17 = [] := rfl
@[simp] theorem Hn_123_22 : Hn 123 22 = [] := rfl
@[simp] theorem Hn_123_23 : Hn 123 23 = [] := rfl
@[simp] theorem Hn_124_1 : Hn 124 1 = [] := rfl
@[simp] theorem Hn_124_3 : Hn 124 3 = [] := rfl
@[simp] theorem Hn_124_5 : Hn 124 5 = [] := rfl
@[simp] theorem Hn_124_8 : Hn 124 8 = [] := rfl
@[simp] theorem Hn_125_1 : Hn 125 1 = [] := rfl
@[simp] theorem Hn_125_3 : Hn 125 3 = [] := rfl
@[simp] theorem Hn_125_5 : Hn 125 5 = [] := rfl
@[simp] theorem Hn_125_8 : Hn 125 8 = [] := rfl
@[simp] theorem Hn_125_10 : Hn 125 10 = [] := rfl
@[simp] theorem Hn_125_13 : Hn 125 13 = [] := rfl
@[simp] theorem Hn_125_15 : Hn 125 15 = [] := rfl
@[simp] theorem Hn_125_18 : Hn 125 18 = [] := rfl
@[simp] theorem Hn_125_21 : Hn 125 21 = [] := rfl
@[simp] theorem Hn_129_4 : Hn 129 4 = [] := rfl
@[simp] theorem Hn_129_6 : Hn 129 6 = [] := rfl
@[simp] theorem Hn_130_10 : Hn 130 10 = [] := rfl
@[simp] theorem Hn_131_10 : Hn 131 10 = [] := rfl
@[simp] theorem Hn_133_3 : Hn 133 3 = [] := rfl
@[simp] theorem Hn_134_5 : Hn 134 5 = [] := rfl
@[simp] theorem Hn_134_11 : Hn 134 11 = [] := rfl
@[simp] theorem Hn_134_16 : Hn 134 16 = [] := rfl
@[simp] theorem Hn_134_17 : Hn 134 17 = [] := rfl
@[simp] theorem Hn_134_22 : Hn 134 22 = [] := rfl
@[simp] theorem Hn_134_23 : Hn 134 23 = [] := rfl
@[simp] theorem Hn_135_1 : Hn 135 1 = [] := rfl
@[simp] theorem Hn_135_3 : Hn 135 3 = [] := rfl
@[simp] theorem Hn_135_5 : Hn 135 5 = [] := rfl
@[simp] theorem Hn_135_8 : Hn 135 8 = [] := rfl
@[simp] theorem Hn_136_1 : Hn 136 1 = [] := rfl
@[simp] theorem Hn_136_3 : Hn 136 3 = [] := rfl
@[simp] theorem Hn_136_5 : Hn 136 5 = [] := rfl
@[simp] theorem Hn_136_8 : Hn 136 8 = [] := rfl
@[simp] theorem Hn_136_10 : Hn 136 10 = [] := rfl
@[simp] theorem Hn_136_13 : Hn 136 13 = [] := rfl
@[simp] theorem Hn_136_15 : Hn 136 15 = [] := rfl
@[simp] theorem Hn_136_18 : Hn 136 18 = [] := rfl
@[simp] theorem Hn_136_21 : Hn 136 21 = [] := rfl
@[simp] theorem Hn_137_3 : Hn 137 3 = [] := rfl
@[simp] theorem Hn_137_5 : Hn 137 5 = [] := rfl
@[simp] theorem Hn_137_6 : Hn 137 6 = [] := rfl
@[simp] theorem Hn_139_1 : Hn 139 1 = [] := rfl
@[simp] theorem Hn_139_2 : Hn 139 2 = [] := rfl
@[simp] theorem Hn_139_3 : Hn 139 3 = [] := rfl
@[simp] theorem Hn_142_3 : Hn 142 3 = [] := rfl
@[simp] theorem Hn_142_5 : Hn 142 5 = [] := rfl
@[simp] theorem Hn_142_6 : Hn 142 6 = [] := rfl
@[simp] theorem Hn_145_1 : Hn 145 1 = [] := rfl
@[simp] theorem Hn_146_1 : Hn 146 1 = [] := rfl
noncomputable abbrev R : Run := Runs Try.prog G K Hn
end Go.Am.Ab
