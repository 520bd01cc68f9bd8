/- Facts on the types of the program, what loops keep, numbers. -/
import Derived.Test.YtekemfffaedmhaaGreatProg
import Derived.KernelRfl
import Derived.Test.YtekemfffaedmhaaGreatMachD
set_option linter.all false
namespace Go.Am.Ab
open Go.Proofs
attribute [simp] Tryz.underlying0
@[simp] theorem sz0 : sizeOf? Tryz.prog 0 = some 1 := by kernel_rfl
@[simp] theorem ag0 : agg? Tryz.prog 0 = some false := by kernel_rfl
attribute [simp] Tryz.underlying2
@[simp] theorem sz2 : sizeOf? Tryz.prog 2 = some 1 := by kernel_rfl
@[simp] theorem ag2 : agg? Tryz.prog 2 = some false := by kernel_rfl
@[simp] theorem zs2 : zeroVs? Tryz.prog 2 = some [.d (.int .i64 0)] := by kernel_rfl
@[simp] theorem al2 (h : List Am.Obj) : allocV Tryz.prog h 2 = some (.ptr h.length 0, h ++ [.box [.d (.int .i64 0)]]) := allocV_of zs2
@[simp] theorem zv2 : (zero? Tryz.prog 2).isSome = true := by kernel_rfl
@[simp] theorem ap2 : appElem? Tryz.prog 2 = some 1 := by kernel_rfl
@[simp] theorem mk2 : makeElem? Tryz.prog 2 = some (1, .int .i64 0) := by kernel_rfl
@[simp] theorem zd2 : zeroD? Tryz.prog 2 = some (.int .i64 0) := by kernel_rfl
attribute [simp] Tryz.underlying3
@[simp] theorem sz3 : sizeOf? Tryz.prog 3 = some 1 := by kernel_rfl
@[simp] theorem ag3 : agg? Tryz.prog 3 = some false := by kernel_rfl
@[simp] theorem zs3 : zeroVs? Tryz.prog 3 = some [.d (.int .i64 0)] := by kernel_rfl
@[simp] theorem al3 (h : List Am.Obj) : allocV Tryz.prog h 3 = some (.ptr h.length 0, h ++ [.box [.d (.int .i64 0)]]) := allocV_of zs3
@[simp] theorem zv3 : (zero? Tryz.prog 3).isSome = true := by kernel_rfl
@[simp] theorem ap3 : appElem? Tryz.prog 3 = some 1 := by kernel_rfl
@[simp] theorem mk3 : makeElem? Tryz.prog 3 = some (1, .int .i64 0) := by kernel_rfl
@[simp] theorem zd3 : zeroD? Tryz.prog 3 = some (.int .i64 0) := by kernel_rfl
attribute [simp] Tryz.underlying4
@[simp] theorem sz4 : sizeOf? Tryz.prog 4 = some 1 := by kernel_rfl
@[simp] theorem ag4 : agg? Tryz.prog 4 = some false := by kernel_rfl
@[simp] theorem zs4 : zeroVs? Tryz.prog 4 = some [.d (.bool false)] := by kernel_rfl
@[simp] theorem al4 (h : List Am.Obj) : allocV Tryz.prog h 4 = some (.ptr h.length 0, h ++ [.box [.d (.bool false)]]) := allocV_of zs4
@[simp] theorem zv4 : (zero? Tryz.prog 4).isSome = true := by kernel_rfl
@[simp] theorem ap4 : appElem? Tryz.prog 4 = some 1 := by kernel_rfl
@[simp] theorem mk4 : makeElem? Tryz.prog 4 = some (1, .bool false) := by kernel_rfl
@[simp] theorem zd4 : zeroD? Tryz.prog 4 = some (.bool false) := by kernel_rfl
attribute [simp] Tryz.underlying5
@[simp] theorem sz5 : sizeOf? Tryz.prog 5 = some 1 := by kernel_rfl
@[simp] theorem ag5 : agg? Tryz.prog 5 = some false := by kernel_rfl
@[simp] theorem zs5 : zeroVs? Tryz.prog 5 = some [.d (.int .u8 0)] := by kernel_rfl
@[simp] theorem al5 (h : List Am.Obj) : allocV Tryz.prog h 5 = some (.ptr h.length 0, h ++ [.box [.d (.int .u8 0)]]) := allocV_of zs5
@[simp] theorem zv5 : (zero? Tryz.prog 5).isSome = true := by kernel_rfl
@[simp] theorem ap5 : appElem? Tryz.prog 5 = some 1 := by kernel_rfl
@[simp] theorem mk5 : makeElem? Tryz.prog 5 = some (1, .int .u8 0) := by kernel_rfl
@[simp] theorem zd5 : zeroD? Tryz.prog 5 = some (.int .u8 0) := by kernel_rfl
attribute [simp] Tryz.underlying9
@[simp] theorem sz9 : sizeOf? Tryz.prog 9 = some 1 := by kernel_rfl
@[simp] theorem ag9 : agg? Tryz.prog 9 = some false := by kernel_rfl
@[simp] theorem zs9 : zeroVs? Tryz.prog 9 = some [.d (.str ⟨#[]⟩)] := by kernel_rfl
@[simp] theorem al9 (h : List Am.Obj) : allocV Tryz.prog h 9 = some (.ptr h.length 0, h ++ [.box [.d (.str ⟨#[]⟩)]]) := allocV_of zs9
@[simp] theorem zv9 : (zero? Tryz.prog 9).isSome = true := by kernel_rfl
@[simp] theorem ap9 : appElem? Tryz.prog 9 = some 1 := by kernel_rfl
@[simp] theorem mk9 : makeElem? Tryz.prog 9 = some (1, .str ⟨#[]⟩) := by kernel_rfl
@[simp] theorem zd9 : zeroD? Tryz.prog 9 = some (.str ⟨#[]⟩) := by kernel_rfl
attribute [simp] Tryz.underlying20
@[simp] theorem sz20 : sizeOf? Tryz.prog 20 = some 1 := by kernel_rfl
@[simp] theorem ag20 : agg? Tryz.prog 20 = some false := by kernel_rfl
@[simp] theorem zs20 : zeroVs? Tryz.prog 20 = some [.d .nilI] := by kernel_rfl
@[simp] theorem al20 (h : List Am.Obj) : allocV Tryz.prog h 20 = some (.ptr h.length 0, h ++ [.box [.d .nilI]]) := allocV_of zs20
@[simp] theorem zv20 : (zero? Tryz.prog 20).isSome = true := by kernel_rfl
@[simp] theorem ap20 : appElem? Tryz.prog 20 = some 1 := by kernel_rfl
@[simp] theorem mk20 : makeElem? Tryz.prog 20 = some (1, .nilI) := by kernel_rfl
@[simp] theorem zd20 : zeroD? Tryz.prog 20 = some (.nilI) := by kernel_rfl
attribute [simp] Tryz.underlying22
@[simp] theorem sz22 : sizeOf? Tryz.prog 22 = some 1 := by kernel_rfl
@[simp] theorem ag22 : agg? Tryz.prog 22 = some false := by kernel_rfl
@[simp] theorem zs22 : zeroVs? Tryz.prog 22 = some [.nilS] := by kernel_rfl
@[simp] theorem al22 (h : List Am.Obj) : allocV Tryz.prog h 22 = some (.ptr h.length 0, h ++ [.box [.nilS]]) := allocV_of zs22
@[simp] theorem zv22 : (zero? Tryz.prog 22).isSome = true := by kernel_rfl
@[simp] theorem ap22 : appElem? Tryz.prog 22 = some 1 := by kernel_rfl
@[simp] theorem mk22 : makeElem? Tryz.prog 22 = some (1, .list []) := by kernel_rfl
@[simp] theorem zd22 : zeroD? Tryz.prog 22 = some (.list []) := by kernel_rfl
@[simp] theorem es22 : elemSize Tryz.prog 22 = 3 := by kernel_rfl
attribute [simp] Tryz.underlying24
@[simp] theorem sz24 : sizeOf? Tryz.prog 24 = some 1 := by kernel_rfl
@[simp] theorem ag24 : agg? Tryz.prog 24 = some false := by kernel_rfl
@[simp] theorem zs24 : zeroVs? Tryz.prog 24 = some [.nilS] := by kernel_rfl
@[simp] theorem al24 (h : List Am.Obj) : allocV Tryz.prog h 24 = some (.ptr h.length 0, h ++ [.box [.nilS]]) := allocV_of zs24
@[simp] theorem zv24 : (zero? Tryz.prog 24).isSome = true := by kernel_rfl
@[simp] theorem ap24 : appElem? Tryz.prog 24 = some 1 := by kernel_rfl
@[simp] theorem mk24 : makeElem? Tryz.prog 24 = some (1, .list []) := by kernel_rfl
@[simp] theorem zd24 : zeroD? Tryz.prog 24 = some (.list []) := by kernel_rfl
@[simp] theorem es24 : elemSize Tryz.prog 24 = 1 := by kernel_rfl
attribute [simp] Tryz.underlying25
@[simp] theorem sz25 : sizeOf? Tryz.prog 25 = some 1 := by kernel_rfl
@[simp] theorem ag25 : agg? Tryz.prog 25 = some false := by kernel_rfl
@[simp] theorem zs25 : zeroVs? Tryz.prog 25 = some [.d (.int .i64 0)] := by kernel_rfl
@[simp] theorem al25 (h : List Am.Obj) : allocV Tryz.prog h 25 = some (.ptr h.length 0, h ++ [.box [.d (.int .i64 0)]]) := allocV_of zs25
@[simp] theorem zv25 : (zero? Tryz.prog 25).isSome = true := by kernel_rfl
@[simp] theorem ap25 : appElem? Tryz.prog 25 = some 1 := by kernel_rfl
@[simp] theorem mk25 : makeElem? Tryz.prog 25 = some (1, .int .i64 0) := by kernel_rfl
@[simp] theorem zd25 : zeroD? Tryz.prog 25 = some (.int .i64 0) := by kernel_rfl
attribute [simp] Tryz.underlying26
@[simp] theorem sz26 : sizeOf? Tryz.prog 26 = some 1 := by kernel_rfl
@[simp] theorem ag26 : agg? Tryz.prog 26 = some false := by kernel_rfl
attribute [simp] Tryz.underlying28
@[simp] theorem sz28 : sizeOf? Tryz.prog 28 = some 1 := by kernel_rfl
@[simp] theorem ag28 : agg? Tryz.prog 28 = some false := by kernel_rfl
@[simp] theorem zs28 : zeroVs? Tryz.prog 28 = some [.d (.int .u8 0)] := by kernel_rfl
@[simp] theorem al28 (h : List Am.Obj) : allocV Tryz.prog h 28 = some (.ptr h.length 0, h ++ [.box [.d (.int .u8 0)]]) := allocV_of zs28
@[simp] theorem zv28 : (zero? Tryz.prog 28).isSome = true := by kernel_rfl
@[simp] theorem ap28 : appElem? Tryz.prog 28 = some 1 := by kernel_rfl
@[simp] theorem mk28 : makeElem? Tryz.prog 28 = some (1, .int .u8 0) := by kernel_rfl
@[simp] theorem zd28 : zeroD? Tryz.prog 28 = some (.int .u8 0) := by kernel_rfl
attribute [simp] Tryz.underlying29
@[simp] theorem sz29 : sizeOf? Tryz.prog 29 = some 1 := by kernel_rfl
@[simp] theorem ag29 : agg? Tryz.prog 29 = some false := by kernel_rfl
@[simp] theorem zs29 : zeroVs? Tryz.prog 29 = some [.nilS] := by kernel_rfl
@[simp] theorem al29 (h : List Am.Obj) : allocV Tryz.prog h 29 = some (.ptr h.length 0, h ++ [.box [.nilS]]) := allocV_of zs29
@[simp] theorem zv29 : (zero? Tryz.prog 29).isSome = true := by kernel_rfl
@[simp] theorem ap29 : appElem? Tryz.prog 29 = some 1 := by kernel_rfl
@[simp] theorem mk29 : makeElem? Tryz.prog 29 = some (1, .list []) := by kernel_rfl
@[simp] theorem zd29 : zeroD? Tryz.prog 29 = some (.list []) := by kernel_rfl
@[simp] theorem es29 : elemSize Tryz.prog 29 = 1 := by kernel_rfl
attribute [simp] Tryz.underlying31
@[simp] theorem sz31 : sizeOf? Tryz.prog 31 = some 1 := by kernel_rfl
@[simp] theorem ag31 : agg? Tryz.prog 31 = some false := by kernel_rfl
attribute [simp] Tryz.underlying35
@[simp] theorem sz35 : sizeOf? Tryz.prog 35 = some 1 := by kernel_rfl
@[simp] theorem ag35 : agg? Tryz.prog 35 = some false := by kernel_rfl
attribute [simp] Tryz.underlying37
@[simp] theorem sz37 : sizeOf? Tryz.prog 37 = some 1 := by kernel_rfl
@[simp] theorem ag37 : agg? Tryz.prog 37 = some false := by kernel_rfl
attribute [simp] Tryz.underlying42
@[simp] theorem sz42 : sizeOf? Tryz.prog 42 = some 3 := by kernel_rfl
@[simp] theorem ag42 : agg? Tryz.prog 42 = some true := by kernel_rfl
@[simp] theorem zs42 : zeroVs? Tryz.prog 42 = some [.d (.int .u8 0), .d (.int .i64 0), .d (.str ⟨#[]⟩)] := by kernel_rfl
@[simp] theorem al42 (h : List Am.Obj) : allocV Tryz.prog h 42 = some (.ptr h.length 0, h ++ [.box [.d (.int .u8 0), .d (.int .i64 0), .d (.str ⟨#[]⟩)]]) := allocV_of zs42
@[simp] theorem zv42 : (zero? Tryz.prog 42).isSome = true := by kernel_rfl
@[simp] theorem ap42 : appElem? Tryz.prog 42 = some 3 := by kernel_rfl
@[simp] theorem bv42 (parts : List (Nat × V)) : buildV Tryz.prog 42 parts = (fillV (fun i => [(0, 1), (1, 1), (2, 1)][i]?) [.d (.int .u8 0), .d (.int .i64 0), .d (.str ⟨#[]⟩)] parts).map mkAgg := buildV_struct (by kernel_rfl) (by kernel_rfl)
@[simp] theorem fo42_0 : fieldOff? Tryz.prog 42 0 = some (0, 28) := by kernel_rfl
@[simp] theorem fo42_1 : fieldOff? Tryz.prog 42 1 = some (1, 2) := by kernel_rfl
@[simp] theorem fo42_2 : fieldOff? Tryz.prog 42 2 = some (2, 9) := by kernel_rfl
@[simp] theorem fs42 : flatStruct Tryz.prog 42 = some [(0, 0), (1, 0), (2, 2)] := by kernel_rfl
@[simp] theorem mk42 : makeElem? Tryz.prog 42 = some (3, .agg [.int .u8 0, .int .i64 0, .str ⟨#[]⟩]) := by kernel_rfl
@[simp] theorem zd42 : zeroD? Tryz.prog 42 = some (.agg [.int .u8 0, .int .i64 0, .str ⟨#[]⟩]) := by kernel_rfl
attribute [simp] Tryz.underlying43
@[simp] theorem sz43 : sizeOf? Tryz.prog 43 = some 3 := by kernel_rfl
@[simp] theorem ag43 : agg? Tryz.prog 43 = some true := by kernel_rfl
@[simp] theorem zs43 : zeroVs? Tryz.prog 43 = some [.d (.int .u8 0), .d (.int .i64 0), .d (.str ⟨#[]⟩)] := by kernel_rfl
@[simp] theorem al43 (h : List Am.Obj) : allocV Tryz.prog h 43 = some (.ptr h.length 0, h ++ [.box [.d (.int .u8 0), .d (.int .i64 0), .d (.str ⟨#[]⟩)]]) := allocV_of zs43
@[simp] theorem zv43 : (zero? Tryz.prog 43).isSome = true := by kernel_rfl
@[simp] theorem ap43 : appElem? Tryz.prog 43 = some 3 := by kernel_rfl
@[simp] theorem bv43 (parts : List (Nat × V)) : buildV Tryz.prog 43 parts = (fillV (fun i => [(0, 1), (1, 1), (2, 1)][i]?) [.d (.int .u8 0), .d (.int .i64 0), .d (.str ⟨#[]⟩)] parts).map mkAgg := buildV_struct (by kernel_rfl) (by kernel_rfl)
@[simp] theorem fo43_0 : fieldOff? Tryz.prog 43 0 = some (0, 28) := by kernel_rfl
@[simp] theorem fo43_1 : fieldOff? Tryz.prog 43 1 = some (1, 2) := by kernel_rfl
@[simp] theorem fo43_2 : fieldOff? Tryz.prog 43 2 = some (2, 9) := by kernel_rfl
@[simp] theorem fs43 : flatStruct Tryz.prog 43 = some [(0, 0), (1, 0), (2, 2)] := by kernel_rfl
@[simp] theorem mk43 : makeElem? Tryz.prog 43 = some (3, .agg [.int .u8 0, .int .i64 0, .str ⟨#[]⟩]) := by kernel_rfl
@[simp] theorem zd43 : zeroD? Tryz.prog 43 = some (.agg [.int .u8 0, .int .i64 0, .str ⟨#[]⟩]) := by kernel_rfl
attribute [simp] Tryz.underlying45
@[simp] theorem sz45 : sizeOf? Tryz.prog 45 = some 1 := by kernel_rfl
@[simp] theorem ag45 : agg? Tryz.prog 45 = some false := by kernel_rfl
@[simp] theorem zs45 : zeroVs? Tryz.prog 45 = some [.d .nilI] := by kernel_rfl
@[simp] theorem al45 (h : List Am.Obj) : allocV Tryz.prog h 45 = some (.ptr h.length 0, h ++ [.box [.d .nilI]]) := allocV_of zs45
@[simp] theorem zv45 : (zero? Tryz.prog 45).isSome = true := by kernel_rfl
@[simp] theorem ap45 : appElem? Tryz.prog 45 = some 1 := by kernel_rfl
@[simp] theorem mk45 : makeElem? Tryz.prog 45 = some (1, .nilI) := by kernel_rfl
@[simp] theorem zd45 : zeroD? Tryz.prog 45 = some (.nilI) := by kernel_rfl
attribute [simp] Tryz.underlying48
@[simp] theorem sz48 : sizeOf? Tryz.prog 48 = some 1 := by kernel_rfl
@[simp] theorem ag48 : agg? Tryz.prog 48 = some false := by kernel_rfl
@[simp] theorem zs48 : zeroVs? Tryz.prog 48 = some [.nilS] := by kernel_rfl
@[simp] theorem al48 (h : List Am.Obj) : allocV Tryz.prog h 48 = some (.ptr h.length 0, h ++ [.box [.nilS]]) := allocV_of zs48
@[simp] theorem zv48 : (zero? Tryz.prog 48).isSome = true := by kernel_rfl
@[simp] theorem ap48 : appElem? Tryz.prog 48 = some 1 := by kernel_rfl
@[simp] theorem mk48 : makeElem? Tryz.prog 48 = some (1, .list []) := by kernel_rfl
@[simp] theorem zd48 : zeroD? Tryz.prog 48 = some (.list []) := by kernel_rfl
@[simp] theorem es48 : elemSize Tryz.prog 48 = 1 := by kernel_rfl
attribute [simp] Tryz.underlying49
@[simp] theorem sz49 : sizeOf? Tryz.prog 49 = some 1 := by kernel_rfl
@[simp] theorem ag49 : agg? Tryz.prog 49 = some false := by kernel_rfl
@[simp] theorem zs49 : zeroVs? Tryz.prog 49 = some [.nilS] := by kernel_rfl
@[simp] theorem al49 (h : List Am.Obj) : allocV Tryz.prog h 49 = some (.ptr h.length 0, h ++ [.box [.nilS]]) := allocV_of zs49
@[simp] theorem zv49 : (zero? Tryz.prog 49).isSome = true := by kernel_rfl
@[simp] theorem ap49 : appElem? Tryz.prog 49 = some 1 := by kernel_rfl
@[simp] theorem mk49 : makeElem? Tryz.prog 49 = some (1, .list []) := by kernel_rfl
@[simp] theorem zd49 : zeroD? Tryz.prog 49 = some (.list []) := by kernel_rfl
@[simp] theorem es49 : elemSize Tryz.prog 49 = 1 := by kernel_rfl
attribute [simp] Tryz.underlying50
@[simp] theorem sz50 : sizeOf? Tryz.prog 50 = some 1 := by kernel_rfl
@[simp] theorem ag50 : agg? Tryz.prog 50 = some false := by kernel_rfl
@[simp] theorem zs50 : zeroVs? Tryz.prog 50 = some [.nilS] := by kernel_rfl
@[simp] theorem al50 (h : List Am.Obj) : allocV Tryz.prog h 50 = some (.ptr h.length 0, h ++ [.box [.nilS]]) := allocV_of zs50
@[simp] theorem zv50 : (zero? Tryz.prog 50).isSome = true := by kernel_rfl
@[simp] theorem ap50 : appElem? Tryz.prog 50 = some 1 := by kernel_rfl
@[simp] theorem mk50 : makeElem? Tryz.prog 50 = some (1, .list []) := by kernel_rfl
@[simp] theorem zd50 : zeroD? Tryz.prog 50 = some (.list []) := by kernel_rfl
@[simp] theorem es50 : elemSize Tryz.prog 50 = 1 := by kernel_rfl
attribute [simp] Tryz.underlying51
@[simp] theorem sz51 : sizeOf? Tryz.prog 51 = some 1 := by kernel_rfl
@[simp] theorem ag51 : agg? Tryz.prog 51 = some false := by kernel_rfl
attribute [simp] Tryz.underlying52
@[simp] theorem sz52 : sizeOf? Tryz.prog 52 = some 1 := by kernel_rfl
@[simp] theorem ag52 : agg? Tryz.prog 52 = some false := by kernel_rfl
attribute [simp] Tryz.underlying53
@[simp] theorem sz53 : sizeOf? Tryz.prog 53 = some 1 := by kernel_rfl
@[simp] theorem ag53 : agg? Tryz.prog 53 = some false := by kernel_rfl
attribute [simp] Tryz.underlying56
@[simp] theorem sz56 : sizeOf? Tryz.prog 56 = some 1 := by kernel_rfl
@[simp] theorem ag56 : agg? Tryz.prog 56 = some false := by kernel_rfl
attribute [simp] Tryz.underlying60
@[simp] theorem sz60 : sizeOf? Tryz.prog 60 = some 1 := by kernel_rfl
@[simp] theorem ag60 : agg? Tryz.prog 60 = some false := by kernel_rfl
@[simp] theorem zs60 : zeroVs? Tryz.prog 60 = some [.nilS] := by kernel_rfl
@[simp] theorem al60 (h : List Am.Obj) : allocV Tryz.prog h 60 = some (.ptr h.length 0, h ++ [.box [.nilS]]) := allocV_of zs60
@[simp] theorem zv60 : (zero? Tryz.prog 60).isSome = true := by kernel_rfl
@[simp] theorem ap60 : appElem? Tryz.prog 60 = some 1 := by kernel_rfl
@[simp] theorem mk60 : makeElem? Tryz.prog 60 = some (1, .list []) := by kernel_rfl
@[simp] theorem zd60 : zeroD? Tryz.prog 60 = some (.list []) := by kernel_rfl
@[simp] theorem es60 : elemSize Tryz.prog 60 = 1 := by kernel_rfl
attribute [simp] Tryz.underlying61
@[simp] theorem sz61 : sizeOf? Tryz.prog 61 = some 1 := by kernel_rfl
@[simp] theorem ag61 : agg? Tryz.prog 61 = some false := by kernel_rfl
@[simp] theorem zs61 : zeroVs? Tryz.prog 61 = some [.d (.int .u64 0)] := by kernel_rfl
@[simp] theorem al61 (h : List Am.Obj) : allocV Tryz.prog h 61 = some (.ptr h.length 0, h ++ [.box [.d (.int .u64 0)]]) := allocV_of zs61
@[simp] theorem zv61 : (zero? Tryz.prog 61).isSome = true := by kernel_rfl
@[simp] theorem ap61 : appElem? Tryz.prog 61 = some 1 := by kernel_rfl
@[simp] theorem mk61 : makeElem? Tryz.prog 61 = some (1, .int .u64 0) := by kernel_rfl
@[simp] theorem zd61 : zeroD? Tryz.prog 61 = some (.int .u64 0) := by kernel_rfl
attribute [simp] Tryz.underlying67
@[simp] theorem sz67 : sizeOf? Tryz.prog 67 = some 1 := by kernel_rfl
@[simp] theorem ag67 : agg? Tryz.prog 67 = some false := by kernel_rfl
attribute [simp] Tryz.underlying69
@[simp] theorem sz69 : sizeOf? Tryz.prog 69 = some 1 := by kernel_rfl
@[simp] theorem ag69 : agg? Tryz.prog 69 = some false := by kernel_rfl
attribute [simp] Tryz.underlying71
@[simp] theorem sz71 : sizeOf? Tryz.prog 71 = some 1 := by kernel_rfl
@[simp] theorem ag71 : agg? Tryz.prog 71 = some false := by kernel_rfl
attribute [simp] Tryz.underlying76
@[simp] theorem sz76 : sizeOf? Tryz.prog 76 = some 1 := by kernel_rfl
@[simp] theorem ag76 : agg? Tryz.prog 76 = some false := by kernel_rfl
attribute [simp] Tryz.underlying77
@[simp] theorem sz77 : sizeOf? Tryz.prog 77 = some 1 := by kernel_rfl
@[simp] theorem ag77 : agg? Tryz.prog 77 = some false := by kernel_rfl
attribute [simp] Tryz.underlying79
@[simp] theorem sz79 : sizeOf? Tryz.prog 79 = some 1 := by kernel_rfl
@[simp] theorem ag79 : agg? Tryz.prog 79 = some false := by kernel_rfl
attribute [simp] Tryz.underlying84
@[simp] theorem sz84 : sizeOf? Tryz.prog 84 = some 1 := by kernel_rfl
@[simp] theorem ag84 : agg? Tryz.prog 84 = some false := by kernel_rfl
attribute [simp] Tryz.underlying86
@[simp] theorem sz86 : sizeOf? Tryz.prog 86 = some 1 := by kernel_rfl
@[simp] theorem ag86 : agg? Tryz.prog 86 = some false := by kernel_rfl
@[simp] theorem zs86 : zeroVs? Tryz.prog 86 = some [.d (.int .u64 0)] := by kernel_rfl
@[simp] theorem al86 (h : List Am.Obj) : allocV Tryz.prog h 86 = some (.ptr h.length 0, h ++ [.box [.d (.int .u64 0)]]) := allocV_of zs86
@[simp] theorem zv86 : (zero? Tryz.prog 86).isSome = true := by kernel_rfl
@[simp] theorem ap86 : appElem? Tryz.prog 86 = some 1 := by kernel_rfl
@[simp] theorem mk86 : makeElem? Tryz.prog 86 = some (1, .int .u64 0) := by kernel_rfl
@[simp] theorem zd86 : zeroD? Tryz.prog 86 = some (.int .u64 0) := by kernel_rfl
attribute [simp] Tryz.underlying87
@[simp] theorem sz87 : sizeOf? Tryz.prog 87 = some 1 := by kernel_rfl
@[simp] theorem ag87 : agg? Tryz.prog 87 = some false := by kernel_rfl
@[simp] theorem zs87 : zeroVs? Tryz.prog 87 = some [.d .nilP] := by kernel_rfl
@[simp] theorem al87 (h : List Am.Obj) : allocV Tryz.prog h 87 = some (.ptr h.length 0, h ++ [.box [.d .nilP]]) := allocV_of zs87
@[simp] theorem zv87 : (zero? Tryz.prog 87).isSome = true := by kernel_rfl
@[simp] theorem ap87 : appElem? Tryz.prog 87 = some 1 := by kernel_rfl
@[simp] theorem mk87 : makeElem? Tryz.prog 87 = some (1, .nilP) := by kernel_rfl
@[simp] theorem zd87 : zeroD? Tryz.prog 87 = some (.nilP) := by kernel_rfl
attribute [simp] Tryz.underlying88
@[simp] theorem sz88 : sizeOf? Tryz.prog 88 = some 2 := by kernel_rfl
@[simp] theorem ag88 : agg? Tryz.prog 88 = some true := by kernel_rfl
@[simp] theorem zs88 : zeroVs? Tryz.prog 88 = some [.nilS, .d (.int .i64 0)] := by kernel_rfl
@[simp] theorem al88 (h : List Am.Obj) : allocV Tryz.prog h 88 = some (.ptr h.length 0, h ++ [.box [.nilS, .d (.int .i64 0)]]) := allocV_of zs88
@[simp] theorem zv88 : (zero? Tryz.prog 88).isSome = true := by kernel_rfl
@[simp] theorem ap88 : appElem? Tryz.prog 88 = some 2 := by kernel_rfl
@[simp] theorem bv88 (parts : List (Nat × V)) : buildV Tryz.prog 88 parts = (fillV (fun i => [(0, 1), (1, 1)][i]?) [.nilS, .d (.int .i64 0)] parts).map mkAgg := buildV_struct (by kernel_rfl) (by kernel_rfl)
@[simp] theorem fo88_0 : fieldOff? Tryz.prog 88 0 = some (0, 24) := by kernel_rfl
@[simp] theorem fo88_1 : fieldOff? Tryz.prog 88 1 = some (1, 3) := by kernel_rfl
@[simp] theorem mk88 : makeElem? Tryz.prog 88 = some (2, .agg [.list [], .int .i64 0]) := by kernel_rfl
@[simp] theorem zd88 : zeroD? Tryz.prog 88 = some (.agg [.list [], .int .i64 0]) := by kernel_rfl
attribute [simp] Tryz.underlying89
@[simp] theorem sz89 : sizeOf? Tryz.prog 89 = some 2 := by kernel_rfl
@[simp] theorem ag89 : agg? Tryz.prog 89 = some true := by kernel_rfl
@[simp] theorem zs89 : zeroVs? Tryz.prog 89 = some [.nilS, .d (.int .i64 0)] := by kernel_rfl
@[simp] theorem al89 (h : List Am.Obj) : allocV Tryz.prog h 89 = some (.ptr h.length 0, h ++ [.box [.nilS, .d (.int .i64 0)]]) := allocV_of zs89
@[simp] theorem zv89 : (zero? Tryz.prog 89).isSome = true := by kernel_rfl
@[simp] theorem ap89 : appElem? Tryz.prog 89 = some 2 := by kernel_rfl
@[simp] theorem bv89 (parts : List (Nat × V)) : buildV Tryz.prog 89 parts = (fillV (fun i => [(0, 1), (1, 1)][i]?) [.nilS, .d (.int .i64 0)] parts).map mkAgg := buildV_struct (by kernel_rfl) (by kernel_rfl)
@[simp] theorem fo89_0 : fieldOff? Tryz.prog 89 0 = some (0, 24) := by kernel_rfl
@[simp] theorem fo89_1 : fieldOff? Tryz.prog 89 1 = some (1, 3) := by kernel_rfl
@[simp] theorem mk89 : makeElem? Tryz.prog 89 = some (2, .agg [.list [], .int .i64 0]) := by kernel_rfl
@[simp] theorem zd89 : zeroD? Tryz.prog 89 = some (.agg [.list [], .int .i64 0]) := by kernel_rfl
attribute [simp] Tryz.underlying91
@[simp] theorem sz91 : sizeOf? Tryz.prog 91 = some 1 := by kernel_rfl
@[simp] theorem ag91 : agg? Tryz.prog 91 = some false := by kernel_rfl
attribute [simp] Tryz.underlying93
@[simp] theorem sz93 : sizeOf? Tryz.prog 93 = some 1 := by kernel_rfl
@[simp] theorem ag93 : agg? Tryz.prog 93 = some false := by kernel_rfl
attribute [simp] Tryz.underlying95
@[simp] theorem sz95 : sizeOf? Tryz.prog 95 = some 1 := by kernel_rfl
@[simp] theorem ag95 : agg? Tryz.prog 95 = some false := by kernel_rfl
attribute [simp] Tryz.underlying98
@[simp] theorem sz98 : sizeOf? Tryz.prog 98 = some 5 := by kernel_rfl
@[simp] theorem ag98 : agg? Tryz.prog 98 = some true := by kernel_rfl
@[simp] theorem zs98 : zeroVs? Tryz.prog 98 = some [.d .nilF, .d .nilF, .d .nilF, .d .nilF, .d .nilF] := by kernel_rfl
@[simp] theorem al98 (h : List Am.Obj) : allocV Tryz.prog h 98 = some (.ptr h.length 0, h ++ [.box [.d .nilF, .d .nilF, .d .nilF, .d .nilF, .d .nilF]]) := allocV_of zs98
@[simp] theorem zv98 : (zero? Tryz.prog 98).isSome = true := by kernel_rfl
@[simp] theorem ap98 : appElem? Tryz.prog 98 = some 5 := by kernel_rfl
@[simp] theorem bv98 (parts : List (Nat × V)) : buildV Tryz.prog 98 parts = (fillV (fun i => some (i * 1, 1)) [.d .nilF, .d .nilF, .d .nilF, .d .nilF, .d .nilF] parts).map mkAgg := buildV_array (by kernel_rfl) Tryz.underlying98 (by kernel_rfl)
@[simp] theorem mk98 : makeElem? Tryz.prog 98 = some (5, .agg [.nilF, .nilF, .nilF, .nilF, .nilF]) := by kernel_rfl
@[simp] theorem zd98 : zeroD? Tryz.prog 98 = some (.agg [.nilF, .nilF, .nilF, .nilF, .nilF]) := by kernel_rfl
attribute [simp] Tryz.underlying106
@[simp] theorem sz106 : sizeOf? Tryz.prog 106 = some 1 := by kernel_rfl
@[simp] theorem ag106 : agg? Tryz.prog 106 = some false := by kernel_rfl
attribute [simp] Tryz.underlying108
@[simp] theorem sz108 : sizeOf? Tryz.prog 108 = some 1 := by kernel_rfl
@[simp] theorem ag108 : agg? Tryz.prog 108 = some false := by kernel_rfl
attribute [simp] Tryz.underlying110
@[simp] theorem sz110 : sizeOf? Tryz.prog 110 = some 1 := by kernel_rfl
@[simp] theorem ag110 : agg? Tryz.prog 110 = some false := by kernel_rfl
attribute [simp] Tryz.underlying119
@[simp] theorem sz119 : sizeOf? Tryz.prog 119 = some 1 := by kernel_rfl
@[simp] theorem ag119 : agg? Tryz.prog 119 = some false := by kernel_rfl
@[simp] theorem zs119 : zeroVs? Tryz.prog 119 = some [.d (.int .i64 0)] := by kernel_rfl
@[simp] theorem al119 (h : List Am.Obj) : allocV Tryz.prog h 119 = some (.ptr h.length 0, h ++ [.box [.d (.int .i64 0)]]) := allocV_of zs119
@[simp] theorem zv119 : (zero? Tryz.prog 119).isSome = true := by kernel_rfl
@[simp] theorem ap119 : appElem? Tryz.prog 119 = some 1 := by kernel_rfl
@[simp] theorem mk119 : makeElem? Tryz.prog 119 = some (1, .int .i64 0) := by kernel_rfl
@[simp] theorem zd119 : zeroD? Tryz.prog 119 = some (.int .i64 0) := by kernel_rfl
attribute [simp] Tryz.underlying120
@[simp] theorem sz120 : sizeOf? Tryz.prog 120 = some 1 := by kernel_rfl
@[simp] theorem ag120 : agg? Tryz.prog 120 = some false := by kernel_rfl
attribute [simp] Tryz.underlying126
@[simp] theorem sz126 : sizeOf? Tryz.prog 126 = some 1 := by kernel_rfl
@[simp] theorem ag126 : agg? Tryz.prog 126 = some false := by kernel_rfl
@[simp] theorem zs126 : zeroVs? Tryz.prog 126 = some [.d (.int .u32 0)] := by kernel_rfl
@[simp] theorem al126 (h : List Am.Obj) : allocV Tryz.prog h 126 = some (.ptr h.length 0, h ++ [.box [.d (.int .u32 0)]]) := allocV_of zs126
@[simp] theorem zv126 : (zero? Tryz.prog 126).isSome = true := by kernel_rfl
@[simp] theorem ap126 : appElem? Tryz.prog 126 = some 1 := by kernel_rfl
@[simp] theorem mk126 : makeElem? Tryz.prog 126 = some (1, .int .u32 0) := by kernel_rfl
@[simp] theorem zd126 : zeroD? Tryz.prog 126 = some (.int .u32 0) := by kernel_rfl
attribute [simp] Tryz.underlying127
@[simp] theorem sz127 : sizeOf? Tryz.prog 127 = some 1 := by kernel_rfl
@[simp] theorem ag127 : agg? Tryz.prog 127 = some false := by kernel_rfl
attribute [simp] Tryz.underlying129
@[simp] theorem sz129 : sizeOf? Tryz.prog 129 = some 1 := by kernel_rfl
@[simp] theorem ag129 : agg? Tryz.prog 129 = some false := by kernel_rfl
attribute [simp] Tryz.underlying131
@[simp] theorem sz131 : sizeOf? Tryz.prog 131 = some 1 := by kernel_rfl
@[simp] theorem ag131 : agg? Tryz.prog 131 = some false := by kernel_rfl
@[simp] theorem zs131 : zeroVs? Tryz.prog 131 = some [.d .nilP] := by kernel_rfl
@[simp] theorem al131 (h : List Am.Obj) : allocV Tryz.prog h 131 = some (.ptr h.length 0, h ++ [.box [.d .nilP]]) := allocV_of zs131
@[simp] theorem zv131 : (zero? Tryz.prog 131).isSome = true := by kernel_rfl
@[simp] theorem ap131 : appElem? Tryz.prog 131 = some 1 := by kernel_rfl
@[simp] theorem mk131 : makeElem? Tryz.prog 131 = some (1, .nilP) := by kernel_rfl
@[simp] theorem zd131 : zeroD? Tryz.prog 131 = some (.nilP) := by kernel_rfl
attribute [simp] Tryz.underlying132
@[simp] theorem sz132 : sizeOf? Tryz.prog 132 = some 2 := by kernel_rfl
@[simp] theorem ag132 : agg? Tryz.prog 132 = some true := by kernel_rfl
@[simp] theorem zs132 : zeroVs? Tryz.prog 132 = some [.nilS, .d (.int .i64 0)] := by kernel_rfl
@[simp] theorem al132 (h : List Am.Obj) : allocV Tryz.prog h 132 = some (.ptr h.length 0, h ++ [.box [.nilS, .d (.int .i64 0)]]) := allocV_of zs132
@[simp] theorem zv132 : (zero? Tryz.prog 132).isSome = true := by kernel_rfl
@[simp] theorem ap132 : appElem? Tryz.prog 132 = some 2 := by kernel_rfl
@[simp] theorem bv132 (parts : List (Nat × V)) : buildV Tryz.prog 132 parts = (fillV (fun i => [(0, 1), (1, 1)][i]?) [.nilS, .d (.int .i64 0)] parts).map mkAgg := buildV_struct (by kernel_rfl) (by kernel_rfl)
@[simp] theorem fo132_0 : fieldOff? Tryz.prog 132 0 = some (0, 24) := by kernel_rfl
@[simp] theorem fo132_1 : fieldOff? Tryz.prog 132 1 = some (1, 25) := by kernel_rfl
@[simp] theorem mk132 : makeElem? Tryz.prog 132 = some (2, .agg [.list [], .int .i64 0]) := by kernel_rfl
@[simp] theorem zd132 : zeroD? Tryz.prog 132 = some (.agg [.list [], .int .i64 0]) := by kernel_rfl
attribute [simp] Tryz.underlying133
@[simp] theorem sz133 : sizeOf? Tryz.prog 133 = some 2 := by kernel_rfl
@[simp] theorem ag133 : agg? Tryz.prog 133 = some true := by kernel_rfl
@[simp] theorem zs133 : zeroVs? Tryz.prog 133 = some [.nilS, .d (.int .i64 0)] := by kernel_rfl
@[simp] theorem al133 (h : List Am.Obj) : allocV Tryz.prog h 133 = some (.ptr h.length 0, h ++ [.box [.nilS, .d (.int .i64 0)]]) := allocV_of zs133
@[simp] theorem zv133 : (zero? Tryz.prog 133).isSome = true := by kernel_rfl
@[simp] theorem ap133 : appElem? Tryz.prog 133 = some 2 := by kernel_rfl
@[simp] theorem bv133 (parts : List (Nat × V)) : buildV Tryz.prog 133 parts = (fillV (fun i => [(0, 1), (1, 1)][i]?) [.nilS, .d (.int .i64 0)] parts).map mkAgg := buildV_struct (by kernel_rfl) (by kernel_rfl)
@[simp] theorem fo133_0 : fieldOff? Tryz.prog 133 0 = some (0, 24) := by kernel_rfl
@[simp] theorem fo133_1 : fieldOff? Tryz.prog 133 1 = some (1, 25) := by kernel_rfl
@[simp] theorem mk133 : makeElem? Tryz.prog 133 = some (2, .agg [.list [], .int .i64 0]) := by kernel_rfl
@[simp] theorem zd133 : zeroD? Tryz.prog 133 = some (.agg [.list [], .int .i64 0]) := by kernel_rfl
attribute [simp] Tryz.underlying136
@[simp] theorem sz136 : sizeOf? Tryz.prog 136 = some 1 := by kernel_rfl
@[simp] theorem ag136 : agg? Tryz.prog 136 = some false := by kernel_rfl
attribute [simp] Tryz.underlying138
@[simp] theorem sz138 : sizeOf? Tryz.prog 138 = some 1 := by kernel_rfl
@[simp] theorem ag138 : agg? Tryz.prog 138 = some false := by kernel_rfl
attribute [simp] Tryz.underlying140
@[simp] theorem sz140 : sizeOf? Tryz.prog 140 = some 1 := by kernel_rfl
@[simp] theorem ag140 : agg? Tryz.prog 140 = some false := by kernel_rfl
attribute [simp] Tryz.underlying145
@[simp] theorem sz145 : sizeOf? Tryz.prog 145 = some 1 := by kernel_rfl
@[simp] theorem ag145 : agg? Tryz.prog 145 = some false := by kernel_rfl
@[simp] theorem zs145 : zeroVs? Tryz.prog 145 = some [.d (.int .u64 0)] := by kernel_rfl
@[simp] theorem al145 (h : List Am.Obj) : allocV Tryz.prog h 145 = some (.ptr h.length 0, h ++ [.box [.d (.int .u64 0)]]) := allocV_of zs145
@[simp] theorem zv145 : (zero? Tryz.prog 145).isSome = true := by kernel_rfl
@[simp] theorem ap145 : appElem? Tryz.prog 145 = some 1 := by kernel_rfl
@[simp] theorem mk145 : makeElem? Tryz.prog 145 = some (1, .int .u64 0) := by kernel_rfl
@[simp] theorem zd145 : zeroD? Tryz.prog 145 = some (.int .u64 0) := by kernel_rfl
attribute [simp] Tryz.underlying148
@[simp] theorem sz148 : sizeOf? Tryz.prog 148 = some 1 := by kernel_rfl
@[simp] theorem ag148 : agg? Tryz.prog 148 = some false := by kernel_rfl
@[simp] theorem zs148 : zeroVs? Tryz.prog 148 = some [.d .nilP] := by kernel_rfl
@[simp] theorem al148 (h : List Am.Obj) : allocV Tryz.prog h 148 = some (.ptr h.length 0, h ++ [.box [.d .nilP]]) := allocV_of zs148
@[simp] theorem zv148 : (zero? Tryz.prog 148).isSome = true := by kernel_rfl
@[simp] theorem ap148 : appElem? Tryz.prog 148 = some 1 := by kernel_rfl
@[simp] theorem mk148 : makeElem? Tryz.prog 148 = some (1, .nilP) := by kernel_rfl
@[simp] theorem zd148 : zeroD? Tryz.prog 148 = some (.nilP) := by kernel_rfl
attribute [simp] Tryz.underlying150
@[simp] theorem sz150 : sizeOf? Tryz.prog 150 = some 1 := by kernel_rfl
@[simp] theorem ag150 : agg? Tryz.prog 150 = some false := by kernel_rfl
attribute [simp] Tryz.underlying154
@[simp] theorem sz154 : sizeOf? Tryz.prog 154 = some 1 := by kernel_rfl
@[simp] theorem ag154 : agg? Tryz.prog 154 = some false := by kernel_rfl
@[simp] theorem zs154 : zeroVs? Tryz.prog 154 = some [.d .nilP] := by kernel_rfl
@[simp] theorem al154 (h : List Am.Obj) : allocV Tryz.prog h 154 = some (.ptr h.length 0, h ++ [.box [.d .nilP]]) := allocV_of zs154
@[simp] theorem zv154 : (zero? Tryz.prog 154).isSome = true := by kernel_rfl
@[simp] theorem ap154 : appElem? Tryz.prog 154 = some 1 := by kernel_rfl
@[simp] theorem mk154 : makeElem? Tryz.prog 154 = some (1, .nilP) := by kernel_rfl
@[simp] theorem zd154 : zeroD? Tryz.prog 154 = some (.nilP) := by kernel_rfl
attribute [simp] Tryz.underlying155
@[simp] theorem sz155 : sizeOf? Tryz.prog 155 = some 1 := by kernel_rfl
@[simp] theorem ag155 : agg? Tryz.prog 155 = some false := by kernel_rfl
/-- What each loop keeps. -/
def K : Keeps := fun f b => match f, b with
  | 6, 0 => some [(0, 0), (1, 0), (26, 0), (27, 0), (28, 0)]
  | 6, 2 => some [(0, 0), (8, 0), (9, 1), (10, 1), (11, 1), (47, 0), (48, 0), (49, 0)]
  | 7, 0 => some [(0, 0), (3, 1), (4, 0)]
  | 8, 0 => some [(0, 0), (1, 0), (6, 0)]
  | 8, 2 => some [(0, 0), (1, 0), (8, 1), (9, 1), (10, 1), (11, 1), (12, 0), (13, 0)]
  | 8, 4 => some [(11, 1), (15, 0), (18, 0), (19, 1), (20, 0)]
  | 8, 6 => some [(11, 1), (15, 0), (18, 0), (19, 1), (20, 0), (21, 0)]
  | 9, 0 => some [(0, 0), (3, 3), (4, 0)]
  | 11, 0 => some [(0, 0), (1, 0), (2, 0), (8, 1), (9, 0)]
  | 11, 2 => some [(0, 0), (1, 0), (2, 0), (8, 1), (10, 0), (13, 0), (14, 0)]
  | 11, 5 => some [(0, 0), (1, 0), (2, 0), (8, 1), (15, 3), (22, 0), (24, 0)]
  | 11, 7 => some [(0, 0), (1, 0), (2, 0), (8, 1), (15, 3), (16, 0), (18, 0)]
  | 11, 9 => some [(0, 0), (1, 0), (2, 0), (8, 1), (15, 3), (19, 0), (21, 0)]
  | 11, 11 => some [(0, 0), (1, 0), (2, 0), (8, 1), (15, 3), (25, 3), (26, 0), (27, 0)]
  | 12, 0 => some [(0, 0), (1, 0), (5, 0)]
  | 13, 0 => some [(0, 0), (3, 3), (4, 0)]
  | 18, 0 => some [(3, 0), (11, 0), (12, 0), (13, 0)]
  | 19, 0 => some [(0, 0), (4, 1), (11, 0)]
  | 20, 0 => some [(0, 0), (3, 0), (4, 0), (5, 1), (20, 0), (21, 0), (22, 0)]
  | 23, 0 => some [(0, 0), (4, 1), (5, 0)]
  | 24, 0 => some [(0, 0), (3, 1), (4, 0)]
  | 24, 2 => some [(0, 0), (3, 1), (4, 0), (5, 1), (6, 0), (7, 0)]
  | 25, 0 => some [(0, 0), (3, 1), (4, 1), (5, 0)]
  | 28, 0 => some [(0, 0), (1, 0), (2, 0), (9, 0), (12, 0), (56, 0), (57, 0), (58, 0)]
  | 28, 2 => some [(1000015, 0), (17, 0), (79, 0), (80, 0), (81, 0)]
  | 29, 0 => some [(0, 0), (1, 0), (12, 0), (13, 0)]
  | 30, 0 => some [(0, 0), (1, 0), (2, 0), (8, 1), (9, 0)]
  | 30, 2 => some [(0, 0), (1, 0), (2, 0), (8, 1), (9, 0), (10, 0), (11, 0)]
  | 30, 4 => some [(0, 0), (8, 1), (13, 0)]
  | 32, 0 => some [(13, 0), (14, 0), (15, 0), (16, 1), (17, 0)]
  | 33, 0 => some [(0, 0), (1, 0), (7, 0), (8, 0)]
  | 34, 0 => some [(1, 0), (6, 0), (36, 0), (37, 0), (38, 0)]
  | 34, 2 => some [(1, 0), (6, 0), (7, 0), (8, 0), (9, 0), (36, 0), (37, 0), (38, 0)]
  | 36, 0 => some [(0, 0), (5, 1), (6, 1), (9, 0), (10, 0), (11, 0)]
  | 40, 0 => some [(0, 0), (3, 0)]
  | 40, 2 => some [(0, 0), (3, 0), (4, 0), (5, 0)]
  | 41, 0 => some [(0, 0), (1, 0), (6, 0), (7, 0), (8, 0)]
  | 42, 0 => some [(0, 0), (3, 1)]
  | 43, 0 => some [(0, 0), (1, 0), (6, 1), (7, 0), (8, 0)]
  | 43, 2 => some [(0, 0), (1, 0), (6, 1), (7, 0), (8, 0), (9, 0)]
  | 44, 1 => some [(1, 0), (6, 1), (7, 0)]
  | 44, 3 => some [(1, 0), (6, 1), (8, 0)]
  | 44, 5 => some [(1, 0), (6, 1), (9, 0), (10, 0)]
  | 44, 7 => some [(1, 0), (6, 1), (11, 0), (12, 1), (13, 0)]
  | 44, 9 => some [(1, 0), (6, 1), (11, 0), (12, 1), (14, 0)]
  | 44, 11 => some [(1, 0), (17, 0), (18, 1), (19, 0)]
  | 47, 0 => some [(7, 0), (8, 0)]
  | 48, 0 => some [(0, 0), (2, 0), (9, 0), (56, 0), (57, 0)]
  | 48, 2 => some [(0, 0), (2, 0), (9, 0), (10, 0), (11, 0), (56, 0), (57, 0)]
  | 49, 1 => some [(8, 1), (10, 0), (30, 0), (31, 0), (32, 0)]
  | 49, 3 => some [(8, 1), (14, 0), (52, 0), (53, 0), (54, 0)]
  | 49, 5 => some [(8, 1), (18, 0), (73, 0), (74, 0), (75, 0)]
  | 50, 1 => some [(7, 1), (21, 0), (23, 0), (24, 0)]
  | 50, 3 => some [(0, 0), (2, 0), (7, 1), (8, 0)]
  | 50, 5 => some [(0, 0), (2, 0), (7, 1), (9, 0), (10, 0)]
  | 50, 7 => some [(0, 0), (2, 0), (7, 1)]
  | 50, 9 => some [(0, 0), (2, 0), (7, 1), (11, 0), (12, 0), (13, 0)]
  | 50, 11 => some [(0, 0), (2, 0), (7, 1), (14, 0), (15, 1), (16, 0)]
  | 50, 13 => some [(0, 0), (7, 1), (14, 0), (15, 1), (19, 0), (20, 0)]
  | 51, 0 => some [(0, 0), (5, 0)]
  | 51, 2 => some [(0, 0), (5, 0), (6, 0), (7, 0)]
  | 53, 0 => some [(0, 0), (1, 0), (7, 1), (8, 0)]
  | 54, 0 => some [(3, 0), (6, 0), (7, 0), (8, 0)]
  | 55, 0 => some [(3, 1), (6, 0), (7, 0), (8, 0)]
  | 56, 0 => some [(3, 1), (4, 0), (7, 0), (8, 0), (9, 0)]
  | 57, 0 => some [(0, 0), (3, 1), (4, 0)]
  | 57, 2 => some [(0, 0), (3, 1), (4, 0), (5, 0)]
  | 58, 0 => some [(0, 0), (3, 0), (4, 0), (18, 0), (19, 0), (20, 0)]
  | 58, 2 => some [(3, 0), (4, 0), (7, 0), (47, 0), (48, 0), (49, 0)]
  | 59, 0 => some [(3, 0), (4, 0), (16, 0), (17, 0), (18, 0)]
  | 60, 0 => some [(0, 0), (1, 0), (2, 0), (3, 0), (8, 0), (9, 0)]
  | 64, 0 => some [(0, 0), (3, 0), (4, 0)]
  | 64, 2 => some [(0, 0), (3, 0), (4, 0)]
  | 66, 0 => some [(0, 0), (3, 1), (4, 0)]
  | 66, 2 => some [(0, 0), (3, 1), (4, 0), (5, 1), (6, 0), (7, 0)]
  | 67, 0 => some [(0, 0), (1, 0), (5, 0)]
  | 69, 2 => some [(0, 0), (1, 0), (6, 0), (7, 1), (8, 0)]
  | 70, 0 => some [(12, 0), (15, 1), (85, 0), (86, 0), (87, 0)]
  | 77, 0 => some [(0, 0), (1, 0), (6, 0), (7, 0), (8, 0)]
  | 79, 0 => some [(0, 0), (3, 0), (4, 0)]
  | 80, 0 => some [(0, 0), (1, 0), (2, 0), (6, 0)]
  | 80, 2 => some [(0, 0), (1, 0), (2, 0), (6, 0), (7, 0)]
  | 81, 0 => some [(0, 0), (6, 0), (7, 0), (8, 0), (9, 0)]
  | 81, 2 => some [(0, 0), (6, 0), (7, 0), (10, 0)]
  | 82, 0 => some [(0, 0), (1, 0), (6, 0), (7, 0), (8, 0), (9, 0)]
  | 84, 0 => some [(0, 0), (6, 0), (7, 0)]
  | 85, 0 => some [(0, 0), (1, 0), (2, 0), (7, 0), (8, 0)]
  | 85, 2 => some [(0, 0), (1, 0), (2, 0), (7, 0), (8, 0)]
  | 85, 4 => some [(0, 0), (1, 0), (2, 0), (7, 0), (8, 0), (9, 0)]
  | 85, 6 => some [(0, 0), (1, 0), (2, 0), (7, 0), (8, 0), (10, 0)]
  | 86, 0 => some [(0, 0), (1, 0), (9, 0), (10, 0)]
  | 86, 2 => some [(0, 0), (1, 0), (9, 0), (10, 0)]
  | 86, 4 => some [(0, 0), (1, 0), (9, 0), (10, 0)]
  | 87, 0 => some [(0, 0), (1, 0), (10, 0), (11, 0)]
  | 87, 2 => some [(0, 0), (1, 0), (10, 0), (11, 0)]
  | 87, 4 => some [(0, 0), (1, 0), (10, 0), (11, 0)]
  | 87, 6 => some [(0, 0), (1, 0), (10, 0), (11, 0)]
  | 87, 8 => some [(0, 0), (1, 0), (10, 0), (11, 0)]
  | 93, 0 => some [(0, 0), (1, 0), (5, 1)]
  | 94, 0 => some [(0, 0), (1, 0), (5, 0), (6, 1)]
  | 94, 2 => some [(0, 0), (5, 0), (6, 1), (9, 1), (104, 0), (105, 0), (106, 0)]
  | 95, 0 => some [(5, 0), (7, 1), (36, 0), (37, 0), (38, 0)]
  | 97, 0 => some [(0, 0), (11, 1), (45, 0), (46, 0), (47, 0)]
  | 98, 0 => some [(5, 0), (8, 0), (9, 0), (10, 0)]
  | 102, 0 => some [(0, 0), (3, 0)]
  | 102, 2 => some [(0, 0), (3, 0), (4, 0), (5, 0)]
  | 105, 0 => some [(0, 0), (2, 0), (3, 0), (8, 0)]
  | 112, 0 => some [(7, 0), (8, 0)]
  | 114, 0 => some [(0, 0), (1, 0), (2, 0), (3, 0), (8, 0), (9, 0)]
  | 117, 0 => some [(0, 0), (1, 0), (2, 0), (6, 0)]
  | 117, 2 => some [(0, 0), (1, 0), (2, 0), (6, 0), (7, 0)]
  | 118, 0 => some [(0, 0), (6, 0), (7, 0), (8, 0), (9, 0)]
  | 118, 2 => some [(0, 0), (6, 0), (7, 0), (10, 0)]
  | 119, 0 => some [(0, 0), (1, 0), (6, 0), (7, 0), (8, 0), (9, 0)]
  | 121, 0 => some [(0, 0), (6, 0), (7, 0)]
  | 122, 0 => some [(0, 0), (1, 0), (2, 0), (7, 0), (8, 0)]
  | 122, 2 => some [(0, 0), (1, 0), (2, 0), (7, 0), (8, 0)]
  | 122, 4 => some [(0, 0), (1, 0), (2, 0), (7, 0), (8, 0), (9, 0)]
  | 122, 6 => some [(0, 0), (1, 0), (2, 0), (7, 0), (8, 0), (10, 0)]
  | 123, 0 => some [(0, 0), (1, 0), (9, 0), (10, 0)]
  | 123, 2 => some [(0, 0), (1, 0), (9, 0), (10, 0)]
  | 123, 4 => some [(0, 0), (1, 0), (9, 0), (10, 0)]
  | 124, 0 => some [(0, 0), (1, 0), (10, 0), (11, 0)]
  | 124, 2 => some [(0, 0), (1, 0), (10, 0), (11, 0)]
  | 124, 4 => some [(0, 0), (1, 0), (10, 0), (11, 0)]
  | 124, 6 => some [(0, 0), (1, 0), (10, 0), (11, 0)]
  | 124, 8 => some [(0, 0), (1, 0), (10, 0), (11, 0)]
  | 125, 0 => some [(0, 0), (2, 0), (3, 0), (8, 0)]
  | _, _ => none
def G : Nat → Option (List D) := fun g => if [1000036, 1000039, 1000040, 1000047, 1000060, 1000080, 1000081, 1000082, 1000083, 1000084, 1000085, 1000086, 1000087, 1000101, 1000102, 1000105, 1000108, 1000109, 1000112, 1000114, 1000116, 1000117, 1000118, 1000119, 1000120, 1000121, 1000122, 1000123, 1000124, 1000125, 1000126, 1000127, 1000128, 2000038, 2000100, 3000035].contains g then some [] else none
@[simp] theorem br_2 : byRef G 2 = false := by decide +kernel
theorem sp_2 : splits G 2 = false := by decide +kernel
@[simp] theorem th_2 : thaws G 2 = false := by decide +kernel
@[simp] theorem br_3 : byRef G 3 = false := by decide +kernel
theorem sp_3 : splits G 3 = false := by decide +kernel
@[simp] theorem th_3 : thaws G 3 = false := by decide +kernel
@[simp] theorem br_4 : byRef G 4 = false := by decide +kernel
theorem sp_4 : splits G 4 = false := by decide +kernel
@[simp] theorem th_4 : thaws G 4 = false := by decide +kernel
@[simp] theorem br_5 : byRef G 5 = false := by decide +kernel
theorem sp_5 : splits G 5 = false := by decide +kernel
@[simp] theorem th_5 : thaws G 5 = false := by decide +kernel
@[simp] theorem br_6 : byRef G 6 = false := by decide +kernel
theorem sp_6 : splits G 6 = false := by decide +kernel
@[simp] theorem th_6 : thaws G 6 = false := by decide +kernel
@[simp] theorem br_7 : byRef G 7 = false := by decide +kernel
theorem sp_7 : splits G 7 = false := by decide +kernel
@[simp] theorem th_7 : thaws G 7 = false := by decide +kernel
@[simp] theorem br_8 : byRef G 8 = false := by decide +kernel
theorem sp_8 : splits G 8 = false := by decide +kernel
@[simp] theorem th_8 : thaws G 8 = false := by decide +kernel
@[simp] theorem br_9 : byRef G 9 = false := by decide +kernel
theorem sp_9 : splits G 9 = false := by decide +kernel
@[simp] theorem th_9 : thaws G 9 = false := by decide +kernel
@[simp] theorem br_10 : byRef G 10 = false := by decide +kernel
theorem sp_10 : splits G 10 = false := by decide +kernel
@[simp] theorem th_10 : thaws G 10 = false := by decide +kernel
@[simp] theorem br_11 : byRef G 11 = false := by decide +kernel
theorem sp_11 : splits G 11 = false := by decide +kernel
@[simp] theorem th_11 : thaws G 11 = false := by decide +kernel
@[simp] theorem br_12 : byRef G 12 = false := by decide +kernel
theorem sp_12 : splits G 12 = false := by decide +kernel
@[simp] theorem th_12 : thaws G 12 = false := by decide +kernel
@[simp] theorem br_13 : byRef G 13 = false := by decide +kernel
theorem sp_13 : splits G 13 = false := by decide +kernel
@[simp] theorem th_13 : thaws G 13 = false := by decide +kernel
@[simp] theorem br_14 : byRef G 14 = false := by decide +kernel
theorem sp_14 : splits G 14 = false := by decide +kernel
@[simp] theorem th_14 : thaws G 14 = false := by decide +kernel
@[simp] theorem br_15 : byRef G 15 = false := by decide +kernel
theorem sp_15 : splits G 15 = false := by decide +kernel
@[simp] theorem th_15 : thaws G 15 = false := by decide +kernel
@[simp] theorem br_16 : byRef G 16 = false := by decide +kernel
theorem sp_16 : splits G 16 = false := by decide +kernel
@[simp] theorem th_16 : thaws G 16 = false := by decide +kernel
@[simp] theorem br_17 : byRef G 17 = false := by decide +kernel
theorem sp_17 : splits G 17 = false := by decide +kernel
@[simp] theorem th_17 : thaws G 17 = false := by decide +kernel
@[simp] theorem br_18 : byRef G 18 = false := by decide +kernel
theorem sp_18 : splits G 18 = false := by decide +kernel
@[simp] theorem th_18 : thaws G 18 = false := by decide +kernel
@[simp] theorem br_19 : byRef G 19 = false := by decide +kernel
theorem sp_19 : splits G 19 = false := by decide +kernel
@[simp] theorem th_19 : thaws G 19 = false := by decide +kernel
@[simp] theorem br_20 : byRef G 20 = false := by decide +kernel
theorem sp_20 : splits G 20 = false := by decide +kernel
@[simp] theorem th_20 : thaws G 20 = false := by decide +kernel
@[simp] theorem br_21 : byRef G 21 = false := by decide +kernel
theorem sp_21 : splits G 21 = false := by decide +kernel
@[simp] theorem th_21 : thaws G 21 = false := by decide +kernel
@[simp] theorem br_22 : byRef G 22 = false := by decide +kernel
theorem sp_22 : splits G 22 = false := by decide +kernel
@[simp] theorem th_22 : thaws G 22 = false := by decide +kernel
@[simp] theorem br_23 : byRef G 23 = false := by decide +kernel
theorem sp_23 : splits G 23 = false := by decide +kernel
@[simp] theorem th_23 : thaws G 23 = false := by decide +kernel
@[simp] theorem br_24 : byRef G 24 = false := by decide +kernel
theorem sp_24 : splits G 24 = false := by decide +kernel
@[simp] theorem th_24 : thaws G 24 = false := by decide +kernel
@[simp] theorem br_25 : byRef G 25 = false := by decide +kernel
theorem sp_25 : splits G 25 = false := by decide +kernel
@[simp] theorem th_25 : thaws G 25 = false := by decide +kernel
@[simp] theorem br_26 : byRef G 26 = false := by decide +kernel
theorem sp_26 : splits G 26 = false := by decide +kernel
@[simp] theorem th_26 : thaws G 26 = false := by decide +kernel
@[simp] theorem br_27 : byRef G 27 = false := by decide +kernel
theorem sp_27 : splits G 27 = false := by decide +kernel
@[simp] theorem th_27 : thaws G 27 = false := by decide +kernel
@[simp] theorem br_28 : byRef G 28 = false := by decide +kernel
theorem sp_28 : splits G 28 = false := by decide +kernel
@[simp] theorem th_28 : thaws G 28 = false := by decide +kernel
@[simp] theorem br_29 : byRef G 29 = false := by decide +kernel
theorem sp_29 : splits G 29 = false := by decide +kernel
@[simp] theorem th_29 : thaws G 29 = false := by decide +kernel
@[simp] theorem br_30 : byRef G 30 = false := by decide +kernel
theorem sp_30 : splits G 30 = false := by decide +kernel
@[simp] theorem th_30 : thaws G 30 = false := by decide +kernel
@[simp] theorem br_31 : byRef G 31 = false := by decide +kernel
theorem sp_31 : splits G 31 = false := by decide +kernel
@[simp] theorem th_31 : thaws G 31 = false := by decide +kernel
@[simp] theorem br_32 : byRef G 32 = false := by decide +kernel
theorem sp_32 : splits G 32 = false := by decide +kernel
@[simp] theorem th_32 : thaws G 32 = false := by decide +kernel
@[simp] theorem br_33 : byRef G 33 = false := by decide +kernel
theorem sp_33 : splits G 33 = false := by decide +kernel
@[simp] theorem th_33 : thaws G 33 = false := by decide +kernel
@[simp] theorem br_34 : byRef G 34 = false := by decide +kernel
theorem sp_34 : splits G 34 = false := by decide +kernel
@[simp] theorem th_34 : thaws G 34 = false := by decide +kernel
@[simp] theorem br_35 : byRef G 35 = false := by decide +kernel
theorem sp_35 : splits G 35 = false := by decide +kernel
@[simp] theorem th_35 : thaws G 35 = true := by decide +kernel
@[simp] theorem br_36 : byRef G 36 = true := by decide +kernel
theorem sp_36 : splits G 36 = false := by decide +kernel
@[simp] theorem th_36 : thaws G 36 = false := by decide +kernel
@[simp] theorem br_37 : byRef G 37 = false := by decide +kernel
theorem sp_37 : splits G 37 = false := by decide +kernel
@[simp] theorem th_37 : thaws G 37 = false := by decide +kernel
@[simp] theorem br_38 : byRef G 38 = false := by decide +kernel
theorem sp_38 : splits G 38 = true := by decide +kernel
@[simp] theorem th_38 : thaws G 38 = false := by decide +kernel
@[simp] theorem br_39 : byRef G 39 = true := by decide +kernel
theorem sp_39 : splits G 39 = false := by decide +kernel
@[simp] theorem th_39 : thaws G 39 = false := by decide +kernel
@[simp] theorem br_40 : byRef G 40 = true := by decide +kernel
theorem sp_40 : splits G 40 = false := by decide +kernel
@[simp] theorem th_40 : thaws G 40 = false := by decide +kernel
@[simp] theorem br_41 : byRef G 41 = false := by decide +kernel
theorem sp_41 : splits G 41 = false := by decide +kernel
@[simp] theorem th_41 : thaws G 41 = false := by decide +kernel
@[simp] theorem br_42 : byRef G 42 = false := by decide +kernel
theorem sp_42 : splits G 42 = false := by decide +kernel
@[simp] theorem th_42 : thaws G 42 = false := by decide +kernel
@[simp] theorem br_43 : byRef G 43 = false := by decide +kernel
theorem sp_43 : splits G 43 = false := by decide +kernel
@[simp] theorem th_43 : thaws G 43 = false := by decide +kernel
@[simp] theorem br_44 : byRef G 44 = false := by decide +kernel
theorem sp_44 : splits G 44 = false := by decide +kernel
@[simp] theorem th_44 : thaws G 44 = false := by decide +kernel
@[simp] theorem br_45 : byRef G 45 = false := by decide +kernel
theorem sp_45 : splits G 45 = false := by decide +kernel
@[simp] theorem th_45 : thaws G 45 = false := by decide +kernel
@[simp] theorem br_46 : byRef G 46 = false := by decide +kernel
theorem sp_46 : splits G 46 = false := by decide +kernel
@[simp] theorem th_46 : thaws G 46 = false := by decide +kernel
@[simp] theorem br_47 : byRef G 47 = true := by decide +kernel
theorem sp_47 : splits G 47 = false := by decide +kernel
@[simp] theorem th_47 : thaws G 47 = false := by decide +kernel
@[simp] theorem br_48 : byRef G 48 = false := by decide +kernel
theorem sp_48 : splits G 48 = false := by decide +kernel
@[simp] theorem th_48 : thaws G 48 = false := by decide +kernel
@[simp] theorem br_49 : byRef G 49 = false := by decide +kernel
theorem sp_49 : splits G 49 = false := by decide +kernel
@[simp] theorem th_49 : thaws G 49 = false := by decide +kernel
@[simp] theorem br_50 : byRef G 50 = false := by decide +kernel
theorem sp_50 : splits G 50 = false := by decide +kernel
@[simp] theorem th_50 : thaws G 50 = false := by decide +kernel
@[simp] theorem br_51 : byRef G 51 = false := by decide +kernel
theorem sp_51 : splits G 51 = false := by decide +kernel
@[simp] theorem th_51 : thaws G 51 = false := by decide +kernel
@[simp] theorem br_52 : byRef G 52 = false := by decide +kernel
theorem sp_52 : splits G 52 = false := by decide +kernel
@[simp] theorem th_52 : thaws G 52 = false := by decide +kernel
@[simp] theorem br_53 : byRef G 53 = false := by decide +kernel
theorem sp_53 : splits G 53 = false := by decide +kernel
@[simp] theorem th_53 : thaws G 53 = false := by decide +kernel
@[simp] theorem br_54 : byRef G 54 = false := by decide +kernel
theorem sp_54 : splits G 54 = false := by decide +kernel
@[simp] theorem th_54 : thaws G 54 = false := by decide +kernel
@[simp] theorem br_55 : byRef G 55 = false := by decide +kernel
theorem sp_55 : splits G 55 = false := by decide +kernel
@[simp] theorem th_55 : thaws G 55 = false := by decide +kernel
@[simp] theorem br_56 : byRef G 56 = false := by decide +kernel
theorem sp_56 : splits G 56 = false := by decide +kernel
@[simp] theorem th_56 : thaws G 56 = false := by decide +kernel
@[simp] theorem br_57 : byRef G 57 = false := by decide +kernel
theorem sp_57 : splits G 57 = false := by decide +kernel
@[simp] theorem th_57 : thaws G 57 = false := by decide +kernel
@[simp] theorem br_58 : byRef G 58 = false := by decide +kernel
theorem sp_58 : splits G 58 = false := by decide +kernel
@[simp] theorem th_58 : thaws G 58 = false := by decide +kernel
@[simp] theorem br_59 : byRef G 59 = false := by decide +kernel
theorem sp_59 : splits G 59 = false := by decide +kernel
@[simp] theorem th_59 : thaws G 59 = false := by decide +kernel
@[simp] theorem br_60 : byRef G 60 = true := by decide +kernel
theorem sp_60 : splits G 60 = false := by decide +kernel
@[simp] theorem th_60 : thaws G 60 = false := by decide +kernel
@[simp] theorem br_61 : byRef G 61 = false := by decide +kernel
theorem sp_61 : splits G 61 = false := by decide +kernel
@[simp] theorem th_61 : thaws G 61 = false := by decide +kernel
@[simp] theorem br_62 : byRef G 62 = false := by decide +kernel
theorem sp_62 : splits G 62 = false := by decide +kernel
@[simp] theorem th_62 : thaws G 62 = false := by decide +kernel
@[simp] theorem br_63 : byRef G 63 = false := by decide +kernel
theorem sp_63 : splits G 63 = false := by decide +kernel
@[simp] theorem th_63 : thaws G 63 = false := by decide +kernel
@[simp] theorem br_64 : byRef G 64 = false := by decide +kernel
theorem sp_64 : splits G 64 = false := by decide +kernel
@[simp] theorem th_64 : thaws G 64 = false := by decide +kernel
@[simp] theorem br_65 : byRef G 65 = false := by decide +kernel
theorem sp_65 : splits G 65 = false := by decide +kernel
@[simp] theorem th_65 : thaws G 65 = false := by decide +kernel
@[simp] theorem br_66 : byRef G 66 = false := by decide +kernel
theorem sp_66 : splits G 66 = false := by decide +kernel
@[simp] theorem th_66 : thaws G 66 = false := by decide +kernel
@[simp] theorem br_67 : byRef G 67 = false := by decide +kernel
theorem sp_67 : splits G 67 = false := by decide +kernel
@[simp] theorem th_67 : thaws G 67 = false := by decide +kernel
@[simp] theorem br_68 : byRef G 68 = false := by decide +kernel
theorem sp_68 : splits G 68 = false := by decide +kernel
@[simp] theorem th_68 : thaws G 68 = false := by decide +kernel
@[simp] theorem br_69 : byRef G 69 = false := by decide +kernel
theorem sp_69 : splits G 69 = false := by decide +kernel
@[simp] theorem th_69 : thaws G 69 = false := by decide +kernel
@[simp] theorem br_70 : byRef G 70 = false := by decide +kernel
theorem sp_70 : splits G 70 = false := by decide +kernel
@[simp] theorem th_70 : thaws G 70 = false := by decide +kernel
@[simp] theorem br_71 : byRef G 71 = false := by decide +kernel
theorem sp_71 : splits G 71 = false := by decide +kernel
@[simp] theorem th_71 : thaws G 71 = false := by decide +kernel
@[simp] theorem br_72 : byRef G 72 = false := by decide +kernel
theorem sp_72 : splits G 72 = false := by decide +kernel
@[simp] theorem th_72 : thaws G 72 = false := by decide +kernel
@[simp] theorem br_73 : byRef G 73 = false := by decide +kernel
theorem sp_73 : splits G 73 = false := by decide +kernel
@[simp] theorem th_73 : thaws G 73 = false := by decide +kernel
@[simp] theorem br_74 : byRef G 74 = false := by decide +kernel
theorem sp_74 : splits G 74 = false := by decide +kernel
@[simp] theorem th_74 : thaws G 74 = false := by decide +kernel
@[simp] theorem br_75 : byRef G 75 = false := by decide +kernel
theorem sp_75 : splits G 75 = false := by decide +kernel
@[simp] theorem th_75 : thaws G 75 = false := by decide +kernel
@[simp] theorem br_76 : byRef G 76 = false := by decide +kernel
theorem sp_76 : splits G 76 = false := by decide +kernel
@[simp] theorem th_76 : thaws G 76 = false := by decide +kernel
@[simp] theorem br_77 : byRef G 77 = false := by decide +kernel
theorem sp_77 : splits G 77 = false := by decide +kernel
@[simp] theorem th_77 : thaws G 77 = false := by decide +kernel
@[simp] theorem br_78 : byRef G 78 = false := by decide +kernel
theorem sp_78 : splits G 78 = false := by decide +kernel
@[simp] theorem th_78 : thaws G 78 = false := by decide +kernel
@[simp] theorem br_79 : byRef G 79 = false := by decide +kernel
theorem sp_79 : splits G 79 = false := by decide +kernel
@[simp] theorem th_79 : thaws G 79 = false := by decide +kernel
@[simp] theorem br_80 : byRef G 80 = true := by decide +kernel
theorem sp_80 : splits G 80 = false := by decide +kernel
@[simp] theorem th_80 : thaws G 80 = false := by decide +kernel
@[simp] theorem br_81 : byRef G 81 = true := by decide +kernel
theorem sp_81 : splits G 81 = false := by decide +kernel
@[simp] theorem th_81 : thaws G 81 = false := by decide +kernel
@[simp] theorem br_82 : byRef G 82 = true := by decide +kernel
theorem sp_82 : splits G 82 = false := by decide +kernel
@[simp] theorem th_82 : thaws G 82 = false := by decide +kernel
@[simp] theorem br_83 : byRef G 83 = true := by decide +kernel
theorem sp_83 : splits G 83 = false := by decide +kernel
@[simp] theorem th_83 : thaws G 83 = false := by decide +kernel
@[simp] theorem br_84 : byRef G 84 = true := by decide +kernel
theorem sp_84 : splits G 84 = false := by decide +kernel
@[simp] theorem th_84 : thaws G 84 = false := by decide +kernel
@[simp] theorem br_85 : byRef G 85 = true := by decide +kernel
theorem sp_85 : splits G 85 = false := by decide +kernel
@[simp] theorem th_85 : thaws G 85 = false := by decide +kernel
@[simp] theorem br_86 : byRef G 86 = true := by decide +kernel
theorem sp_86 : splits G 86 = false := by decide +kernel
@[simp] theorem th_86 : thaws G 86 = false := by decide +kernel
@[simp] theorem br_87 : byRef G 87 = true := by decide +kernel
theorem sp_87 : splits G 87 = false := by decide +kernel
@[simp] theorem th_87 : thaws G 87 = false := by decide +kernel
@[simp] theorem br_88 : byRef G 88 = false := by decide +kernel
theorem sp_88 : splits G 88 = false := by decide +kernel
@[simp] theorem th_88 : thaws G 88 = false := by decide +kernel
@[simp] theorem br_89 : byRef G 89 = false := by decide +kernel
theorem sp_89 : splits G 89 = false := by decide +kernel
@[simp] theorem th_89 : thaws G 89 = false := by decide +kernel
@[simp] theorem br_90 : byRef G 90 = false := by decide +kernel
theorem sp_90 : splits G 90 = false := by decide +kernel
@[simp] theorem th_90 : thaws G 90 = false := by decide +kernel
@[simp] theorem br_91 : byRef G 91 = false := by decide +kernel
theorem sp_91 : splits G 91 = false := by decide +kernel
@[simp] theorem th_91 : thaws G 91 = false := by decide +kernel
@[simp] theorem br_92 : byRef G 92 = false := by decide +kernel
theorem sp_92 : splits G 92 = false := by decide +kernel
@[simp] theorem th_92 : thaws G 92 = false := by decide +kernel
@[simp] theorem br_93 : byRef G 93 = false := by decide +kernel
theorem sp_93 : splits G 93 = false := by decide +kernel
@[simp] theorem th_93 : thaws G 93 = false := by decide +kernel
@[simp] theorem br_94 : byRef G 94 = false := by decide +kernel
theorem sp_94 : splits G 94 = false := by decide +kernel
@[simp] theorem th_94 : thaws G 94 = false := by decide +kernel
@[simp] theorem br_95 : byRef G 95 = false := by decide +kernel
theorem sp_95 : splits G 95 = false := by decide +kernel
@[simp] theorem th_95 : thaws G 95 = false := by decide +kernel
@[simp] theorem br_96 : byRef G 96 = false := by decide +kernel
theorem sp_96 : splits G 96 = false := by decide +kernel
@[simp] theorem th_96 : thaws G 96 = false := by decide +kernel
@[simp] theorem br_97 : byRef G 97 = false := by decide +kernel
theorem sp_97 : splits G 97 = false := by decide +kernel
@[simp] theorem th_97 : thaws G 97 = false := by decide +kernel
@[simp] theorem br_98 : byRef G 98 = false := by decide +kernel
theorem sp_98 : splits G 98 = false := by decide +kernel
@[simp] theorem th_98 : thaws G 98 = false := by decide +kernel
@[simp] theorem br_99 : byRef G 99 = false := by decide +kernel
theorem sp_99 : splits G 99 = false := by decide +kernel
@[simp] theorem th_99 : thaws G 99 = false := by decide +kernel
@[simp] theorem br_100 : byRef G 100 = false := by decide +kernel
theorem sp_100 : splits G 100 = true := by decide +kernel
@[simp] theorem th_100 : thaws G 100 = false := by decide +kernel
@[simp] theorem br_101 : byRef G 101 = true := by decide +kernel
theorem sp_101 : splits G 101 = false := by decide +kernel
@[simp] theorem th_101 : thaws G 101 = false := by decide +kernel
@[simp] theorem br_102 : byRef G 102 = true := by decide +kernel
theorem sp_102 : splits G 102 = false := by decide +kernel
@[simp] theorem th_102 : thaws G 102 = false := by decide +kernel
@[simp] theorem br_103 : byRef G 103 = false := by decide +kernel
theorem sp_103 : splits G 103 = false := by decide +kernel
@[simp] theorem th_103 : thaws G 103 = false := by decide +kernel
@[simp] theorem br_104 : byRef G 104 = false := by decide +kernel
theorem sp_104 : splits G 104 = false := by decide +kernel
@[simp] theorem th_104 : thaws G 104 = false := by decide +kernel
@[simp] theorem br_105 : byRef G 105 = true := by decide +kernel
theorem sp_105 : splits G 105 = false := by decide +kernel
@[simp] theorem th_105 : thaws G 105 = false := by decide +kernel
@[simp] theorem br_106 : byRef G 106 = false := by decide +kernel
theorem sp_106 : splits G 106 = false := by decide +kernel
@[simp] theorem th_106 : thaws G 106 = false := by decide +kernel
@[simp] theorem br_107 : byRef G 107 = false := by decide +kernel
theorem sp_107 : splits G 107 = false := by decide +kernel
@[simp] theorem th_107 : thaws G 107 = false := by decide +kernel
@[simp] theorem br_108 : byRef G 108 = true := by decide +kernel
theorem sp_108 : splits G 108 = false := by decide +kernel
@[simp] theorem th_108 : thaws G 108 = false := by decide +kernel
@[simp] theorem br_109 : byRef G 109 = true := by decide +kernel
theorem sp_109 : splits G 109 = false := by decide +kernel
@[simp] theorem th_109 : thaws G 109 = false := by decide +kernel
@[simp] theorem br_110 : byRef G 110 = false := by decide +kernel
theorem sp_110 : splits G 110 = false := by decide +kernel
@[simp] theorem th_110 : thaws G 110 = false := by decide +kernel
@[simp] theorem br_111 : byRef G 111 = false := by decide +kernel
theorem sp_111 : splits G 111 = false := by decide +kernel
@[simp] theorem th_111 : thaws G 111 = false := by decide +kernel
@[simp] theorem br_112 : byRef G 112 = true := by decide +kernel
theorem sp_112 : splits G 112 = false := by decide +kernel
@[simp] theorem th_112 : thaws G 112 = false := by decide +kernel
@[simp] theorem br_113 : byRef G 113 = false := by decide +kernel
theorem sp_113 : splits G 113 = false := by decide +kernel
@[simp] theorem th_113 : thaws G 113 = false := by decide +kernel
@[simp] theorem br_114 : byRef G 114 = true := by decide +kernel
theorem sp_114 : splits G 114 = false := by decide +kernel
@[simp] theorem th_114 : thaws G 114 = false := by decide +kernel
@[simp] theorem br_115 : byRef G 115 = false := by decide +kernel
theorem sp_115 : splits G 115 = false := by decide +kernel
@[simp] theorem th_115 : thaws G 115 = false := by decide +kernel
@[simp] theorem br_116 : byRef G 116 = true := by decide +kernel
theorem sp_116 : splits G 116 = false := by decide +kernel
@[simp] theorem th_116 : thaws G 116 = false := by decide +kernel
@[simp] theorem br_117 : byRef G 117 = true := by decide +kernel
theorem sp_117 : splits G 117 = false := by decide +kernel
@[simp] theorem th_117 : thaws G 117 = false := by decide +kernel
@[simp] theorem br_118 : byRef G 118 = true := by decide +kernel
theorem sp_118 : splits G 118 = false := by decide +kernel
@[simp] theorem th_118 : thaws G 118 = false := by decide +kernel
@[simp] theorem br_119 : byRef G 119 = true := by decide +kernel
theorem sp_119 : splits G 119 = false := by decide +kernel
@[simp] theorem th_119 : thaws G 119 = false := by decide +kernel
@[simp] theorem br_120 : byRef G 120 = true := by decide +kernel
theorem sp_120 : splits G 120 = false := by decide +kernel
@[simp] theorem th_120 : thaws G 120 = false := by decide +kernel
@[simp] theorem br_121 : byRef G 121 = true := by decide +kernel
theorem sp_121 : splits G 121 = false := by decide +kernel
@[simp] theorem th_121 : thaws G 121 = false := by decide +kernel
@[simp] theorem br_122 : byRef G 122 = true := by decide +kernel
theorem sp_122 : splits G 122 = false := by decide +kernel
@[simp] theorem th_122 : thaws G 122 = false := by decide +kernel
@[simp] theorem br_123 : byRef G 123 = true := by decide +kernel
theorem sp_123 : splits G 123 = false := by decide +kernel
@[simp] theorem th_123 : thaws G 123 = false := by decide +kernel
@[simp] theorem br_124 : byRef G 124 = true := by decide +kernel
theorem sp_124 : splits G 124 = false := by decide +kernel
@[simp] theorem th_124 : thaws G 124 = false := by decide +kernel
@[simp] theorem br_125 : byRef G 125 = true := by decide +kernel
theorem sp_125 : splits G 125 = false := by decide +kernel
@[simp] theorem th_125 : thaws G 125 = false := by decide +kernel
@[simp] theorem br_126 : byRef G 126 = true := by decide +kernel
theorem sp_126 : splits G 126 = false := by decide +kernel
@[simp] theorem th_126 : thaws G 126 = false := by decide +kernel
@[simp] theorem br_127 : byRef G 127 = true := by decide +kernel
theorem sp_127 : splits G 127 = false := by decide +kernel
@[simp] theorem th_127 : thaws G 127 = false := by decide +kernel
@[simp] theorem br_128 : byRef G 128 = true := by decide +kernel
theorem sp_128 : splits G 128 = false := by decide +kernel
@[simp] theorem th_128 : thaws G 128 = false := by decide +kernel
def Hn : Hints := fun f r => match f, r with
  | 28, 31 => [6]
  | 51, 15 => [6, 7]
  | 92, 4 => [8]
  | 111, 4 => [8]
  | _, _ => []
@[simp] theorem K_6_0 : K 6 0 = some [(0, 0), (1, 0), (26, 0), (27, 0), (28, 0)] := rfl
@[simp] theorem K_6_2 : K 6 2 = some [(0, 0), (8, 0), (9, 1), (10, 1), (11, 1), (47, 0), (48, 0), (49, 0)] := rfl
@[simp] theorem K_7_0 : K 7 0 = some [(0, 0), (3, 1), (4, 0)] := rfl
@[simp] theorem K_8_0 : K 8 0 = some [(0, 0), (1, 0), (6, 0)] := rfl
@[simp] theorem K_8_2 : K 8 2 = some [(0, 0), (1, 0), (8, 1), (9, 1), (10, 1), (11, 1), (12, 0), (13, 0)] := rfl
@[simp] theorem K_8_4 : K 8 4 = some [(11, 1), (15, 0), (18, 0), (19, 1), (20, 0)] := rfl
@[simp] theorem K_8_6 : K 8 6 = some [(11, 1), (15, 0), (18, 0), (19, 1), (20, 0), (21, 0)] := rfl
@[simp] theorem K_9_0 : K 9 0 = some [(0, 0), (3, 3), (4, 0)] := rfl
@[simp] theorem K_11_0 : K 11 0 = some [(0, 0), (1, 0), (2, 0), (8, 1), (9, 0)] := rfl
@[simp] theorem K_11_2 : K 11 2 = some [(0, 0), (1, 0), (2, 0), (8, 1), (10, 0), (13, 0), (14, 0)] := rfl
@[simp] theorem K_11_5 : K 11 5 = some [(0, 0), (1, 0), (2, 0), (8, 1), (15, 3), (22, 0), (24, 0)] := rfl
@[simp] theorem K_11_7 : K 11 7 = some [(0, 0), (1, 0), (2, 0), (8, 1), (15, 3), (16, 0), (18, 0)] := rfl
@[simp] theorem K_11_9 : K 11 9 = some [(0, 0), (1, 0), (2, 0), (8, 1), (15, 3), (19, 0), (21, 0)] := rfl
@[simp] theorem K_11_11 : K 11 11 = some [(0, 0), (1, 0), (2, 0), (8, 1), (15, 3), (25, 3), (26, 0), (27, 0)] := rfl
@[simp] theorem K_12_0 : K 12 0 = some [(0, 0), (1, 0), (5, 0)] := rfl
@[simp] theorem K_13_0 : K 13 0 = some [(0, 0), (3, 3), (4, 0)] := rfl
@[simp] theorem K_18_0 : K 18 0 = some [(3, 0), (11, 0), (12, 0), (13, 0)] := rfl
@[simp] theorem K_19_0 : K 19 0 = some [(0, 0), (4, 1), (11, 0)] := rfl
@[simp] theorem K_20_0 : K 20 0 = some [(0, 0), (3, 0), (4, 0), (5, 1), (20, 0), (21, 0), (22, 0)] := rfl
@[simp] theorem K_23_0 : K 23 0 = some [(0, 0), (4, 1), (5, 0)] := rfl
@[simp] theorem K_24_0 : K 24 0 = some [(0, 0), (3, 1), (4, 0)] := rfl
@[simp] theorem K_24_2 : K 24 2 = some [(0, 0), (3, 1), (4, 0), (5, 1), (6, 0), (7, 0)] := rfl
@[simp] theorem K_25_0 : K 25 0 = some [(0, 0), (3, 1), (4, 1), (5, 0)] := rfl
@[simp] theorem K_28_0 : K 28 0 = some [(0, 0), (1, 0), (2, 0), (9, 0), (12, 0), (56, 0), (57, 0), (58, 0)] := rfl
@[simp] theorem K_28_2 : K 28 2 = some [(1000015, 0), (17, 0), (79, 0), (80, 0), (81, 0)] := rfl
@[simp] theorem K_29_0 : K 29 0 = some [(0, 0), (1, 0), (12, 0), (13, 0)] := rfl
@[simp] theorem K_30_0 : K 30 0 = some [(0, 0), (1, 0), (2, 0), (8, 1), (9, 0)] := rfl
@[simp] theorem K_30_2 : K 30 2 = some [(0, 0), (1, 0), (2, 0), (8, 1), (9, 0), (10, 0), (11, 0)] := rfl
@[simp] theorem K_30_4 : K 30 4 = some [(0, 0), (8, 1), (13, 0)] := rfl
@[simp] theorem K_32_0 : K 32 0 = some [(13, 0), (14, 0), (15, 0), (16, 1), (17, 0)] := rfl
@[simp] theorem K_33_0 : K 33 0 = some [(0, 0), (1, 0), (7, 0), (8, 0)] := rfl
@[simp] theorem K_34_0 : K 34 0 = some [(1, 0), (6, 0), (36, 0), (37, 0), (38, 0)] := rfl
@[simp] theorem K_34_2 : K 34 2 = some [(1, 0), (6, 0), (7, 0), (8, 0), (9, 0), (36, 0), (37, 0), (38, 0)] := rfl
@[simp] theorem K_36_0 : K 36 0 = some [(0, 0), (5, 1), (6, 1), (9, 0), (10, 0), (11, 0)] := rfl
@[simp] theorem K_40_0 : K 40 0 = some [(0, 0), (3, 0)] := rfl
@[simp] theorem K_40_2 : K 40 2 = some [(0, 0), (3, 0), (4, 0), (5, 0)] := rfl
@[simp] theorem K_41_0 : K 41 0 = some [(0, 0), (1, 0), (6, 0), (7, 0), (8, 0)] := rfl
@[simp] theorem K_42_0 : K 42 0 = some [(0, 0), (3, 1)] := rfl
@[simp] theorem K_43_0 : K 43 0 = some [(0, 0), (1, 0), (6, 1), (7, 0), (8, 0)] := rfl
@[simp] theorem K_43_2 : K 43 2 = some [(0, 0), (1, 0), (6, 1), (7, 0), (8, 0), (9, 0)] := rfl
@[simp] theorem K_44_1 : K 44 1 = some [(1, 0), (6, 1), (7, 0)] := rfl
@[simp] theorem K_44_3 : K 44 3 = some [(1, 0), (6, 1), (8, 0)] := rfl
@[simp] theorem K_44_5 : K 44 5 = some [(1, 0), (6, 1), (9, 0), (10, 0)] := rfl
@[simp] theorem K_44_7 : K 44 7 = some [(1, 0), (6, 1), (11, 0), (12, 1), (13, 0)] := rfl
@[simp] theorem K_44_9 : K 44 9 = some [(1, 0), (6, 1), (11, 0), (12, 1), (14, 0)] := rfl
@[simp] theorem K_44_11 : K 44 11 = some [(1, 0), (17, 0), (18, 1), (19, 0)] := rfl
@[simp] theorem K_47_0 : K 47 0 = some [(7, 0), (8, 0)] := rfl
@[simp] theorem K_48_0 : K 48 0 = some [(0, 0), (2, 0), (9, 0), (56, 0), (57, 0)] := rfl
@[simp] theorem K_48_2 : K 48 2 = some [(0, 0), (2, 0), (9, 0), (10, 0), (11, 0), (56, 0), (57, 0)] := rfl
@[simp] theorem K_49_1 : K 49 1 = some [(8, 1), (10, 0), (30, 0), (31, 0), (32, 0)] := rfl
@[simp] theorem K_49_3 : K 49 3 = some [(8, 1), (14, 0), (52, 0), (53, 0), (54, 0)] := rfl
@[simp] theorem K_49_5 : K 49 5 = some [(8, 1), (18, 0), (73, 0), (74, 0), (75, 0)] := rfl
@[simp] theorem K_50_1 : K 50 1 = some [(7, 1), (21, 0), (23, 0), (24, 0)] := rfl
@[simp] theorem K_50_3 : K 50 3 = some [(0, 0), (2, 0), (7, 1), (8, 0)] := rfl
@[simp] theorem K_50_5 : K 50 5 = some [(0, 0), (2, 0), (7, 1), (9, 0), (10, 0)] := rfl
@[simp] theorem K_50_7 : K 50 7 = some [(0, 0), (2, 0), (7, 1)] := rfl
@[simp] theorem K_50_9 : K 50 9 = some [(0, 0), (2, 0), (7, 1), (11, 0), (12, 0), (13, 0)] := rfl
@[simp] theorem K_50_11 : K 50 11 = some [(0, 0), (2, 0), (7, 1), (14, 0), (15, 1), (16, 0)] := rfl
@[simp] theorem K_50_13 : K 50 13 = some [(0, 0), (7, 1), (14, 0), (15, 1), (19, 0), (20, 0)] := rfl
@[simp] theorem K_51_0 : K 51 0 = some [(0, 0), (5, 0)] := rfl
@[simp] theorem K_51_2 : K 51 2 = some [(0, 0), (5, 0), (6, 0), (7, 0)] := rfl
@[simp] theorem K_53_0 : K 53 0 = some [(0, 0), (1, 0), (7, 1), (8, 0)] := rfl
@[simp] theorem K_54_0 : K 54 0 = some [(3, 0), (6, 0), (7, 0), (8, 0)] := rfl
@[simp] theorem K_55_0 : K 55 0 = some [(3, 1), (6, 0), (7, 0), (8, 0)] := rfl
@[simp] theorem K_56_0 : K 56 0 = some [(3, 1), (4, 0), (7, 0), (8, 0), (9, 0)] := rfl
@[simp] theorem K_57_0 : K 57 0 = some [(0, 0), (3, 1), (4, 0)] := rfl
@[simp] theorem K_57_2 : K 57 2 = some [(0, 0), (3, 1), (4, 0), (5, 0)] := rfl
@[simp] theorem K_58_0 : K 58 0 = some [(0, 0), (3, 0), (4, 0), (18, 0), (19, 0), (20, 0)] := rfl
@[simp] theorem K_58_2 : K 58 2 = some [(3, 0), (4, 0), (7, 0), (47, 0), (48, 0), (49, 0)] := rfl
@[simp] theorem K_59_0 : K 59 0 = some [(3, 0), (4, 0), (16, 0), (17, 0), (18, 0)] := rfl
@[simp] theorem K_60_0 : K 60 0 = some [(0, 0), (1, 0), (2, 0), (3, 0), (8, 0), (9, 0)] := rfl
@[simp] theorem K_64_0 : K 64 0 = some [(0, 0), (3, 0), (4, 0)] := rfl
@[simp] theorem K_64_2 : K 64 2 = some [(0, 0), (3, 0), (4, 0)] := rfl
@[simp] theorem K_66_0 : K 66 0 = some [(0, 0), (3, 1), (4, 0)] := rfl
@[simp] theorem K_66_2 : K 66 2 = some [(0, 0), (3, 1), (4, 0), (5, 1), (6, 0), (7, 0)] := rfl
@[simp] theorem K_67_0 : K 67 0 = some [(0, 0), (1, 0), (5, 0)] := rfl
@[simp] theorem K_69_2 : K 69 2 = some [(0, 0), (1, 0), (6, 0), (7, 1), (8, 0)] := rfl
@[simp] theorem K_70_0 : K 70 0 = some [(12, 0), (15, 1), (85, 0), (86, 0), (87, 0)] := rfl
@[simp] theorem K_77_0 : K 77 0 = some [(0, 0), (1, 0), (6, 0), (7, 0), (8, 0)] := rfl
@[simp] theorem K_79_0 : K 79 0 = some [(0, 0), (3, 0), (4, 0)] := rfl
@[simp] theorem K_80_0 : K 80 0 = some [(0, 0), (1, 0), (2, 0), (6, 0)] := rfl
@[simp] theorem K_80_2 : K 80 2 = some [(0, 0), (1, 0), (2, 0), (6, 0), (7, 0)] := rfl
@[simp] theorem K_81_0 : K 81 0 = some [(0, 0), (6, 0), (7, 0), (8, 0), (9, 0)] := rfl
@[simp] theorem K_81_2 : K 81 2 = some [(0, 0), (6, 0), (7, 0), (10, 0)] := rfl
@[simp] theorem K_82_0 : K 82 0 = some [(0, 0), (1, 0), (6, 0), (7, 0), (8, 0), (9, 0)] := rfl
@[simp] theorem K_84_0 : K 84 0 = some [(0, 0), (6, 0), (7, 0)] := rfl
@[simp] theorem K_85_0 : K 85 0 = some [(0, 0), (1, 0), (2, 0), (7, 0), (8, 0)] := rfl
@[simp] theorem K_85_2 : K 85 2 = some [(0, 0), (1, 0), (2, 0), (7, 0), (8, 0)] := rfl
@[simp] theorem K_85_4 : K 85 4 = some [(0, 0), (1, 0), (2, 0), (7, 0), (8, 0), (9, 0)] := rfl
@[simp] theorem K_85_6 : K 85 6 = some [(0, 0), (1, 0), (2, 0), (7, 0), (8, 0), (10, 0)] := rfl
@[simp] theorem K_86_0 : K 86 0 = some [(0, 0), (1, 0), (9, 0), (10, 0)] := rfl
@[simp] theorem K_86_2 : K 86 2 = some [(0, 0), (1, 0), (9, 0), (10, 0)] := rfl
@[simp] theorem K_86_4 : K 86 4 = some [(0, 0), (1, 0), (9, 0), (10, 0)] := rfl
@[simp] theorem K_87_0 : K 87 0 = some [(0, 0), (1, 0), (10, 0), (11, 0)] := rfl
@[simp] theorem K_87_2 : K 87 2 = some [(0, 0), (1, 0), (10, 0), (11, 0)] := rfl
@[simp] theorem K_87_4 : K 87 4 = some [(0, 0), (1, 0), (10, 0), (11, 0)] := rfl
@[simp] theorem K_87_6 : K 87 6 = some [(0, 0), (1, 0), (10, 0), (11, 0)] := rfl
@[simp] theorem K_87_8 : K 87 8 = some [(0, 0), (1, 0), (10, 0), (11, 0)] := rfl
@[simp] theorem K_93_0 : K 93 0 = some [(0, 0), (1, 0), (5, 1)] := rfl
@[simp] theorem K_94_0 : K 94 0 = some [(0, 0), (1, 0), (5, 0), (6, 1)] := rfl
@[simp] theorem K_94_2 : K 94 2 = some [(0, 0), (5, 0), (6, 1), (9, 1), (104, 0), (105, 0), (106, 0)] := rfl
@[simp] theorem K_95_0 : K 95 0 = some [(5, 0), (7, 1), (36, 0), (37, 0), (38, 0)] := rfl
@[simp] theorem K_97_0 : K 97 0 = some [(0, 0), (11, 1), (45, 0), (46, 0), (47, 0)] := rfl
@[simp] theorem K_98_0 : K 98 0 = some [(5, 0), (8, 0), (9, 0), (10, 0)] := rfl
@[simp] theorem K_102_0 : K 102 0 = some [(0, 0), (3, 0)] := rfl
@[simp] theorem K_102_2 : K 102 2 = some [(0, 0), (3, 0), (4, 0), (5, 0)] := rfl
@[simp] theorem K_105_0 : K 105 0 = some [(0, 0), (2, 0), (3, 0), (8, 0)] := rfl
@[simp] theorem K_112_0 : K 112 0 = some [(7, 0), (8, 0)] := rfl
@[simp] theorem K_114_0 : K 114 0 = some [(0, 0), (1, 0), (2, 0), (3, 0), (8, 0), (9, 0)] := rfl
@[simp] theorem K_117_0 : K 117 0 = some [(0, 0), (1, 0), (2, 0), (6, 0)] := rfl
@[simp] theorem K_117_2 : K 117 2 = some [(0, 0), (1, 0), (2, 0), (6, 0), (7, 0)] := rfl
@[simp] theorem K_118_0 : K 118 0 = some [(0, 0), (6, 0), (7, 0), (8, 0), (9, 0)] := rfl
@[simp] theorem K_118_2 : K 118 2 = some [(0, 0), (6, 0), (7, 0), (10, 0)] := rfl
@[simp] theorem K_119_0 : K 119 0 = some [(0, 0), (1, 0), (6, 0), (7, 0), (8, 0), (9, 0)] := rfl
@[simp] theorem K_121_0 : K 121 0 = some [(0, 0), (6, 0), (7, 0)] := rfl
@[simp] theorem K_122_0 : K 122 0 = some [(0, 0), (1, 0), (2, 0), (7, 0), (8, 0)] := rfl
@[simp] theorem K_122_2 : K 122 2 = some [(0, 0), (1, 0), (2, 0), (7, 0), (8, 0)] := rfl
@[simp] theorem K_122_4 : K 122 4 = some [(0, 0), (1, 0), (2, 0), (7, 0), (8, 0), (9, 0)] := rfl
@[simp] theorem K_122_6 : K 122 6 = some [(0, 0), (1, 0), (2, 0), (7, 0), (8, 0), (10, 0)] := rfl
@[simp] theorem K_123_0 : K 123 0 = some [(0, 0), (1, 0), (9, 0), (10, 0)] := rfl
@[simp] theorem K_123_2 : K 123 2 = some [(0, 0), (1, 0), (9, 0), (10, 0)] := rfl
@[simp] theorem K_123_4 : K 123 4 = some [(0, 0), (1, 0), (9, 0), (10, 0)] := rfl
@[simp] theorem K_124_0 : K 124 0 = some [(0, 0), (1, 0), (10, 0), (11, 0)] := rfl
@[simp] theorem K_124_2 : K 124 2 = some [(0, 0), (1, 0), (10, 0), (11, 0)] := rfl
@[simp] theorem K_124_4 : K 124 4 = some [(0, 0), (1, 0), (10, 0), (11, 0)] := rfl
@[simp] theorem K_124_6 : K 124 6 = some [(0, 0), (1, 0), (10, 0), (11, 0)] := rfl
@[simp] theorem K_124_8 : K 124 8 = some [(0, 0), (1, 0), (10, 0), (11, 0)] := rfl
@[simp] theorem K_125_0 : K 125 0 = some [(0, 0), (2, 0), (3, 0), (8, 0)] := rfl
@[simp] theorem Hn_8_42 : Hn 8 42 = [] := rfl
@[simp] theorem Hn_11_57 : Hn 11 57 = [] := rfl
@[simp] theorem Hn_12_6 : Hn 12 6 = [] := rfl
@[simp] theorem Hn_24_10 : Hn 24 10 = [] := rfl
@[simp] theorem Hn_24_12 : Hn 24 12 = [] := rfl
@[simp] theorem Hn_28_31 : Hn 28 31 = [6] := rfl
@[simp] theorem Hn_29_6 : Hn 29 6 = [] := rfl
@[simp] theorem Hn_31_13 : Hn 31 13 = [] := rfl
@[simp] theorem Hn_31_16 : Hn 31 16 = [] := rfl
@[simp] theorem Hn_34_11 : Hn 34 11 = [] := rfl
@[simp] theorem Hn_40_6 : Hn 40 6 = [] := rfl
@[simp] theorem Hn_40_11 : Hn 40 11 = [] := rfl
@[simp] theorem Hn_44_16 : Hn 44 16 = [] := rfl
@[simp] theorem Hn_44_23 : Hn 44 23 = [] := rfl
@[simp] theorem Hn_44_36 : Hn 44 36 = [] := rfl
@[simp] theorem Hn_47_9 : Hn 47 9 = [] := rfl
@[simp] theorem Hn_48_16 : Hn 48 16 = [] := rfl
@[simp] theorem Hn_51_15 : Hn 51 15 = [6, 7] := rfl
@[simp] theorem Hn_52_5 : Hn 52 5 = [] := rfl
@[simp] theorem Hn_57_5 : Hn 57 5 = [] := rfl
@[simp] theorem Hn_60_17 : Hn 60 17 = [] := rfl
@[simp] theorem Hn_66_10 : Hn 66 10 = [] := rfl
@[simp] theorem Hn_66_12 : Hn 66 12 = [] := rfl
@[simp] theorem Hn_69_29 : Hn 69 29 = [] := rfl
@[simp] theorem Hn_80_4 : Hn 80 4 = [] := rfl
@[simp] theorem Hn_80_6 : Hn 80 6 = [] := rfl
@[simp] theorem Hn_81_10 : Hn 81 10 = [] := rfl
@[simp] theorem Hn_82_10 : Hn 82 10 = [] := rfl
@[simp] theorem Hn_84_3 : Hn 84 3 = [] := rfl
@[simp] theorem Hn_85_5 : Hn 85 5 = [] := rfl
@[simp] theorem Hn_85_11 : Hn 85 11 = [] := rfl
@[simp] theorem Hn_85_16 : Hn 85 16 = [] := rfl
@[simp] theorem Hn_85_17 : Hn 85 17 = [] := rfl
@[simp] theorem Hn_85_22 : Hn 85 22 = [] := rfl
@[simp] theorem Hn_85_23 : Hn 85 23 = [] := rfl
@[simp] theorem Hn_86_1 : Hn 86 1 = [] := rfl
@[simp] theorem Hn_86_3 : Hn 86 3 = [] := rfl
@[simp] theorem Hn_86_5 : Hn 86 5 = [] := rfl
@[simp] theorem Hn_86_8 : Hn 86 8 = [] := rfl
@[simp] theorem Hn_87_1 : Hn 87 1 = [] := rfl
@[simp] theorem Hn_87_3 : Hn 87 3 = [] := rfl
@[simp] theorem Hn_87_5 : Hn 87 5 = [] := rfl
@[simp] theorem Hn_87_8 : Hn 87 8 = [] := rfl
@[simp] theorem Hn_87_10 : Hn 87 10 = [] := rfl
@[simp] theorem Hn_87_13 : Hn 87 13 = [] := rfl
@[simp] theorem Hn_87_15 : Hn 87 15 = [] := rfl
@[simp] theorem Hn_87_18 : Hn 87 18 = [] := rfl
@[simp] theorem Hn_87_21 : Hn 87 21 = [] := rfl
@[simp] theorem Hn_92_4 : Hn 92 4 = [8] := rfl
@[simp] theorem Hn_102_6 : Hn 102 6 = [] := rfl
@[simp] theorem Hn_102_11 : Hn 102 11 = [] := rfl
@[simp] theorem Hn_105_3 : Hn 105 3 = [] := rfl
@[simp] theorem Hn_105_5 : Hn 105 5 = [] := rfl
@[simp] theorem Hn_105_6 : Hn 105 6 = [] := rfl
@[simp] theorem Hn_107_1 : Hn 107 1 = [] := rfl
@[simp] theorem Hn_107_2 : Hn 107 2 = [] := rfl
@[simp] theorem Hn_107_3 : Hn 107 3 = [] := rfl
@[simp] theorem Hn_111_4 : Hn 111 4 = [8] := rfl
@[simp] theorem Hn_112_9 : Hn 112 9 = [] := rfl
@[simp] theorem Hn_114_17 : Hn 114 17 = [] := rfl
@[simp] theorem Hn_116_1 : Hn 116 1 = [] := rfl
@[simp] theorem Hn_117_4 : Hn 117 4 = [] := rfl
@[simp] theorem Hn_117_6 : Hn 117 6 = [] := rfl
@[simp] theorem Hn_118_10 : Hn 118 10 = [] := rfl
@[simp] theorem Hn_119_10 : Hn 119 10 = [] := rfl
@[simp] theorem Hn_121_3 : Hn 121 3 = [] := rfl
@[simp] theorem Hn_122_5 : Hn 122 5 = [] := rfl
@[simp] theorem Hn_122_11 : Hn 122 11 = [] := rfl
@[simp] theorem Hn_122_16 : Hn 122 16 = [] := rfl
@[simp] theorem Hn_122_17 : Hn 122 17 = [] := rfl
@[simp] theorem Hn_122_22 : Hn 122 22 = [] := rfl
@[simp] theorem Hn_122_23 : Hn 122 23 = [] := rfl
@[simp] theorem Hn_123_1 : Hn 123 1 = [] := rfl
@[simp] theorem Hn_123_3 : Hn 123 3 = [] := rfl
@[simp] theorem Hn_123_5 : Hn 123 5 = [] := rfl
@[simp] theorem Hn_123_8 : Hn 123 8 = [] := rfl
@[simp] theorem Hn_124_1 : Hn 124 1 = [] := rfl
@[simp] theorem Hn_124_3 : Hn 124 3 = [] := rfl
@[simp] theorem Hn_124_5 : Hn 124 5 = [] := rfl
@[simp] theorem Hn_124_8 : Hn 124 8 = [] := rfl
@[simp] theorem Hn_124_10 : Hn 124 10 = [] := rfl
@[simp] theorem Hn_124_13 : Hn 124 13 = [] := rfl
@[simp] theorem Hn_124_15 : Hn 124 15 = [] := rfl
@[simp] theorem Hn_124_18 : Hn 124 18 = [] := rfl
@[simp] theorem Hn_124_21 : Hn 124 21 = [] := rfl
@[simp] theorem Hn_125_3 : Hn 125 3 = [] := rfl
@[simp] theorem Hn_125_5 : Hn 125 5 = [] := rfl
@[simp] theorem Hn_125_6 : Hn 125 6 = [] := rfl
@[simp] theorem Hn_128_1 : Hn 128 1 = [] := rfl
noncomputable abbrev R : Run := Runs Tryz.prog G K Hn
end Go.Am.Ab
namespace Go.Am.Ab
structure Fld where
  id : Int
  name : ByteArray
  kind : Int
  need : Bool
structure Sch where
  id : Int
  fields : List Fld
structure Snap where
  id : Int
  parent : Int
  seq : Int
  offset : Int
  time : Int
  schema : Int
  mans : List ByteArray
structure Tab where
  schemas : List Sch
  snaps : List Snap
  current : Int
structure Pol where
  keep : Int
  age : Int
abbrev u64 (n : Int) : D := .int .u64 n
abbrev i64 (n : Int) : D := .int .i64 n
def Fld.d (f : Fld) : D := .agg [.int .u32 f.id, .str f.name, .int .u8 f.kind, .bool f.need]
def Sch.d (s : Sch) : D := .agg [.int .u32 s.id, .list (s.fields.map Fld.d)]
def Snap.d (s : Snap) : D := .agg [.int .u64 s.id, .int .u64 s.parent, .int .u64 s.seq, .int .u64 s.offset, .int .u64 s.time, .int .u32 s.schema, .list (s.mans.map .str)]
def Tab.d (t : Tab) : D := .agg [.list (t.schemas.map Sch.d), .list (t.snaps.map Snap.d), .int .u64 t.current]
def Pol.d (p : Pol) : D := .agg [.int .i64 p.keep, .int .u64 p.age]
attribute [simp] Fld.d Sch.d Snap.d Tab.d Pol.d
end Go.Am.Ab
namespace Go.Am

theorem bits_u8 : IntKind.bits .u8 = 8 := rfl
theorem bits_u32 : IntKind.bits .u32 = 32 := rfl
theorem bits_u64 : IntKind.bits .u64 = 64 := rfl
theorem bits_i64 : IntKind.bits .i64 = 64 := rfl
theorem wrap_mod_u8 (x : Int) : IntKind.u8.wrap x = x % 256 := by simp [IntKind.wrap, IntKind.signed, IntKind.bits]
theorem wrap_mod_u32 (x : Int) : IntKind.u32.wrap x = x % 4294967296 := by simp [IntKind.wrap, IntKind.signed, IntKind.bits]
theorem wrap_mod_u64 (x : Int) : IntKind.u64.wrap x = x % 18446744073709551616 := by simp [IntKind.wrap, IntKind.signed, IntKind.bits]
theorem wrap_mod_i64 (x : Int) : IntKind.i64.wrap x = if x % 18446744073709551616 ≥ 9223372036854775808 then x % 18446744073709551616 - 18446744073709551616 else x % 18446744073709551616 := by
  simp [IntKind.wrap, IntKind.signed, IntKind.bits]

/-- '|', '&', '^' of numbers without a sign. -/
theorem ofInt_nat (n : Nat) (w : Nat) : (BitVec.ofInt w (n : Int)).toNat = n % 2 ^ w := by
  rw [BitVec.toNat_ofInt]
  have : (n : Int) % ((2 ^ w : Nat) : Int) = ((n % 2 ^ w : Nat) : Int) := by rw [Int.natCast_emod]
  rw [this, Int.toNat_natCast]
theorem or_u64 {x y : Nat} (hx : x < 2 ^ 64) (hy : y < 2 ^ 64) : IntKind.u64.wrap (BitVec.ofInt 64 (x : Int) ||| BitVec.ofInt 64 (y : Int)).toNat = ((x ||| y : Nat) : Int) := by
  rw [BitVec.toNat_or, ofInt_nat, ofInt_nat, Nat.mod_eq_of_lt hx, Nat.mod_eq_of_lt hy, wrap_mod_u64]
  have := Nat.or_lt_two_pow hx hy
  omega
theorem and_u64 {x y : Nat} (hx : x < 2 ^ 64) (hy : y < 2 ^ 64) : IntKind.u64.wrap (BitVec.ofInt 64 (x : Int) &&& BitVec.ofInt 64 (y : Int)).toNat = ((x &&& y : Nat) : Int) := by
  rw [BitVec.toNat_and, ofInt_nat, ofInt_nat, Nat.mod_eq_of_lt hx, Nat.mod_eq_of_lt hy, wrap_mod_u64]
  have := Nat.and_lt_two_pow x hy
  omega
theorem xor_u64 {x y : Nat} (hx : x < 2 ^ 64) (hy : y < 2 ^ 64) : IntKind.u64.wrap (BitVec.ofInt 64 (x : Int) ^^^ BitVec.ofInt 64 (y : Int)).toNat = ((x ^^^ y : Nat) : Int) := by
  rw [BitVec.toNat_xor, ofInt_nat, ofInt_nat, Nat.mod_eq_of_lt hx, Nat.mod_eq_of_lt hy, wrap_mod_u64]
  have := Nat.xor_lt_two_pow hx hy
  omega
theorem or_u8 {x y : Nat} (hx : x < 2 ^ 8) (hy : y < 2 ^ 8) : IntKind.u8.wrap (BitVec.ofInt 8 (x : Int) ||| BitVec.ofInt 8 (y : Int)).toNat = ((x ||| y : Nat) : Int) := by
  rw [BitVec.toNat_or, ofInt_nat, ofInt_nat, Nat.mod_eq_of_lt hx, Nat.mod_eq_of_lt hy, wrap_mod_u8]
  have := Nat.or_lt_two_pow hx hy
  omega
theorem and_u8 {x y : Nat} (hx : x < 2 ^ 8) (hy : y < 2 ^ 8) : IntKind.u8.wrap (BitVec.ofInt 8 (x : Int) &&& BitVec.ofInt 8 (y : Int)).toNat = ((x &&& y : Nat) : Int) := by
  rw [BitVec.toNat_and, ofInt_nat, ofInt_nat, Nat.mod_eq_of_lt hx, Nat.mod_eq_of_lt hy, wrap_mod_u8]
  have := Nat.and_lt_two_pow x hy
  omega
theorem or_u32 {x y : Nat} (hx : x < 2 ^ 32) (hy : y < 2 ^ 32) : IntKind.u32.wrap (BitVec.ofInt 32 (x : Int) ||| BitVec.ofInt 32 (y : Int)).toNat = ((x ||| y : Nat) : Int) := by
  rw [BitVec.toNat_or, ofInt_nat, ofInt_nat, Nat.mod_eq_of_lt hx, Nat.mod_eq_of_lt hy, wrap_mod_u32]
  have := Nat.or_lt_two_pow hx hy
  omega
theorem and_u32 {x y : Nat} (hx : x < 2 ^ 32) (hy : y < 2 ^ 32) : IntKind.u32.wrap (BitVec.ofInt 32 (x : Int) &&& BitVec.ofInt 32 (y : Int)).toNat = ((x &&& y : Nat) : Int) := by
  rw [BitVec.toNat_and, ofInt_nat, ofInt_nat, Nat.mod_eq_of_lt hx, Nat.mod_eq_of_lt hy, wrap_mod_u32]
  have := Nat.and_lt_two_pow x hy
  omega
theorem xor_u32 {x y : Nat} (hx : x < 2 ^ 32) (hy : y < 2 ^ 32) : IntKind.u32.wrap (BitVec.ofInt 32 (x : Int) ^^^ BitVec.ofInt 32 (y : Int)).toNat = ((x ^^^ y : Nat) : Int) := by
  rw [BitVec.toNat_xor, ofInt_nat, ofInt_nat, Nat.mod_eq_of_lt hx, Nat.mod_eq_of_lt hy, wrap_mod_u32]
  have := Nat.xor_lt_two_pow hx hy
  omega

theorem intBin_or_u8 {x y : Int} (h1 : 0 ≤ x) (h2 : x < 256) (h3 : 0 ≤ y) (h4 : y < 256) : intBin .or .u8 x y = some (.int .u8 ((x.toNat ||| y.toNat : Nat) : Int)) := by
  obtain ⟨a, rfl⟩ := Int.eq_ofNat_of_zero_le h1
  obtain ⟨b, rfl⟩ := Int.eq_ofNat_of_zero_le h3
  show some (D.int .u8 _) = _
  rw [Int.toNat_natCast, Int.toNat_natCast]
  exact congrArg (fun z => some (D.int .u8 z)) (or_u8 (by omega) (by omega))
attribute [simp] intBin_or_u8
theorem intBin_and_u8 {x y : Int} (h1 : 0 ≤ x) (h2 : x < 256) (h3 : 0 ≤ y) (h4 : y < 256) : intBin .and .u8 x y = some (.int .u8 ((x.toNat &&& y.toNat : Nat) : Int)) := by
  obtain ⟨a, rfl⟩ := Int.eq_ofNat_of_zero_le h1
  obtain ⟨b, rfl⟩ := Int.eq_ofNat_of_zero_le h3
  show some (D.int .u8 _) = _
  rw [Int.toNat_natCast, Int.toNat_natCast]
  exact congrArg (fun z => some (D.int .u8 z)) (and_u8 (by omega) (by omega))
attribute [simp] intBin_and_u8
theorem intBin_or_u32 {x y : Int} (h1 : 0 ≤ x) (h2 : x < 4294967296) (h3 : 0 ≤ y) (h4 : y < 4294967296) : intBin .or .u32 x y = some (.int .u32 ((x.toNat ||| y.toNat : Nat) : Int)) := by
  obtain ⟨a, rfl⟩ := Int.eq_ofNat_of_zero_le h1
  obtain ⟨b, rfl⟩ := Int.eq_ofNat_of_zero_le h3
  show some (D.int .u32 _) = _
  rw [Int.toNat_natCast, Int.toNat_natCast]
  exact congrArg (fun z => some (D.int .u32 z)) (or_u32 (by omega) (by omega))
attribute [simp] intBin_or_u32
theorem intBin_and_u32 {x y : Int} (h1 : 0 ≤ x) (h2 : x < 4294967296) (h3 : 0 ≤ y) (h4 : y < 4294967296) : intBin .and .u32 x y = some (.int .u32 ((x.toNat &&& y.toNat : Nat) : Int)) := by
  obtain ⟨a, rfl⟩ := Int.eq_ofNat_of_zero_le h1
  obtain ⟨b, rfl⟩ := Int.eq_ofNat_of_zero_le h3
  show some (D.int .u32 _) = _
  rw [Int.toNat_natCast, Int.toNat_natCast]
  exact congrArg (fun z => some (D.int .u32 z)) (and_u32 (by omega) (by omega))
attribute [simp] intBin_and_u32
theorem intBin_xor_u32 {x y : Int} (h1 : 0 ≤ x) (h2 : x < 4294967296) (h3 : 0 ≤ y) (h4 : y < 4294967296) : intBin .xor .u32 x y = some (.int .u32 ((x.toNat ^^^ y.toNat : Nat) : Int)) := by
  obtain ⟨a, rfl⟩ := Int.eq_ofNat_of_zero_le h1
  obtain ⟨b, rfl⟩ := Int.eq_ofNat_of_zero_le h3
  show some (D.int .u32 _) = _
  rw [Int.toNat_natCast, Int.toNat_natCast]
  exact congrArg (fun z => some (D.int .u32 z)) (xor_u32 (by omega) (by omega))
attribute [simp] intBin_xor_u32
theorem intBin_or_u64 {x y : Int} (h1 : 0 ≤ x) (h2 : x < 18446744073709551616) (h3 : 0 ≤ y) (h4 : y < 18446744073709551616) : intBin .or .u64 x y = some (.int .u64 ((x.toNat ||| y.toNat : Nat) : Int)) := by
  obtain ⟨a, rfl⟩ := Int.eq_ofNat_of_zero_le h1
  obtain ⟨b, rfl⟩ := Int.eq_ofNat_of_zero_le h3
  show some (D.int .u64 _) = _
  rw [Int.toNat_natCast, Int.toNat_natCast]
  exact congrArg (fun z => some (D.int .u64 z)) (or_u64 (by omega) (by omega))
attribute [simp] intBin_or_u64
theorem intBin_and_u64 {x y : Int} (h1 : 0 ≤ x) (h2 : x < 18446744073709551616) (h3 : 0 ≤ y) (h4 : y < 18446744073709551616) : intBin .and .u64 x y = some (.int .u64 ((x.toNat &&& y.toNat : Nat) : Int)) := by
  obtain ⟨a, rfl⟩ := Int.eq_ofNat_of_zero_le h1
  obtain ⟨b, rfl⟩ := Int.eq_ofNat_of_zero_le h3
  show some (D.int .u64 _) = _
  rw [Int.toNat_natCast, Int.toNat_natCast]
  exact congrArg (fun z => some (D.int .u64 z)) (and_u64 (by omega) (by omega))
attribute [simp] intBin_and_u64
theorem intBin_xor_u64 {x y : Int} (h1 : 0 ≤ x) (h2 : x < 18446744073709551616) (h3 : 0 ≤ y) (h4 : y < 18446744073709551616) : intBin .xor .u64 x y = some (.int .u64 ((x.toNat ^^^ y.toNat : Nat) : Int)) := by
  obtain ⟨a, rfl⟩ := Int.eq_ofNat_of_zero_le h1
  obtain ⟨b, rfl⟩ := Int.eq_ofNat_of_zero_le h3
  show some (D.int .u64 _) = _
  rw [Int.toNat_natCast, Int.toNat_natCast]
  exact congrArg (fun z => some (D.int .u64 z)) (xor_u64 (by omega) (by omega))
attribute [simp] intBin_xor_u64

/-- x | y where y is less than a power of two by which x can be divided. -/
theorem or_add {x y i : Nat} (hx : x % 2 ^ i = 0) (hy : y < 2 ^ i) : x ||| y = x + y := by
  have e : x = 2 ^ i * (x / 2 ^ i) := by
    have := Nat.div_add_mod x (2 ^ i)
    omega
  rw [e, Nat.two_pow_add_eq_or_of_lt hy]
theorem or_add' {x y i : Nat} (hx : x % 2 ^ i = 0) (hy : y < 2 ^ i) : y ||| x = y + x := by rw [Nat.or_comm, or_add hx hy, Nat.add_comm]

theorem or128 (n : Nat) : (n % 256 ||| 128) = n % 128 + 128 := by
  have h1 : n % 256 = n % 128 + 128 * (n / 128 % 2) := by omega
  have h2 : n / 128 % 2 = 0 ∨ n / 128 % 2 = 1 := by omega
  have h3 : n % 128 < 2 ^ 7 := by omega
  rcases h2 with h | h
  · rw [h1, h, Nat.mul_zero, Nat.add_zero]
    rw [or_add' (i := 7) (by decide) h3]
  · rw [h1, h, Nat.mul_one]
    have : n % 128 + 128 = n % 128 ||| 128 := (or_add' (i := 7) (by decide) h3).symm
    rw [this, Nat.or_assoc, Nat.or_self]
theorem and_mask (n k : Nat) : n &&& (2 ^ k - 1) = n % 2 ^ k := Nat.and_two_pow_sub_one_eq_mod n k
theorem and127 (n : Nat) : n &&& 127 = n % 128 := and_mask n 7
theorem and1 (n : Nat) : n &&& 1 = n % 2 := and_mask n 1
theorem xor_ones {x : Nat} (hx : x < 2 ^ 64) : x ^^^ 18446744073709551615 = 18446744073709551615 - x := by
  have h : (BitVec.ofNat 64 x ^^^ BitVec.allOnes 64).toNat = (~~~ BitVec.ofNat 64 x).toNat := by rw [BitVec.xor_allOnes]
  rw [BitVec.toNat_xor, BitVec.toNat_not, BitVec.toNat_ofNat, BitVec.toNat_allOnes, Nat.mod_eq_of_lt hx] at h
  exact h

theorem intBin_xor_i64_zero {x : Int} (h1 : -9223372036854775808 ≤ x) (h2 : x ≤ 9223372036854775807) : intBin .xor .i64 x 0 = some (.int .i64 x) := by
  show some (D.int .i64 (IntKind.i64.wrap (BitVec.ofInt 64 x ^^^ BitVec.ofInt 64 0).toNat)) = _
  have : BitVec.ofInt 64 0 = 0#64 := rfl
  rw [this, BitVec.xor_zero, BitVec.toNat_ofInt, wrap_mod_i64]
  congr 2
  split <;> omega
theorem intBin_xor_i64_m1 {x : Int} (h1 : -9223372036854775808 ≤ x) (h2 : x ≤ 9223372036854775807) : intBin .xor .i64 x (-1) = some (.int .i64 (-x - 1)) := by
  show some (D.int .i64 (IntKind.i64.wrap (BitVec.ofInt 64 x ^^^ BitVec.ofInt 64 (-1)).toNat)) = _
  have : BitVec.ofInt 64 (-1) = BitVec.allOnes 64 := by decide
  rw [this, BitVec.xor_allOnes, BitVec.toNat_not, BitVec.toNat_ofInt, wrap_mod_i64]
  congr 2
  split <;> omega
attribute [simp] intBin_xor_i64_zero intBin_xor_i64_m1

/-- A byte. -/
def u8n (n : Nat) : UInt8 := UInt8.ofNat n
theorem u8n_toNat {n : Nat} (h : n < 256) : (u8n n).toNat = n := by simp [u8n]; omega
theorem u8n_of (b : UInt8) : u8n b.toNat = b := by simp [u8n]
abbrev bytes (l : List UInt8) : List D := l.map byteD
theorem byteD_eq {b : UInt8} {x : Int} (h : (b.toNat : Int) = x) : byteD b = .int .u8 x := by simp [byteD, h]
theorem u8_toNat {n : Nat} (h : n < 256) : (UInt8.ofNat n).toNat = n := by simp; omega
theorem toNat_lt' (b : UInt8) : b.toNat < 256 := b.toNat_lt
theorem fdiv_nat (x k : Nat) : ((x : Int).fdiv (2 ^ k)) = ((x / 2 ^ k : Nat) : Int) := by
  rw [Int.fdiv_eq_ediv_of_nonneg _ (by exact Int.le_of_lt (Int.pow_pos (by decide)))]
  rw [Int.natCast_ediv]
  simp
@[simp] theorem mk_toList (l : List UInt8) : (ByteArray.mk l.toArray).toList = l := by rw [ByteArray.toList_eq]
@[simp] theorem mk_size (l : List UInt8) : (ByteArray.mk l.toArray).size = l.length := by simp [ByteArray.size]
@[simp] theorem bytes_comp (l : List UInt8) : l.mapM (byteOf? ∘ byteD) = some l := by rw [← List.mapM_map]; exact bytes_of_map l
@[simp] theorem bytes_take (l : List UInt8) (k : Nat) : ((l.map byteD).take k).mapM byteOf? = some (l.take k) := by rw [← List.map_take, bytes_of_map]
@[simp] theorem bytes_drop (l : List UInt8) (k : Nat) : ((l.map byteD).drop k).mapM byteOf? = some (l.drop k) := by rw [← List.map_drop, bytes_of_map]
@[simp] theorem bytes_take_drop (l : List UInt8) (k j : Nat) : (((l.map byteD).take k).drop j).mapM byteOf? = some ((l.take k).drop j) := by rw [← List.map_take, ← List.map_drop, bytes_of_map]
@[simp] theorem allSize_bytes (l : List UInt8) : allSize 1 (l.map byteD) = true := allSize_map l fun _ => rfl
@[simp] theorem allSize_ints {α : Type} (k : IntKind) (f : α → Int) (l : List α) : allSize 1 (l.map fun x => D.int k (f x)) = true := allSize_map l fun _ => rfl
@[simp] theorem allSize_strs (l : List ByteArray) : allSize 1 (l.map D.str) = true := allSize_map l fun _ => rfl
attribute [simp] cut
@[simp] theorem take_map_len {α β : Type} (f : α → β) (l : List α) : (l.map f).take l.length = l.map f := List.take_of_length_le (by simp)
attribute [simp] byteD u8n_toNat or128 and127 and1 u8n_of
attribute [simp] wrap_mod_u8 wrap_mod_u32 bits_u8 bits_u32 bits_u64 bits_i64
@[simp] theorem toNat_mod256 (m : Nat) : ((m : Int) % 256).toNat = m % 256 := by omega
@[simp] theorem toNat_mod32 (m : Nat) : ((m : Int) % 4294967296).toNat = m % 4294967296 := by omega
@[simp] theorem toNat_mod64 (m : Nat) : ((m : Int) % 18446744073709551616).toNat = m % 18446744073709551616 := by omega
theorem fdiv_pos (a b : Int) (h : 0 ≤ b) : a.fdiv b = a / b := Int.fdiv_eq_ediv_of_nonneg a h
@[simp] theorem fdiv_pow (a : Int) (w : Nat) : a.fdiv (2 ^ w) = a / 2 ^ w := fdiv_pos a _ (Int.le_of_lt (Int.pow_pos (by decide)))
attribute [simp] fdiv_pos
theorem tdiv_pos (a b : Int) (h : 0 ≤ a) : a.tdiv b = a / b := Int.tdiv_eq_ediv_of_nonneg h
theorem tmod_pos (a b : Int) (h : 0 ≤ a) : a.tmod b = a % b := Int.tmod_eq_emod_of_nonneg h
attribute [simp] tdiv_pos tmod_pos
theorem byteD_nat {n m : Nat} (h : n < 256) (e : n = m) : byteD (u8n n) = .int .u8 (m : Int) := byteD_eq (by rw [u8n_toNat h, e])
end Go.Am
