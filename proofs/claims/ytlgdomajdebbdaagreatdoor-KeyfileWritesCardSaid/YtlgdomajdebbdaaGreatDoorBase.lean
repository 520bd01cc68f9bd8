/- Facts on the types of the program, what loops keep, numbers. -/
import Derived.Test.YtlgdomajdebbdaaGreatDoorProg
import Derived.KernelRfl
import Derived.Test.YtlgdomajdebbdaaGreatDoorMachD
set_option linter.all false
--  36 catchment/colfile.Write no liveness: code rangeFunc
--  42 catchment/colfile.Open no liveness: code rangeFunc
--  43 (*catchment/colfile.File).Find no liveness: code rangeFunc
--  99 catchment/pred.May loud pairs [(17,6,7)]
--  101 catchment/catchmentref09.May loud pairs [(9,7,8),(26,6,7)]
/- Facts on the types of this program,and what each loop keeps. Printed by seat.py. -/
namespace Go.Am.Ab
open Go.Proofs
attribute [simp] Tryz.underlying0
@[simp] theorem sz0 : sizeOf? Tryz.prog 0 = some 1 := by kernel_rfl
@[simp] theorem ag0 : agg? Tryz.prog 0 = some false := by kernel_rfl
attribute [simp] Tryz.underlying2
@[simp] theorem sz2 : sizeOf? Tryz.prog 2 = some 1 := by kernel_rfl
@[simp] theorem ag2 : agg? Tryz.prog 2 = some false := by kernel_rfl
@[simp] theorem zs2 : zeroVs? Tryz.prog 2 = some [.d (.int .i64 0)] := by kernel_rfl
@[simp] theorem al2 (h : List Am.Obj) : allocV Tryz.prog h 2 = some (.ptr h.length 0,h ++ [.box [.d (.int .i64 0)]]) := allocV_of zs2
@[simp] theorem zv2 : (zero? Tryz.prog 2).isSome = true := by kernel_rfl
@[simp] theorem ap2 : appElem? Tryz.prog 2 = some 1 := by kernel_rfl
@[simp] theorem zd2 : zeroD? Tryz.prog 2 = some (.int .i64 0) := by kernel_rfl
attribute [simp] Tryz.underlying3
@[simp] theorem sz3 : sizeOf? Tryz.prog 3 = some 1 := by kernel_rfl
@[simp] theorem ag3 : agg? Tryz.prog 3 = some false := by kernel_rfl
@[simp] theorem zs3 : zeroVs? Tryz.prog 3 = some [.d (.int .i64 0)] := by kernel_rfl
@[simp] theorem al3 (h : List Am.Obj) : allocV Tryz.prog h 3 = some (.ptr h.length 0,h ++ [.box [.d (.int .i64 0)]]) := allocV_of zs3
attribute [simp] Tryz.underlying4
@[simp] theorem sz4 : sizeOf? Tryz.prog 4 = some 1 := by kernel_rfl
@[simp] theorem ag4 : agg? Tryz.prog 4 = some false := by kernel_rfl
@[simp] theorem zs4 : zeroVs? Tryz.prog 4 = some [.d (.bool false)] := by kernel_rfl
@[simp] theorem zv4 : (zero? Tryz.prog 4).isSome = true := by kernel_rfl
@[simp] theorem ap4 : appElem? Tryz.prog 4 = some 1 := by kernel_rfl
@[simp] theorem mk4 : makeElem? Tryz.prog 4 = some (1,.bool false) := by kernel_rfl
@[simp] theorem zd4 : zeroD? Tryz.prog 4 = some (.bool false) := by kernel_rfl
attribute [simp] Tryz.underlying5
@[simp] theorem sz5 : sizeOf? Tryz.prog 5 = some 1 := by kernel_rfl
@[simp] theorem ag5 : agg? Tryz.prog 5 = some false := by kernel_rfl
@[simp] theorem zs5 : zeroVs? Tryz.prog 5 = some [.d (.int .u8 0)] := by kernel_rfl
@[simp] theorem zv5 : (zero? Tryz.prog 5).isSome = true := by kernel_rfl
@[simp] theorem ap5 : appElem? Tryz.prog 5 = some 1 := by kernel_rfl
@[simp] theorem mk5 : makeElem? Tryz.prog 5 = some (1,.int .u8 0) := by kernel_rfl
@[simp] theorem zd5 : zeroD? Tryz.prog 5 = some (.int .u8 0) := by kernel_rfl
attribute [simp] Tryz.underlying9
@[simp] theorem sz9 : sizeOf? Tryz.prog 9 = some 1 := by kernel_rfl
@[simp] theorem ag9 : agg? Tryz.prog 9 = some false := by kernel_rfl
@[simp] theorem zs9 : zeroVs? Tryz.prog 9 = some [.d (.str ⟨#[]⟩)] := by kernel_rfl
@[simp] theorem al9 (h : List Am.Obj) : allocV Tryz.prog h 9 = some (.ptr h.length 0,h ++ [.box [.d (.str ⟨#[]⟩)]]) := allocV_of zs9
@[simp] theorem zv9 : (zero? Tryz.prog 9).isSome = true := by kernel_rfl
@[simp] theorem ap9 : appElem? Tryz.prog 9 = some 1 := by kernel_rfl
@[simp] theorem zd9 : zeroD? Tryz.prog 9 = some (.str ⟨#[]⟩) := by kernel_rfl
attribute [simp] Tryz.underlying20
@[simp] theorem sz20 : sizeOf? Tryz.prog 20 = some 1 := by kernel_rfl
@[simp] theorem ag20 : agg? Tryz.prog 20 = some false := by kernel_rfl
attribute [simp] Tryz.underlying21
@[simp] theorem sz21 : sizeOf? Tryz.prog 21 = some 1 := by kernel_rfl
@[simp] theorem ag21 : agg? Tryz.prog 21 = some false := by kernel_rfl
attribute [simp] Tryz.underlying22
@[simp] theorem sz22 : sizeOf? Tryz.prog 22 = some 1 := by kernel_rfl
@[simp] theorem ag22 : agg? Tryz.prog 22 = some false := by kernel_rfl
@[simp] theorem es22 : elemSize Tryz.prog 22 = 3 := by kernel_rfl
attribute [simp] Tryz.underlying24
@[simp] theorem sz24 : sizeOf? Tryz.prog 24 = some 1 := by kernel_rfl
@[simp] theorem ag24 : agg? Tryz.prog 24 = some false := by kernel_rfl
@[simp] theorem es24 : elemSize Tryz.prog 24 = 1 := by kernel_rfl
attribute [simp] Tryz.underlying25
@[simp] theorem sz25 : sizeOf? Tryz.prog 25 = some 1 := by kernel_rfl
@[simp] theorem ag25 : agg? Tryz.prog 25 = some false := by kernel_rfl
attribute [simp] Tryz.underlying26
@[simp] theorem sz26 : sizeOf? Tryz.prog 26 = some 1 := by kernel_rfl
@[simp] theorem ag26 : agg? Tryz.prog 26 = some false := by kernel_rfl
attribute [simp] Tryz.underlying28
@[simp] theorem sz28 : sizeOf? Tryz.prog 28 = some 1 := by kernel_rfl
@[simp] theorem ag28 : agg? Tryz.prog 28 = some false := by kernel_rfl
attribute [simp] Tryz.underlying29
@[simp] theorem sz29 : sizeOf? Tryz.prog 29 = some 1 := by kernel_rfl
@[simp] theorem ag29 : agg? Tryz.prog 29 = some false := by kernel_rfl
@[simp] theorem es29 : elemSize Tryz.prog 29 = 1 := by kernel_rfl
attribute [simp] Tryz.underlying31
@[simp] theorem sz31 : sizeOf? Tryz.prog 31 = some 1 := by kernel_rfl
@[simp] theorem ag31 : agg? Tryz.prog 31 = some false := by kernel_rfl
attribute [simp] Tryz.underlying35
@[simp] theorem sz35 : sizeOf? Tryz.prog 35 = some 1 := by kernel_rfl
@[simp] theorem ag35 : agg? Tryz.prog 35 = some false := by kernel_rfl
attribute [simp] Tryz.underlying37
@[simp] theorem sz37 : sizeOf? Tryz.prog 37 = some 1 := by kernel_rfl
@[simp] theorem ag37 : agg? Tryz.prog 37 = some false := by kernel_rfl
attribute [simp] Tryz.underlying38
@[simp] theorem sz38 : sizeOf? Tryz.prog 38 = some 1 := by kernel_rfl
@[simp] theorem ag38 : agg? Tryz.prog 38 = some false := by kernel_rfl
attribute [simp] Tryz.underlying44
@[simp] theorem sz44 : sizeOf? Tryz.prog 44 = some 1 := by kernel_rfl
@[simp] theorem ag44 : agg? Tryz.prog 44 = some false := by kernel_rfl
@[simp] theorem zs44 : zeroVs? Tryz.prog 44 = some [.d .nilI] := by kernel_rfl
@[simp] theorem zv44 : (zero? Tryz.prog 44).isSome = true := by kernel_rfl
@[simp] theorem ap44 : appElem? Tryz.prog 44 = some 1 := by kernel_rfl
@[simp] theorem mk44 : makeElem? Tryz.prog 44 = some (1,.nilI) := by kernel_rfl
@[simp] theorem zd44 : zeroD? Tryz.prog 44 = some (.nilI) := by kernel_rfl
attribute [simp] Tryz.underlying46
@[simp] theorem sz46 : sizeOf? Tryz.prog 46 = some 3 := by kernel_rfl
@[simp] theorem ag46 : agg? Tryz.prog 46 = some true := by kernel_rfl
@[simp] theorem bv46 (parts : List (Nat × V)) : buildV Tryz.prog 46 parts = (fillV (fun i => [(0,1),(1,1),(2,1)][i]?) [.d (.int .u8 0),.d (.int .i64 0),.d (.str ⟨#[]⟩)] parts).map mkAgg := buildV_struct (by kernel_rfl) (by kernel_rfl)
@[simp] theorem fo46_0 : fieldOff? Tryz.prog 46 0 = some (0,28) := by kernel_rfl
@[simp] theorem fo46_1 : fieldOff? Tryz.prog 46 1 = some (1,2) := by kernel_rfl
@[simp] theorem fo46_2 : fieldOff? Tryz.prog 46 2 = some (2,9) := by kernel_rfl
@[simp] theorem fs46 : flatStruct Tryz.prog 46 = some [(0,0),(1,0),(2,2)] := by kernel_rfl
attribute [simp] Tryz.underlying47
@[simp] theorem sz47 : sizeOf? Tryz.prog 47 = some 3 := by kernel_rfl
@[simp] theorem ag47 : agg? Tryz.prog 47 = some true := by kernel_rfl
@[simp] theorem zs47 : zeroVs? Tryz.prog 47 = some [.d (.int .u8 0),.d (.int .i64 0),.d (.str ⟨#[]⟩)] := by kernel_rfl
@[simp] theorem al47 (h : List Am.Obj) : allocV Tryz.prog h 47 = some (.ptr h.length 0,h ++ [.box [.d (.int .u8 0),.d (.int .i64 0),.d (.str ⟨#[]⟩)]]) := allocV_of zs47
@[simp] theorem zv47 : (zero? Tryz.prog 47).isSome = true := by kernel_rfl
@[simp] theorem ap47 : appElem? Tryz.prog 47 = some 3 := by kernel_rfl
@[simp] theorem bv47 (parts : List (Nat × V)) : buildV Tryz.prog 47 parts = (fillV (fun i => [(0,1),(1,1),(2,1)][i]?) [.d (.int .u8 0),.d (.int .i64 0),.d (.str ⟨#[]⟩)] parts).map mkAgg := buildV_struct (by kernel_rfl) (by kernel_rfl)
@[simp] theorem fo47_0 : fieldOff? Tryz.prog 47 0 = some (0,28) := by kernel_rfl
@[simp] theorem fo47_1 : fieldOff? Tryz.prog 47 1 = some (1,2) := by kernel_rfl
@[simp] theorem fo47_2 : fieldOff? Tryz.prog 47 2 = some (2,9) := by kernel_rfl
@[simp] theorem fs47 : flatStruct Tryz.prog 47 = some [(0,0),(1,0),(2,2)] := by kernel_rfl
@[simp] theorem zd47 : zeroD? Tryz.prog 47 = some (.agg [.int .u8 0,.int .i64 0,.str ⟨#[]⟩]) := by kernel_rfl
attribute [simp] Tryz.underlying50
@[simp] theorem sz50 : sizeOf? Tryz.prog 50 = some 1 := by kernel_rfl
@[simp] theorem ag50 : agg? Tryz.prog 50 = some false := by kernel_rfl
attribute [simp] Tryz.underlying56
@[simp] theorem sz56 : sizeOf? Tryz.prog 56 = some 1 := by kernel_rfl
@[simp] theorem ag56 : agg? Tryz.prog 56 = some false := by kernel_rfl
attribute [simp] Tryz.underlying59
@[simp] theorem sz59 : sizeOf? Tryz.prog 59 = some 1 := by kernel_rfl
@[simp] theorem ag59 : agg? Tryz.prog 59 = some false := by kernel_rfl
attribute [simp] Tryz.underlying60
@[simp] theorem sz60 : sizeOf? Tryz.prog 60 = some 1 := by kernel_rfl
@[simp] theorem ag60 : agg? Tryz.prog 60 = some false := by kernel_rfl
@[simp] theorem es60 : elemSize Tryz.prog 60 = 4 := by kernel_rfl
attribute [simp] Tryz.underlying61
@[simp] theorem sz61 : sizeOf? Tryz.prog 61 = some 2 := by kernel_rfl
@[simp] theorem ag61 : agg? Tryz.prog 61 = some true := by kernel_rfl
@[simp] theorem bv61 (parts : List (Nat × V)) : buildV Tryz.prog 61 parts = (fillV (fun i => [(0,1),(1,1)][i]?) [.d (.int .u32 0),.nilS] parts).map mkAgg := buildV_struct (by kernel_rfl) (by kernel_rfl)
@[simp] theorem fo61_0 : fieldOff? Tryz.prog 61 0 = some (0,59) := by kernel_rfl
@[simp] theorem fo61_1 : fieldOff? Tryz.prog 61 1 = some (1,60) := by kernel_rfl
attribute [simp] Tryz.underlying62
@[simp] theorem sz62 : sizeOf? Tryz.prog 62 = some 2 := by kernel_rfl
@[simp] theorem ag62 : agg? Tryz.prog 62 = some true := by kernel_rfl
@[simp] theorem bv62 (parts : List (Nat × V)) : buildV Tryz.prog 62 parts = (fillV (fun i => [(0,1),(1,1)][i]?) [.d (.int .u32 0),.nilS] parts).map mkAgg := buildV_struct (by kernel_rfl) (by kernel_rfl)
@[simp] theorem fo62_0 : fieldOff? Tryz.prog 62 0 = some (0,59) := by kernel_rfl
@[simp] theorem fo62_1 : fieldOff? Tryz.prog 62 1 = some (1,60) := by kernel_rfl
attribute [simp] Tryz.underlying63
@[simp] theorem sz63 : sizeOf? Tryz.prog 63 = some 1 := by kernel_rfl
@[simp] theorem ag63 : agg? Tryz.prog 63 = some false := by kernel_rfl
@[simp] theorem es63 : elemSize Tryz.prog 63 = 1 := by kernel_rfl
attribute [simp] Tryz.underlying67
@[simp] theorem sz67 : sizeOf? Tryz.prog 67 = some 1 := by kernel_rfl
@[simp] theorem ag67 : agg? Tryz.prog 67 = some false := by kernel_rfl
@[simp] theorem es67 : elemSize Tryz.prog 67 = 1 := by kernel_rfl
attribute [simp] Tryz.underlying71
@[simp] theorem sz71 : sizeOf? Tryz.prog 71 = some 1 := by kernel_rfl
@[simp] theorem ag71 : agg? Tryz.prog 71 = some false := by kernel_rfl
@[simp] theorem es71 : elemSize Tryz.prog 71 = 6 := by kernel_rfl
attribute [simp] Tryz.underlying72
@[simp] theorem sz72 : sizeOf? Tryz.prog 72 = some 6 := by kernel_rfl
@[simp] theorem ag72 : agg? Tryz.prog 72 = some true := by kernel_rfl
@[simp] theorem bv72 (parts : List (Nat × V)) : buildV Tryz.prog 72 parts = (fillV (fun i => [(0,1),(1,1),(2,3),(5,1)][i]?) [.d (.int .u8 0),.d (.int .u32 0),.d (.int .u8 0),.d (.int .i64 0),.d (.str ⟨#[]⟩),.nilS] parts).map mkAgg := buildV_struct (by kernel_rfl) (by kernel_rfl)
@[simp] theorem fo72_0 : fieldOff? Tryz.prog 72 0 = some (0,5) := by kernel_rfl
@[simp] theorem fo72_1 : fieldOff? Tryz.prog 72 1 = some (1,59) := by kernel_rfl
@[simp] theorem fo72_2 : fieldOff? Tryz.prog 72 2 = some (2,47) := by kernel_rfl
@[simp] theorem fo72_3 : fieldOff? Tryz.prog 72 3 = some (5,71) := by kernel_rfl
attribute [simp] Tryz.underlying73
@[simp] theorem sz73 : sizeOf? Tryz.prog 73 = some 6 := by kernel_rfl
@[simp] theorem ag73 : agg? Tryz.prog 73 = some true := by kernel_rfl
@[simp] theorem bv73 (parts : List (Nat × V)) : buildV Tryz.prog 73 parts = (fillV (fun i => [(0,1),(1,1),(2,3),(5,1)][i]?) [.d (.int .u8 0),.d (.int .u32 0),.d (.int .u8 0),.d (.int .i64 0),.d (.str ⟨#[]⟩),.nilS] parts).map mkAgg := buildV_struct (by kernel_rfl) (by kernel_rfl)
@[simp] theorem fo73_0 : fieldOff? Tryz.prog 73 0 = some (0,5) := by kernel_rfl
@[simp] theorem fo73_1 : fieldOff? Tryz.prog 73 1 = some (1,59) := by kernel_rfl
@[simp] theorem fo73_2 : fieldOff? Tryz.prog 73 2 = some (2,47) := by kernel_rfl
@[simp] theorem fo73_3 : fieldOff? Tryz.prog 73 3 = some (5,71) := by kernel_rfl
attribute [simp] Tryz.underlying76
@[simp] theorem sz76 : sizeOf? Tryz.prog 76 = some 1 := by kernel_rfl
@[simp] theorem ag76 : agg? Tryz.prog 76 = some false := by kernel_rfl
attribute [simp] Tryz.underlying78
@[simp] theorem sz78 : sizeOf? Tryz.prog 78 = some 1 := by kernel_rfl
@[simp] theorem ag78 : agg? Tryz.prog 78 = some false := by kernel_rfl
attribute [simp] Tryz.underlying79
@[simp] theorem sz79 : sizeOf? Tryz.prog 79 = some 1 := by kernel_rfl
@[simp] theorem ag79 : agg? Tryz.prog 79 = some false := by kernel_rfl
attribute [simp] Tryz.underlying81
@[simp] theorem sz81 : sizeOf? Tryz.prog 81 = some 1 := by kernel_rfl
@[simp] theorem ag81 : agg? Tryz.prog 81 = some false := by kernel_rfl
attribute [simp] Tryz.underlying83
@[simp] theorem sz83 : sizeOf? Tryz.prog 83 = some 1 := by kernel_rfl
@[simp] theorem ag83 : agg? Tryz.prog 83 = some false := by kernel_rfl
attribute [simp] Tryz.underlying89
@[simp] theorem sz89 : sizeOf? Tryz.prog 89 = some 1 := by kernel_rfl
@[simp] theorem ag89 : agg? Tryz.prog 89 = some false := by kernel_rfl
attribute [simp] Tryz.underlying95
@[simp] theorem sz95 : sizeOf? Tryz.prog 95 = some 4 := by kernel_rfl
@[simp] theorem ag95 : agg? Tryz.prog 95 = some true := by kernel_rfl
@[simp] theorem bv95 (parts : List (Nat × V)) : buildV Tryz.prog 95 parts = (fillV (fun i => [(0,1),(1,1),(2,1),(3,1)][i]?) [.d (.int .u32 0),.d (.str ⟨#[]⟩),.d (.int .u8 0),.d (.bool false)] parts).map mkAgg := buildV_struct (by kernel_rfl) (by kernel_rfl)
@[simp] theorem fo95_0 : fieldOff? Tryz.prog 95 0 = some (0,59) := by kernel_rfl
@[simp] theorem fo95_1 : fieldOff? Tryz.prog 95 1 = some (1,9) := by kernel_rfl
@[simp] theorem fo95_2 : fieldOff? Tryz.prog 95 2 = some (2,28) := by kernel_rfl
@[simp] theorem fo95_3 : fieldOff? Tryz.prog 95 3 = some (3,4) := by kernel_rfl
@[simp] theorem fs95 : flatStruct Tryz.prog 95 = some [(0,0),(1,2),(2,0),(3,1)] := by kernel_rfl
attribute [simp] Tryz.underlying96
@[simp] theorem sz96 : sizeOf? Tryz.prog 96 = some 4 := by kernel_rfl
@[simp] theorem ag96 : agg? Tryz.prog 96 = some true := by kernel_rfl
@[simp] theorem bv96 (parts : List (Nat × V)) : buildV Tryz.prog 96 parts = (fillV (fun i => [(0,1),(1,1),(2,1),(3,1)][i]?) [.d (.int .u32 0),.d (.str ⟨#[]⟩),.d (.int .u8 0),.d (.bool false)] parts).map mkAgg := buildV_struct (by kernel_rfl) (by kernel_rfl)
@[simp] theorem fo96_0 : fieldOff? Tryz.prog 96 0 = some (0,59) := by kernel_rfl
@[simp] theorem fo96_1 : fieldOff? Tryz.prog 96 1 = some (1,9) := by kernel_rfl
@[simp] theorem fo96_2 : fieldOff? Tryz.prog 96 2 = some (2,28) := by kernel_rfl
@[simp] theorem fo96_3 : fieldOff? Tryz.prog 96 3 = some (3,4) := by kernel_rfl
@[simp] theorem fs96 : flatStruct Tryz.prog 96 = some [(0,0),(1,2),(2,0),(3,1)] := by kernel_rfl
attribute [simp] Tryz.underlying99
@[simp] theorem sz99 : sizeOf? Tryz.prog 99 = some 10 := by kernel_rfl
@[simp] theorem ag99 : agg? Tryz.prog 99 = some true := by kernel_rfl
@[simp] theorem bv99 (parts : List (Nat × V)) : buildV Tryz.prog 99 parts = (fillV (fun i => [(0,1),(1,1),(2,1),(3,1),(4,3),(7,3)][i]?) [.d (.int .i64 0),.d (.int .i64 0),.d (.bool false),.d (.bool false),.d (.int .u8 0),.d (.int .i64 0),.d (.str ⟨#[]⟩),.d (.int .u8 0),.d (.int .i64 0),.d (.str ⟨#[]⟩)] parts).map mkAgg := buildV_struct (by kernel_rfl) (by kernel_rfl)
@[simp] theorem fo99_0 : fieldOff? Tryz.prog 99 0 = some (0,3) := by kernel_rfl
@[simp] theorem fo99_1 : fieldOff? Tryz.prog 99 1 = some (1,3) := by kernel_rfl
@[simp] theorem fo99_2 : fieldOff? Tryz.prog 99 2 = some (2,4) := by kernel_rfl
@[simp] theorem fo99_3 : fieldOff? Tryz.prog 99 3 = some (3,4) := by kernel_rfl
@[simp] theorem fo99_4 : fieldOff? Tryz.prog 99 4 = some (4,47) := by kernel_rfl
@[simp] theorem fo99_5 : fieldOff? Tryz.prog 99 5 = some (7,47) := by kernel_rfl
attribute [simp] Tryz.underlying100
@[simp] theorem sz100 : sizeOf? Tryz.prog 100 = some 10 := by kernel_rfl
@[simp] theorem ag100 : agg? Tryz.prog 100 = some true := by kernel_rfl
@[simp] theorem bv100 (parts : List (Nat × V)) : buildV Tryz.prog 100 parts = (fillV (fun i => [(0,1),(1,1),(2,1),(3,1),(4,3),(7,3)][i]?) [.d (.int .i64 0),.d (.int .i64 0),.d (.bool false),.d (.bool false),.d (.int .u8 0),.d (.int .i64 0),.d (.str ⟨#[]⟩),.d (.int .u8 0),.d (.int .i64 0),.d (.str ⟨#[]⟩)] parts).map mkAgg := buildV_struct (by kernel_rfl) (by kernel_rfl)
@[simp] theorem fo100_0 : fieldOff? Tryz.prog 100 0 = some (0,3) := by kernel_rfl
@[simp] theorem fo100_1 : fieldOff? Tryz.prog 100 1 = some (1,3) := by kernel_rfl
@[simp] theorem fo100_2 : fieldOff? Tryz.prog 100 2 = some (2,4) := by kernel_rfl
@[simp] theorem fo100_3 : fieldOff? Tryz.prog 100 3 = some (3,4) := by kernel_rfl
@[simp] theorem fo100_4 : fieldOff? Tryz.prog 100 4 = some (4,47) := by kernel_rfl
@[simp] theorem fo100_5 : fieldOff? Tryz.prog 100 5 = some (7,47) := by kernel_rfl
attribute [simp] Tryz.underlying101
@[simp] theorem sz101 : sizeOf? Tryz.prog 101 = some 1 := by kernel_rfl
@[simp] theorem ag101 : agg? Tryz.prog 101 = some false := by kernel_rfl
attribute [simp] Tryz.underlying109
@[simp] theorem sz109 : sizeOf? Tryz.prog 109 = some 1 := by kernel_rfl
@[simp] theorem ag109 : agg? Tryz.prog 109 = some false := by kernel_rfl
attribute [simp] Tryz.underlying111
@[simp] theorem sz111 : sizeOf? Tryz.prog 111 = some 1 := by kernel_rfl
@[simp] theorem ag111 : agg? Tryz.prog 111 = some false := by kernel_rfl
attribute [simp] Tryz.underlying113
@[simp] theorem sz113 : sizeOf? Tryz.prog 113 = some 1 := by kernel_rfl
@[simp] theorem ag113 : agg? Tryz.prog 113 = some false := by kernel_rfl
@[simp] theorem zs113 : zeroVs? Tryz.prog 113 = some [.d (.int .u64 0)] := by kernel_rfl
@[simp] theorem zv113 : (zero? Tryz.prog 113).isSome = true := by kernel_rfl
@[simp] theorem ap113 : appElem? Tryz.prog 113 = some 1 := by kernel_rfl
@[simp] theorem mk113 : makeElem? Tryz.prog 113 = some (1,.int .u64 0) := by kernel_rfl
@[simp] theorem zd113 : zeroD? Tryz.prog 113 = some (.int .u64 0) := by kernel_rfl
attribute [simp] Tryz.underlying114
@[simp] theorem sz114 : sizeOf? Tryz.prog 114 = some 1 := by kernel_rfl
@[simp] theorem ag114 : agg? Tryz.prog 114 = some false := by kernel_rfl
attribute [simp] Tryz.underlying116
@[simp] theorem sz116 : sizeOf? Tryz.prog 116 = some 1 := by kernel_rfl
@[simp] theorem ag116 : agg? Tryz.prog 116 = some false := by kernel_rfl
attribute [simp] Tryz.underlying119
@[simp] theorem sz119 : sizeOf? Tryz.prog 119 = some 2 := by kernel_rfl
@[simp] theorem ag119 : agg? Tryz.prog 119 = some true := by kernel_rfl
@[simp] theorem bv119 (parts : List (Nat × V)) : buildV Tryz.prog 119 parts = (fillV (fun i => [(0,1),(1,1)][i]?) [.d (.int .u8 0),.nilS] parts).map mkAgg := buildV_struct (by kernel_rfl) (by kernel_rfl)
@[simp] theorem fo119_0 : fieldOff? Tryz.prog 119 0 = some (0,28) := by kernel_rfl
@[simp] theorem fo119_1 : fieldOff? Tryz.prog 119 1 = some (1,29) := by kernel_rfl
attribute [simp] Tryz.underlying120
@[simp] theorem sz120 : sizeOf? Tryz.prog 120 = some 2 := by kernel_rfl
@[simp] theorem ag120 : agg? Tryz.prog 120 = some true := by kernel_rfl
@[simp] theorem zs120 : zeroVs? Tryz.prog 120 = some [.d (.int .u8 0),.nilS] := by kernel_rfl
@[simp] theorem bv120 (parts : List (Nat × V)) : buildV Tryz.prog 120 parts = (fillV (fun i => [(0,1),(1,1)][i]?) [.d (.int .u8 0),.nilS] parts).map mkAgg := buildV_struct (by kernel_rfl) (by kernel_rfl)
@[simp] theorem fo120_0 : fieldOff? Tryz.prog 120 0 = some (0,28) := by kernel_rfl
@[simp] theorem fo120_1 : fieldOff? Tryz.prog 120 1 = some (1,29) := by kernel_rfl
attribute [simp] Tryz.underlying126
@[simp] theorem sz126 : sizeOf? Tryz.prog 126 = some 1 := by kernel_rfl
@[simp] theorem ag126 : agg? Tryz.prog 126 = some false := by kernel_rfl
attribute [simp] Tryz.underlying128
@[simp] theorem sz128 : sizeOf? Tryz.prog 128 = some 1 := by kernel_rfl
@[simp] theorem ag128 : agg? Tryz.prog 128 = some false := by kernel_rfl
attribute [simp] Tryz.underlying133
@[simp] theorem sz133 : sizeOf? Tryz.prog 133 = some 1 := by kernel_rfl
@[simp] theorem ag133 : agg? Tryz.prog 133 = some false := by kernel_rfl
attribute [simp] Tryz.underlying134
@[simp] theorem sz134 : sizeOf? Tryz.prog 134 = some 1 := by kernel_rfl
@[simp] theorem ag134 : agg? Tryz.prog 134 = some false := by kernel_rfl
attribute [simp] Tryz.underlying140
@[simp] theorem sz140 : sizeOf? Tryz.prog 140 = some 1 := by kernel_rfl
@[simp] theorem ag140 : agg? Tryz.prog 140 = some false := by kernel_rfl
@[simp] theorem es140 : elemSize Tryz.prog 140 = 1 := by kernel_rfl
attribute [simp] Tryz.underlying146
@[simp] theorem sz146 : sizeOf? Tryz.prog 146 = some 1 := by kernel_rfl
@[simp] theorem ag146 : agg? Tryz.prog 146 = some false := by kernel_rfl
attribute [simp] Tryz.underlying148
@[simp] theorem sz148 : sizeOf? Tryz.prog 148 = some 1 := by kernel_rfl
@[simp] theorem ag148 : agg? Tryz.prog 148 = some false := by kernel_rfl
@[simp] theorem es148 : elemSize Tryz.prog 148 = 1 := by kernel_rfl
attribute [simp] Tryz.underlying149
@[simp] theorem sz149 : sizeOf? Tryz.prog 149 = some 5 := by kernel_rfl
@[simp] theorem ag149 : agg? Tryz.prog 149 = some true := by kernel_rfl
@[simp] theorem bv149 (parts : List (Nat × V)) : buildV Tryz.prog 149 parts = (fillV (fun i => [(0,2),(2,1),(3,1),(4,1)][i]?) [.d (.int .u32 0),.nilS,.nilS,.d (.int .i64 0),.nilS] parts).map mkAgg := buildV_struct (by kernel_rfl) (by kernel_rfl)
@[simp] theorem fo149_0 : fieldOff? Tryz.prog 149 0 = some (0,62) := by kernel_rfl
@[simp] theorem fo149_1 : fieldOff? Tryz.prog 149 1 = some (2,67) := by kernel_rfl
@[simp] theorem fo149_2 : fieldOff? Tryz.prog 149 2 = some (3,3) := by kernel_rfl
@[simp] theorem fo149_3 : fieldOff? Tryz.prog 149 3 = some (4,148) := by kernel_rfl
attribute [simp] Tryz.underlying150
@[simp] theorem sz150 : sizeOf? Tryz.prog 150 = some 5 := by kernel_rfl
@[simp] theorem ag150 : agg? Tryz.prog 150 = some true := by kernel_rfl
@[simp] theorem bv150 (parts : List (Nat × V)) : buildV Tryz.prog 150 parts = (fillV (fun i => [(0,2),(2,1),(3,1),(4,1)][i]?) [.d (.int .u32 0),.nilS,.nilS,.d (.int .i64 0),.nilS] parts).map mkAgg := buildV_struct (by kernel_rfl) (by kernel_rfl)
@[simp] theorem fo150_0 : fieldOff? Tryz.prog 150 0 = some (0,62) := by kernel_rfl
@[simp] theorem fo150_1 : fieldOff? Tryz.prog 150 1 = some (2,67) := by kernel_rfl
@[simp] theorem fo150_2 : fieldOff? Tryz.prog 150 2 = some (3,3) := by kernel_rfl
@[simp] theorem fo150_3 : fieldOff? Tryz.prog 150 3 = some (4,148) := by kernel_rfl
attribute [simp] Tryz.underlying151
@[simp] theorem sz151 : sizeOf? Tryz.prog 151 = some 1 := by kernel_rfl
@[simp] theorem ag151 : agg? Tryz.prog 151 = some false := by kernel_rfl
@[simp] theorem es151 : elemSize Tryz.prog 151 = 10 := by kernel_rfl
attribute [simp] Tryz.underlying153
@[simp] theorem sz153 : sizeOf? Tryz.prog 153 = some 3 := by kernel_rfl
@[simp] theorem ag153 : agg? Tryz.prog 153 = some true := by kernel_rfl
@[simp] theorem bv153 (parts : List (Nat × V)) : buildV Tryz.prog 153 parts = (fillV (fun i => some (i * 1,1)) [.d (.bool false),.d (.bool false),.d (.bool false)] parts).map mkAgg := buildV_array (by kernel_rfl) Tryz.underlying153 (by kernel_rfl)
attribute [simp] Tryz.underlying155
@[simp] theorem sz155 : sizeOf? Tryz.prog 155 = some 1 := by kernel_rfl
@[simp] theorem ag155 : agg? Tryz.prog 155 = some false := by kernel_rfl
attribute [simp] Tryz.underlying164
@[simp] theorem sz164 : sizeOf? Tryz.prog 164 = some 1 := by kernel_rfl
@[simp] theorem ag164 : agg? Tryz.prog 164 = some false := by kernel_rfl
@[simp] theorem es164 : elemSize Tryz.prog 164 = 1 := by kernel_rfl
attribute [simp] Tryz.underlying165
@[simp] theorem sz165 : sizeOf? Tryz.prog 165 = some 1 := by kernel_rfl
@[simp] theorem ag165 : agg? Tryz.prog 165 = some false := by kernel_rfl
attribute [simp] Tryz.underlying168
@[simp] theorem sz168 : sizeOf? Tryz.prog 168 = some 1 := by kernel_rfl
@[simp] theorem ag168 : agg? Tryz.prog 168 = some false := by kernel_rfl
attribute [simp] Tryz.underlying178
@[simp] theorem sz178 : sizeOf? Tryz.prog 178 = some 1 := by kernel_rfl
@[simp] theorem ag178 : agg? Tryz.prog 178 = some false := by kernel_rfl
@[simp] theorem es178 : elemSize Tryz.prog 178 = 1 := by kernel_rfl
attribute [simp] Tryz.underlying179
@[simp] theorem sz179 : sizeOf? Tryz.prog 179 = some 1 := by kernel_rfl
@[simp] theorem ag179 : agg? Tryz.prog 179 = some false := by kernel_rfl
@[simp] theorem es179 : elemSize Tryz.prog 179 = 1 := by kernel_rfl
attribute [simp] Tryz.underlying180
@[simp] theorem sz180 : sizeOf? Tryz.prog 180 = some 1 := by kernel_rfl
@[simp] theorem ag180 : agg? Tryz.prog 180 = some false := by kernel_rfl
@[simp] theorem es180 : elemSize Tryz.prog 180 = 1 := by kernel_rfl
attribute [simp] Tryz.underlying181
@[simp] theorem sz181 : sizeOf? Tryz.prog 181 = some 1 := by kernel_rfl
@[simp] theorem ag181 : agg? Tryz.prog 181 = some false := by kernel_rfl
attribute [simp] Tryz.underlying182
@[simp] theorem sz182 : sizeOf? Tryz.prog 182 = some 1 := by kernel_rfl
@[simp] theorem ag182 : agg? Tryz.prog 182 = some false := by kernel_rfl
attribute [simp] Tryz.underlying188
@[simp] theorem sz188 : sizeOf? Tryz.prog 188 = some 1 := by kernel_rfl
@[simp] theorem ag188 : agg? Tryz.prog 188 = some false := by kernel_rfl
@[simp] theorem es188 : elemSize Tryz.prog 188 = 1 := by kernel_rfl
attribute [simp] Tryz.underlying191
@[simp] theorem sz191 : sizeOf? Tryz.prog 191 = some 1 := by kernel_rfl
@[simp] theorem ag191 : agg? Tryz.prog 191 = some false := by kernel_rfl
attribute [simp] Tryz.underlying193
@[simp] theorem sz193 : sizeOf? Tryz.prog 193 = some 1 := by kernel_rfl
@[simp] theorem ag193 : agg? Tryz.prog 193 = some false := by kernel_rfl
attribute [simp] Tryz.underlying195
@[simp] theorem sz195 : sizeOf? Tryz.prog 195 = some 1 := by kernel_rfl
@[simp] theorem ag195 : agg? Tryz.prog 195 = some false := by kernel_rfl
attribute [simp] Tryz.underlying198
@[simp] theorem sz198 : sizeOf? Tryz.prog 198 = some 1 := by kernel_rfl
@[simp] theorem ag198 : agg? Tryz.prog 198 = some false := by kernel_rfl
attribute [simp] Tryz.underlying199
@[simp] theorem sz199 : sizeOf? Tryz.prog 199 = some 1 := by kernel_rfl
@[simp] theorem ag199 : agg? Tryz.prog 199 = some false := by kernel_rfl
attribute [simp] Tryz.underlying201
@[simp] theorem sz201 : sizeOf? Tryz.prog 201 = some 1 := by kernel_rfl
@[simp] theorem ag201 : agg? Tryz.prog 201 = some false := by kernel_rfl
attribute [simp] Tryz.underlying204
@[simp] theorem sz204 : sizeOf? Tryz.prog 204 = some 1 := by kernel_rfl
@[simp] theorem ag204 : agg? Tryz.prog 204 = some false := by kernel_rfl
attribute [simp] Tryz.underlying206
@[simp] theorem sz206 : sizeOf? Tryz.prog 206 = some 1 := by kernel_rfl
@[simp] theorem ag206 : agg? Tryz.prog 206 = some false := by kernel_rfl
attribute [simp] Tryz.underlying207
@[simp] theorem sz207 : sizeOf? Tryz.prog 207 = some 2 := by kernel_rfl
@[simp] theorem ag207 : agg? Tryz.prog 207 = some true := by kernel_rfl
@[simp] theorem bv207 (parts : List (Nat × V)) : buildV Tryz.prog 207 parts = (fillV (fun i => [(0,1),(1,1)][i]?) [.nilS,.d (.bool false)] parts).map mkAgg := buildV_struct (by kernel_rfl) (by kernel_rfl)
@[simp] theorem fo207_0 : fieldOff? Tryz.prog 207 0 = some (0,24) := by kernel_rfl
@[simp] theorem fo207_1 : fieldOff? Tryz.prog 207 1 = some (1,4) := by kernel_rfl
attribute [simp] Tryz.underlying208
@[simp] theorem sz208 : sizeOf? Tryz.prog 208 = some 2 := by kernel_rfl
@[simp] theorem ag208 : agg? Tryz.prog 208 = some true := by kernel_rfl
@[simp] theorem bv208 (parts : List (Nat × V)) : buildV Tryz.prog 208 parts = (fillV (fun i => [(0,1),(1,1)][i]?) [.nilS,.d (.bool false)] parts).map mkAgg := buildV_struct (by kernel_rfl) (by kernel_rfl)
@[simp] theorem fo208_0 : fieldOff? Tryz.prog 208 0 = some (0,24) := by kernel_rfl
@[simp] theorem fo208_1 : fieldOff? Tryz.prog 208 1 = some (1,4) := by kernel_rfl
attribute [simp] Tryz.underlying212
@[simp] theorem sz212 : sizeOf? Tryz.prog 212 = some 1 := by kernel_rfl
@[simp] theorem ag212 : agg? Tryz.prog 212 = some false := by kernel_rfl
attribute [simp] Tryz.underlying213
@[simp] theorem sz213 : sizeOf? Tryz.prog 213 = some 1 := by kernel_rfl
@[simp] theorem ag213 : agg? Tryz.prog 213 = some false := by kernel_rfl
attribute [simp] Tryz.underlying215
@[simp] theorem sz215 : sizeOf? Tryz.prog 215 = some 1 := by kernel_rfl
@[simp] theorem ag215 : agg? Tryz.prog 215 = some false := by kernel_rfl
attribute [simp] Tryz.underlying221
@[simp] theorem sz221 : sizeOf? Tryz.prog 221 = some 1 := by kernel_rfl
@[simp] theorem ag221 : agg? Tryz.prog 221 = some false := by kernel_rfl
attribute [simp] Tryz.underlying225
@[simp] theorem sz225 : sizeOf? Tryz.prog 225 = some 1 := by kernel_rfl
@[simp] theorem ag225 : agg? Tryz.prog 225 = some false := by kernel_rfl
attribute [simp] Tryz.underlying226
@[simp] theorem sz226 : sizeOf? Tryz.prog 226 = some 1 := by kernel_rfl
@[simp] theorem ag226 : agg? Tryz.prog 226 = some false := by kernel_rfl
attribute [simp] Tryz.underlying238
@[simp] theorem sz238 : sizeOf? Tryz.prog 238 = some 1 := by kernel_rfl
@[simp] theorem ag238 : agg? Tryz.prog 238 = some false := by kernel_rfl
attribute [simp] Tryz.underlying239
@[simp] theorem sz239 : sizeOf? Tryz.prog 239 = some 1 := by kernel_rfl
@[simp] theorem ag239 : agg? Tryz.prog 239 = some false := by kernel_rfl
attribute [simp] Tryz.underlying244
@[simp] theorem sz244 : sizeOf? Tryz.prog 244 = some 1 := by kernel_rfl
@[simp] theorem ag244 : agg? Tryz.prog 244 = some false := by kernel_rfl
attribute [simp] Tryz.underlying246
@[simp] theorem sz246 : sizeOf? Tryz.prog 246 = some 1 := by kernel_rfl
@[simp] theorem ag246 : agg? Tryz.prog 246 = some false := by kernel_rfl
attribute [simp] Tryz.underlying247
@[simp] theorem sz247 : sizeOf? Tryz.prog 247 = some 2 := by kernel_rfl
@[simp] theorem ag247 : agg? Tryz.prog 247 = some true := by kernel_rfl
@[simp] theorem bv247 (parts : List (Nat × V)) : buildV Tryz.prog 247 parts = (fillV (fun i => [(0,1),(1,1)][i]?) [.nilS,.d (.int .i64 0)] parts).map mkAgg := buildV_struct (by kernel_rfl) (by kernel_rfl)
@[simp] theorem fo247_0 : fieldOff? Tryz.prog 247 0 = some (0,24) := by kernel_rfl
@[simp] theorem fo247_1 : fieldOff? Tryz.prog 247 1 = some (1,3) := by kernel_rfl
attribute [simp] Tryz.underlying248
@[simp] theorem sz248 : sizeOf? Tryz.prog 248 = some 2 := by kernel_rfl
@[simp] theorem ag248 : agg? Tryz.prog 248 = some true := by kernel_rfl
@[simp] theorem bv248 (parts : List (Nat × V)) : buildV Tryz.prog 248 parts = (fillV (fun i => [(0,1),(1,1)][i]?) [.nilS,.d (.int .i64 0)] parts).map mkAgg := buildV_struct (by kernel_rfl) (by kernel_rfl)
@[simp] theorem fo248_0 : fieldOff? Tryz.prog 248 0 = some (0,24) := by kernel_rfl
@[simp] theorem fo248_1 : fieldOff? Tryz.prog 248 1 = some (1,3) := by kernel_rfl
attribute [simp] Tryz.underlying250
@[simp] theorem sz250 : sizeOf? Tryz.prog 250 = some 1 := by kernel_rfl
@[simp] theorem ag250 : agg? Tryz.prog 250 = some false := by kernel_rfl
attribute [simp] Tryz.underlying252
@[simp] theorem sz252 : sizeOf? Tryz.prog 252 = some 1 := by kernel_rfl
@[simp] theorem ag252 : agg? Tryz.prog 252 = some false := by kernel_rfl
attribute [simp] Tryz.underlying257
@[simp] theorem sz257 : sizeOf? Tryz.prog 257 = some 1 := by kernel_rfl
@[simp] theorem ag257 : agg? Tryz.prog 257 = some false := by kernel_rfl
@[simp] theorem es257 : elemSize Tryz.prog 257 = 1 := by kernel_rfl
attribute [simp] Tryz.underlying258
@[simp] theorem sz258 : sizeOf? Tryz.prog 258 = some 1 := by kernel_rfl
@[simp] theorem ag258 : agg? Tryz.prog 258 = some false := by kernel_rfl
attribute [simp] Tryz.underlying260
@[simp] theorem sz260 : sizeOf? Tryz.prog 260 = some 1 := by kernel_rfl
@[simp] theorem ag260 : agg? Tryz.prog 260 = some false := by kernel_rfl
attribute [simp] Tryz.underlying261
@[simp] theorem sz261 : sizeOf? Tryz.prog 261 = some 2 := by kernel_rfl
@[simp] theorem ag261 : agg? Tryz.prog 261 = some true := by kernel_rfl
@[simp] theorem bv261 (parts : List (Nat × V)) : buildV Tryz.prog 261 parts = (fillV (fun i => [(0,1),(1,1)][i]?) [.nilS,.d (.int .i64 0)] parts).map mkAgg := buildV_struct (by kernel_rfl) (by kernel_rfl)
@[simp] theorem fo261_0 : fieldOff? Tryz.prog 261 0 = some (0,24) := by kernel_rfl
@[simp] theorem fo261_1 : fieldOff? Tryz.prog 261 1 = some (1,25) := by kernel_rfl
attribute [simp] Tryz.underlying262
@[simp] theorem sz262 : sizeOf? Tryz.prog 262 = some 2 := by kernel_rfl
@[simp] theorem ag262 : agg? Tryz.prog 262 = some true := by kernel_rfl
@[simp] theorem bv262 (parts : List (Nat × V)) : buildV Tryz.prog 262 parts = (fillV (fun i => [(0,1),(1,1)][i]?) [.nilS,.d (.int .i64 0)] parts).map mkAgg := buildV_struct (by kernel_rfl) (by kernel_rfl)
@[simp] theorem fo262_0 : fieldOff? Tryz.prog 262 0 = some (0,24) := by kernel_rfl
@[simp] theorem fo262_1 : fieldOff? Tryz.prog 262 1 = some (1,25) := by kernel_rfl
attribute [simp] Tryz.underlying265
@[simp] theorem sz265 : sizeOf? Tryz.prog 265 = some 1 := by kernel_rfl
@[simp] theorem ag265 : agg? Tryz.prog 265 = some false := by kernel_rfl
attribute [simp] Tryz.underlying267
@[simp] theorem sz267 : sizeOf? Tryz.prog 267 = some 1 := by kernel_rfl
@[simp] theorem ag267 : agg? Tryz.prog 267 = some false := by kernel_rfl
@[simp] theorem zs267 : zeroVs? Tryz.prog 267 = some [.d (.int .u64 0)] := by kernel_rfl
@[simp] theorem al267 (h : List Am.Obj) : allocV Tryz.prog h 267 = some (.ptr h.length 0,h ++ [.box [.d (.int .u64 0)]]) := allocV_of zs267
attribute [simp] Tryz.underlying273
@[simp] theorem sz273 : sizeOf? Tryz.prog 273 = some 5 := by kernel_rfl
@[simp] theorem ag273 : agg? Tryz.prog 273 = some true := by kernel_rfl
@[simp] theorem zs273 : zeroVs? Tryz.prog 273 = some [.d .nilF,.d .nilF,.d .nilF,.d .nilF,.d .nilF] := by kernel_rfl
@[simp] theorem al273 (h : List Am.Obj) : allocV Tryz.prog h 273 = some (.ptr h.length 0,h ++ [.box [.d .nilF,.d .nilF,.d .nilF,.d .nilF,.d .nilF]]) := allocV_of zs273
@[simp] theorem bv273 (parts : List (Nat × V)) : buildV Tryz.prog 273 parts = (fillV (fun i => some (i * 1,1)) [.d .nilF,.d .nilF,.d .nilF,.d .nilF,.d .nilF] parts).map mkAgg := buildV_array (by kernel_rfl) Tryz.underlying273 (by kernel_rfl)
attribute [simp] Tryz.underlying275
@[simp] theorem sz275 : sizeOf? Tryz.prog 275 = some 16 := by kernel_rfl
@[simp] theorem ag275 : agg? Tryz.prog 275 = some true := by kernel_rfl
@[simp] theorem bv275 (parts : List (Nat × V)) : buildV Tryz.prog 275 parts = (fillV (fun i => some (i * 1,1)) [.d (.int .u32 0),.d (.int .u32 0),.d (.int .u32 0),.d (.int .u32 0),.d (.int .u32 0),.d (.int .u32 0),.d (.int .u32 0),.d (.int .u32 0),.d (.int .u32 0),.d (.int .u32 0),.d (.int .u32 0),.d (.int .u32 0),.d (.int .u32 0),.d (.int .u32 0),.d (.int .u32 0),.d (.int .u32 0)] parts).map mkAgg := buildV_array (by kernel_rfl) Tryz.underlying275 (by kernel_rfl)
attribute [simp] Tryz.underlying278
@[simp] theorem sz278 : sizeOf? Tryz.prog 278 = some 1 := by kernel_rfl
@[simp] theorem ag278 : agg? Tryz.prog 278 = some false := by kernel_rfl
attribute [simp] Tryz.underlying280
@[simp] theorem sz280 : sizeOf? Tryz.prog 280 = some 1 := by kernel_rfl
@[simp] theorem ag280 : agg? Tryz.prog 280 = some false := by kernel_rfl
attribute [simp] Tryz.underlying282
@[simp] theorem sz282 : sizeOf? Tryz.prog 282 = some 1 := by kernel_rfl
@[simp] theorem ag282 : agg? Tryz.prog 282 = some false := by kernel_rfl
attribute [simp] Tryz.underlying286
@[simp] theorem sz286 : sizeOf? Tryz.prog 286 = some 1 := by kernel_rfl
@[simp] theorem ag286 : agg? Tryz.prog 286 = some false := by kernel_rfl
attribute [simp] Tryz.underlying288
@[simp] theorem sz288 : sizeOf? Tryz.prog 288 = some 1 := by kernel_rfl
@[simp] theorem ag288 : agg? Tryz.prog 288 = some false := by kernel_rfl
attribute [simp] Tryz.underlying289
@[simp] theorem sz289 : sizeOf? Tryz.prog 289 = some 1 := by kernel_rfl
@[simp] theorem ag289 : agg? Tryz.prog 289 = some false := by kernel_rfl
attribute [simp] Tryz.underlying298
@[simp] theorem sz298 : sizeOf? Tryz.prog 298 = some 1 := by kernel_rfl
@[simp] theorem ag298 : agg? Tryz.prog 298 = some false := by kernel_rfl
attribute [simp] Tryz.underlying300
@[simp] theorem sz300 : sizeOf? Tryz.prog 300 = some 1 := by kernel_rfl
@[simp] theorem ag300 : agg? Tryz.prog 300 = some false := by kernel_rfl
attribute [simp] Tryz.underlying302
@[simp] theorem sz302 : sizeOf? Tryz.prog 302 = some 1 := by kernel_rfl
@[simp] theorem ag302 : agg? Tryz.prog 302 = some false := by kernel_rfl
attribute [simp] Tryz.underlying303
@[simp] theorem sz303 : sizeOf? Tryz.prog 303 = some 2 := by kernel_rfl
@[simp] theorem ag303 : agg? Tryz.prog 303 = some true := by kernel_rfl
@[simp] theorem bv303 (parts : List (Nat × V)) : buildV Tryz.prog 303 parts = (fillV (fun i => [(0,1),(1,1)][i]?) [.nilS,.d (.int .i64 0)] parts).map mkAgg := buildV_struct (by kernel_rfl) (by kernel_rfl)
@[simp] theorem fo303_0 : fieldOff? Tryz.prog 303 0 = some (0,24) := by kernel_rfl
@[simp] theorem fo303_1 : fieldOff? Tryz.prog 303 1 = some (1,25) := by kernel_rfl
attribute [simp] Tryz.underlying304
@[simp] theorem sz304 : sizeOf? Tryz.prog 304 = some 2 := by kernel_rfl
@[simp] theorem ag304 : agg? Tryz.prog 304 = some true := by kernel_rfl
@[simp] theorem zs304 : zeroVs? Tryz.prog 304 = some [.nilS,.d (.int .i64 0)] := by kernel_rfl
@[simp] theorem bv304 (parts : List (Nat × V)) : buildV Tryz.prog 304 parts = (fillV (fun i => [(0,1),(1,1)][i]?) [.nilS,.d (.int .i64 0)] parts).map mkAgg := buildV_struct (by kernel_rfl) (by kernel_rfl)
@[simp] theorem fo304_0 : fieldOff? Tryz.prog 304 0 = some (0,24) := by kernel_rfl
@[simp] theorem fo304_1 : fieldOff? Tryz.prog 304 1 = some (1,25) := by kernel_rfl
attribute [simp] Tryz.underlying307
@[simp] theorem sz307 : sizeOf? Tryz.prog 307 = some 1 := by kernel_rfl
@[simp] theorem ag307 : agg? Tryz.prog 307 = some false := by kernel_rfl
attribute [simp] Tryz.underlying309
@[simp] theorem sz309 : sizeOf? Tryz.prog 309 = some 1 := by kernel_rfl
@[simp] theorem ag309 : agg? Tryz.prog 309 = some false := by kernel_rfl
def K : Keeps := fun f b => match f,b with
 | 5,0 => some [(6,0),(8,0),(10,0),(12,0),(13,0)]
 | 5,2 => some [(6,0),(8,0),(10,0),(14,0)]
 | 6,0 => some [(5,0),(7,0),(8,0),(9,0),(11,0),(13,0),(14,0)]
 | 6,2 => some [(5,0),(7,0),(8,0),(9,0),(11,0),(13,0),(15,3),(16,0)]
 | 15,0 => some [(0,0),(1,0),(17,0),(18,0),(19,0)]
 | 16,0 => some [(0,0),(3,1),(4,0)]
 | 17,0 => some [(0,0),(1,0),(6,0)]
 | 18,0 => some [(0,0),(3,3),(4,0)]
 | 24,0 => some [(0,0),(3,3),(4,0)]
 | 24,2 => some [(0,0),(3,3),(4,0),(5,3),(6,0),(7,0)]
 | 30,0 => some [(0,0),(3,0),(5,0)]
 | 31,0 => some [(3,1),(4,0),(5,0)]
 | 62,0 => some [(0,0),(1,0),(5,0)]
 | 62,2 => some [(0,0),(1,0),(5,0),(6,0),(7,0)]
 | 64,0 => some [(0,0),(1,0),(26,0),(27,0),(28,0)]
 | 64,2 => some [(0,0),(8,0),(9,1),(10,1),(11,1),(47,0),(48,0),(49,0)]
 | 65,0 => some [(0,0),(3,1)]
 | 67,0 => some [(0,0),(1,0),(6,0)]
 | 67,2 => some [(0,0),(1,0),(8,1),(9,1),(10,1),(11,1),(12,0),(13,0)]
 | 67,4 => some [(11,1),(15,0),(18,0),(19,1),(20,0)]
 | 67,6 => some [(11,1),(15,0),(18,0),(19,1),(20,0),(21,0)]
 | 70,0 => some [(5,0),(8,0),(9,0),(10,0)]
 | 72,0 => some [(0,0),(1,0),(12,0),(13,0)]
 | 75,0 => some [(0,0),(1,0),(2,0),(7,0),(8,0)]
 | 79,0 => some [(0,0),(1,0),(5,0)]
 | 79,2 => some [(0,0),(1,0),(5,0),(6,0)]
 | 114,0 => some [(0,0),(1,0),(2,0),(3,0),(4,0),(10,0),(11,0)]
 | 123,0 => some [(3,0),(11,0),(12,0),(13,0)]
 | 124,0 => some [(0,0),(4,1),(11,0)]
 | 125,0 => some [(0,0),(3,0),(4,0),(5,1),(20,0),(21,0),(22,0)]
 | 129,0 => some [(0,0),(4,1),(5,0)]
 | 130,0 => some [(0,0),(3,1),(4,0)]
 | 130,2 => some [(0,0),(3,1),(4,0),(5,1),(6,0),(7,0)]
 | 131,0 => some [(0,0),(3,1),(4,1),(5,0)]
 | 132,0 => some [(0,0),(1,0),(2,0),(9,0),(12,0),(56,0),(57,0),(58,0)]
 | 132,2 => some [(1000015,0),(17,0),(79,0),(80,0),(81,0)]
 | 162,0 => some [(0,0),(1,0),(2,0),(3,0),(8,0)]
 | 162,2 => some [(0,0),(1,0),(2,0),(3,0),(8,0),(9,0)]
 | 163,0 => some [(0,0),(3,0),(8,0),(9,0),(10,0),(11,0)]
 | 163,2 => some [(0,0),(3,0),(8,0),(9,0),(12,0)]
 | 164,0 => some [(0,0),(1,0),(8,0),(9,0),(10,0),(11,0)]
 | 166,0 => some [(0,0),(8,0),(9,0)]
 | 167,0 => some [(0,0),(1,0),(2,0),(3,0),(9,0),(10,0)]
 | 167,2 => some [(0,0),(1,0),(2,0),(3,0),(9,0),(10,0)]
 | 167,4 => some [(0,0),(1,0),(2,0),(3,0),(9,0),(10,0),(11,0)]
 | 167,6 => some [(0,0),(1,0),(2,0),(3,0),(9,0),(10,0),(12,0)]
 | 168,0 => some [(0,0),(1,0),(4,0),(11,0),(12,0)]
 | 168,2 => some [(0,0),(1,0),(4,0),(11,0),(12,0)]
 | 168,4 => some [(0,0),(1,0),(4,0),(11,0),(12,0)]
 | 169,0 => some [(0,0),(1,0),(4,0),(12,0),(13,0)]
 | 169,2 => some [(0,0),(1,0),(4,0),(12,0),(13,0)]
 | 169,4 => some [(0,0),(1,0),(4,0),(12,0),(13,0)]
 | 169,6 => some [(0,0),(1,0),(4,0),(12,0),(13,0)]
 | 169,8 => some [(0,0),(1,0),(4,0),(12,0),(13,0)]
 | 176,0 => some [(0,0),(1,0),(7,0),(8,0)]
 | 177,0 => some [(1,0),(6,0),(36,0),(37,0),(38,0)]
 | 177,2 => some [(1,0),(6,0),(7,0),(8,0),(9,0),(36,0),(37,0),(38,0)]
 | 179,0 => some [(0,0),(5,1),(6,1),(9,0),(10,0),(11,0)]
 | 183,0 => some [(0,0),(3,0)]
 | 183,2 => some [(0,0),(3,0),(4,0),(5,0)]
 | 184,0 => some [(0,0),(1,0),(6,0),(7,0),(8,0)]
 | 185,0 => some [(0,0),(9,0),(10,0),(11,0)]
 | 186,0 => some [(0,0),(1,0),(6,1),(7,0),(8,0)]
 | 186,2 => some [(0,0),(1,0),(6,1),(7,0),(8,0),(9,0)]
 | 187,1 => some [(1,0),(6,1),(7,0)]
 | 187,3 => some [(1,0),(6,1),(8,0)]
 | 187,5 => some [(1,0),(6,1),(9,0),(10,0)]
 | 187,7 => some [(1,0),(6,1),(11,0),(12,1),(13,0)]
 | 187,9 => some [(1,0),(6,1),(11,0),(12,1),(14,0)]
 | 187,11 => some [(1,0),(17,0),(18,1),(19,0)]
 | 189,0 => some [(7,0),(8,0)]
 | 191,1 => some [(8,1),(10,0),(30,0),(31,0),(32,0)]
 | 191,3 => some [(8,1),(14,0),(52,0),(53,0),(54,0)]
 | 191,5 => some [(8,1),(18,0),(73,0),(74,0),(75,0)]
 | 209,0 => some [(0,0),(2,0),(3,0),(4,0),(10,0)]
 | 214,0 => some [(3,0),(6,0),(7,0),(8,0)]
 | 215,0 => some [(3,1),(6,0),(7,0),(8,0)]
 | 216,0 => some [(3,1),(4,0),(7,0),(8,0),(9,0)]
 | 217,0 => some [(0,0),(3,1),(4,0)]
 | 217,2 => some [(0,0),(3,1),(4,0),(5,0)]
 | 218,0 => some [(0,0),(3,0),(4,0),(18,0),(19,0),(20,0)]
 | 218,2 => some [(3,0),(4,0),(7,0),(47,0),(48,0),(49,0)]
 | 219,0 => some [(3,0),(4,0),(16,0),(17,0),(18,0)]
 | 220,0 => some [(0,0),(1,0),(2,0),(3,0),(8,0),(9,0)]
 | 223,0 => some [(0,0),(3,0),(4,0)]
 | 223,2 => some [(0,0),(3,0),(4,0)]
 | 224,0 => some [(0,0),(3,1),(4,0)]
 | 224,2 => some [(0,0),(3,1),(4,0),(5,1),(6,0),(7,0)]
 | 225,0 => some [(0,0),(1,0),(5,0)]
 | 227,2 => some [(0,0),(1,0),(6,0),(7,1),(8,0)]
 | 236,0 => some [(0,0),(1,0),(6,0),(7,0),(8,0)]
 | 238,0 => some [(0,0),(3,0),(4,0)]
 | 239,0 => some [(0,0),(1,0),(2,0),(6,0)]
 | 239,2 => some [(0,0),(1,0),(2,0),(6,0),(7,0)]
 | 240,0 => some [(0,0),(6,0),(7,0),(8,0),(9,0)]
 | 240,2 => some [(0,0),(6,0),(7,0),(10,0)]
 | 241,0 => some [(0,0),(1,0),(6,0),(7,0),(8,0),(9,0)]
 | 243,0 => some [(0,0),(6,0),(7,0)]
 | 244,0 => some [(0,0),(1,0),(2,0),(7,0),(8,0)]
 | 244,2 => some [(0,0),(1,0),(2,0),(7,0),(8,0)]
 | 244,4 => some [(0,0),(1,0),(2,0),(7,0),(8,0),(9,0)]
 | 244,6 => some [(0,0),(1,0),(2,0),(7,0),(8,0),(10,0)]
 | 245,0 => some [(0,0),(1,0),(9,0),(10,0)]
 | 245,2 => some [(0,0),(1,0),(9,0),(10,0)]
 | 245,4 => some [(0,0),(1,0),(9,0),(10,0)]
 | 246,0 => some [(0,0),(1,0),(10,0),(11,0)]
 | 246,2 => some [(0,0),(1,0),(10,0),(11,0)]
 | 246,4 => some [(0,0),(1,0),(10,0),(11,0)]
 | 246,6 => some [(0,0),(1,0),(10,0),(11,0)]
 | 246,8 => some [(0,0),(1,0),(10,0),(11,0)]
 | 258,0 => some [(0,0),(3,0)]
 | 258,2 => some [(0,0),(3,0),(4,0),(5,0)]
 | 261,0 => some [(0,0),(2,0),(3,0),(8,0)]
 | 267,0 => some [(0,0),(1,0),(2,0),(3,0),(8,0),(9,0)]
 | 269,0 => some [(0,0),(1,0),(2,0),(6,0)]
 | 269,2 => some [(0,0),(1,0),(2,0),(6,0),(7,0)]
 | 270,0 => some [(0,0),(6,0),(7,0),(8,0),(9,0)]
 | 270,2 => some [(0,0),(6,0),(7,0),(10,0)]
 | 271,0 => some [(0,0),(1,0),(6,0),(7,0),(8,0),(9,0)]
 | 273,0 => some [(0,0),(6,0),(7,0)]
 | 274,0 => some [(0,0),(1,0),(2,0),(7,0),(8,0)]
 | 274,2 => some [(0,0),(1,0),(2,0),(7,0),(8,0)]
 | 274,4 => some [(0,0),(1,0),(2,0),(7,0),(8,0),(9,0)]
 | 274,6 => some [(0,0),(1,0),(2,0),(7,0),(8,0),(10,0)]
 | 275,0 => some [(0,0),(1,0),(9,0),(10,0)]
 | 275,2 => some [(0,0),(1,0),(9,0),(10,0)]
 | 275,4 => some [(0,0),(1,0),(9,0),(10,0)]
 | 276,0 => some [(0,0),(1,0),(10,0),(11,0)]
 | 276,2 => some [(0,0),(1,0),(10,0),(11,0)]
 | 276,4 => some [(0,0),(1,0),(10,0),(11,0)]
 | 276,6 => some [(0,0),(1,0),(10,0),(11,0)]
 | 276,8 => some [(0,0),(1,0),(10,0),(11,0)]
 | 277,0 => some [(0,0),(2,0),(3,0),(8,0)]
 | _,_ => none
def halfD : List D := [.int .u32 0,.int .u32 498536548,.int .u32 997073096,.int .u32 651767980,.int .u32 1994146192,.int .u32 1802195444,.int .u32 1303535960,.int .u32 1342533948,.int .u32 3988292384,.int .u32 4027552580,.int .u32 3604390888,.int .u32 3412177804,.int .u32 2607071920,.int .u32 2262029012,.int .u32 2685067896,.int .u32 3183342108]
def G : Nat → Option (List D) := fun g => if g = 0 then some halfD else if [1000060,1000062,1000114,1000162,1000163,1000164,1000165,1000166,1000167,1000168,1000169,1000179,1000182,1000183,1000189,1000209,1000212,1000213,1000220,1000234,1000239,1000240,1000241,1000242,1000243,1000244,1000245,1000246,1000257,1000258,1000261,1000262,1000263,1000267,1000268,1000269,1000270,1000271,1000272,1000273,1000274,1000275,1000276,1000277,1000278,1000279,1000280,2000059,2000127,2000181,2000256,3000020,3000178,3000027,4000027].contains g then some [] else none
@[simp] theorem G_0 : G 0 = some halfD := rfl
@[simp] theorem br_2 : byRef G 2 = false := by decide +kernel
@[simp] theorem th_2 : thaws G 2 = false := by decide +kernel
@[simp] theorem br_3 : byRef G 3 = false := by decide +kernel
theorem sp_3 : splits G 3 = false := by decide +kernel
@[simp] theorem th_3 : thaws G 3 = false := by decide +kernel
@[simp] theorem br_4 : byRef G 4 = false := by decide +kernel
@[simp] theorem th_4 : thaws G 4 = false := by decide +kernel
@[simp] theorem br_5 : byRef G 5 = false := by decide +kernel
@[simp] theorem th_5 : thaws G 5 = false := by decide +kernel
@[simp] theorem br_6 : byRef G 6 = false := by decide +kernel
@[simp] theorem th_6 : thaws G 6 = false := by decide +kernel
@[simp] theorem br_8 : byRef G 8 = false := by decide +kernel
@[simp] theorem th_8 : thaws G 8 = false := by decide +kernel
@[simp] theorem br_14 : byRef G 14 = false := by decide +kernel
theorem sp_14 : splits G 14 = false := by decide +kernel
@[simp] theorem th_14 : thaws G 14 = false := by decide +kernel
@[simp] theorem br_15 : byRef G 15 = false := by decide +kernel
theorem sp_15 : splits G 15 = false := by decide +kernel
@[simp] theorem th_15 : thaws G 15 = false := by decide +kernel
@[simp] theorem br_16 : byRef G 16 = false := by decide +kernel
theorem sp_16 : splits G 16 = false := by decide +kernel
@[simp] theorem th_16 : thaws G 16 = false := by decide +kernel
@[simp] theorem br_17 : byRef G 17 = false := by decide +kernel
theorem sp_17 : splits G 17 = false := by decide +kernel
@[simp] theorem th_17 : thaws G 17 = false := by decide +kernel
@[simp] theorem br_18 : byRef G 18 = false := by decide +kernel
theorem sp_18 : splits G 18 = false := by decide +kernel
@[simp] theorem th_18 : thaws G 18 = false := by decide +kernel
@[simp] theorem br_20 : byRef G 20 = false := by decide +kernel
theorem sp_20 : splits G 20 = false := by decide +kernel
@[simp] theorem th_20 : thaws G 20 = true := by decide +kernel
@[simp] theorem br_24 : byRef G 24 = false := by decide +kernel
theorem sp_24 : splits G 24 = false := by decide +kernel
@[simp] theorem th_24 : thaws G 24 = false := by decide +kernel
@[simp] theorem br_26 : byRef G 26 = false := by decide +kernel
theorem sp_26 : splits G 26 = false := by decide +kernel
@[simp] theorem th_26 : thaws G 26 = false := by decide +kernel
@[simp] theorem br_27 : byRef G 27 = false := by decide +kernel
theorem sp_27 : splits G 27 = false := by decide +kernel
@[simp] theorem th_27 : thaws G 27 = true := by decide +kernel
@[simp] theorem br_28 : byRef G 28 = false := by decide +kernel
theorem sp_28 : splits G 28 = false := by decide +kernel
@[simp] theorem th_28 : thaws G 28 = false := by decide +kernel
@[simp] theorem br_29 : byRef G 29 = false := by decide +kernel
theorem sp_29 : splits G 29 = false := by decide +kernel
@[simp] theorem th_29 : thaws G 29 = false := by decide +kernel
@[simp] theorem br_30 : byRef G 30 = false := by decide +kernel
theorem sp_30 : splits G 30 = false := by decide +kernel
@[simp] theorem th_30 : thaws G 30 = false := by decide +kernel
@[simp] theorem br_31 : byRef G 31 = false := by decide +kernel
theorem sp_31 : splits G 31 = false := by decide +kernel
@[simp] theorem th_31 : thaws G 31 = false := by decide +kernel
@[simp] theorem br_50 : byRef G 50 = false := by decide +kernel
@[simp] theorem th_50 : thaws G 50 = false := by decide +kernel
@[simp] theorem br_58 : byRef G 58 = false := by decide +kernel
theorem sp_58 : splits G 58 = false := by decide +kernel
@[simp] theorem th_58 : thaws G 58 = false := by decide +kernel
@[simp] theorem br_59 : byRef G 59 = false := by decide +kernel
theorem sp_59 : splits G 59 = true := by decide +kernel
@[simp] theorem th_59 : thaws G 59 = false := by decide +kernel
@[simp] theorem br_60 : byRef G 60 = true := by decide +kernel
theorem sp_60 : splits G 60 = false := by decide +kernel
@[simp] theorem th_60 : thaws G 60 = false := by decide +kernel
@[simp] theorem br_61 : byRef G 61 = false := by decide +kernel
theorem sp_61 : splits G 61 = false := by decide +kernel
@[simp] theorem th_61 : thaws G 61 = false := by decide +kernel
@[simp] theorem br_62 : byRef G 62 = true := by decide +kernel
theorem sp_62 : splits G 62 = false := by decide +kernel
@[simp] theorem th_62 : thaws G 62 = false := by decide +kernel
@[simp] theorem br_63 : byRef G 63 = false := by decide +kernel
theorem sp_63 : splits G 63 = false := by decide +kernel
@[simp] theorem th_63 : thaws G 63 = false := by decide +kernel
@[simp] theorem br_64 : byRef G 64 = false := by decide +kernel
theorem sp_64 : splits G 64 = false := by decide +kernel
@[simp] theorem th_64 : thaws G 64 = false := by decide +kernel
@[simp] theorem br_65 : byRef G 65 = false := by decide +kernel
theorem sp_65 : splits G 65 = false := by decide +kernel
@[simp] theorem th_65 : thaws G 65 = false := by decide +kernel
@[simp] theorem br_66 : byRef G 66 = false := by decide +kernel
theorem sp_66 : splits G 66 = false := by decide +kernel
@[simp] theorem th_66 : thaws G 66 = false := by decide +kernel
@[simp] theorem br_67 : byRef G 67 = false := by decide +kernel
theorem sp_67 : splits G 67 = false := by decide +kernel
@[simp] theorem th_67 : thaws G 67 = false := by decide +kernel
@[simp] theorem br_68 : byRef G 68 = false := by decide +kernel
theorem sp_68 : splits G 68 = false := by decide +kernel
@[simp] theorem th_68 : thaws G 68 = false := by decide +kernel
@[simp] theorem br_69 : byRef G 69 = false := by decide +kernel
theorem sp_69 : splits G 69 = false := by decide +kernel
@[simp] theorem th_69 : thaws G 69 = false := by decide +kernel
@[simp] theorem br_70 : byRef G 70 = false := by decide +kernel
theorem sp_70 : splits G 70 = false := by decide +kernel
@[simp] theorem th_70 : thaws G 70 = false := by decide +kernel
@[simp] theorem br_71 : byRef G 71 = false := by decide +kernel
theorem sp_71 : splits G 71 = false := by decide +kernel
@[simp] theorem th_71 : thaws G 71 = false := by decide +kernel
@[simp] theorem br_72 : byRef G 72 = false := by decide +kernel
theorem sp_72 : splits G 72 = false := by decide +kernel
@[simp] theorem th_72 : thaws G 72 = false := by decide +kernel
@[simp] theorem br_74 : byRef G 74 = false := by decide +kernel
theorem sp_74 : splits G 74 = false := by decide +kernel
@[simp] theorem th_74 : thaws G 74 = false := by decide +kernel
@[simp] theorem br_75 : byRef G 75 = false := by decide +kernel
theorem sp_75 : splits G 75 = false := by decide +kernel
@[simp] theorem th_75 : thaws G 75 = false := by decide +kernel
@[simp] theorem br_76 : byRef G 76 = false := by decide +kernel
theorem sp_76 : splits G 76 = false := by decide +kernel
@[simp] theorem th_76 : thaws G 76 = false := by decide +kernel
@[simp] theorem br_77 : byRef G 77 = false := by decide +kernel
theorem sp_77 : splits G 77 = false := by decide +kernel
@[simp] theorem th_77 : thaws G 77 = false := by decide +kernel
@[simp] theorem br_78 : byRef G 78 = false := by decide +kernel
theorem sp_78 : splits G 78 = false := by decide +kernel
@[simp] theorem th_78 : thaws G 78 = false := by decide +kernel
@[simp] theorem br_79 : byRef G 79 = false := by decide +kernel
theorem sp_79 : splits G 79 = false := by decide +kernel
@[simp] theorem th_79 : thaws G 79 = false := by decide +kernel
@[simp] theorem br_106 : byRef G 106 = false := by decide +kernel
theorem sp_106 : splits G 106 = false := by decide +kernel
@[simp] theorem th_106 : thaws G 106 = false := by decide +kernel
@[simp] theorem br_114 : byRef G 114 = true := by decide +kernel
theorem sp_114 : splits G 114 = false := by decide +kernel
@[simp] theorem th_114 : thaws G 114 = false := by decide +kernel
@[simp] theorem br_115 : byRef G 115 = false := by decide +kernel
theorem sp_115 : splits G 115 = false := by decide +kernel
@[simp] theorem th_115 : thaws G 115 = false := by decide +kernel
@[simp] theorem br_116 : byRef G 116 = false := by decide +kernel
theorem sp_116 : splits G 116 = false := by decide +kernel
@[simp] theorem th_116 : thaws G 116 = false := by decide +kernel
@[simp] theorem br_117 : byRef G 117 = false := by decide +kernel
theorem sp_117 : splits G 117 = false := by decide +kernel
@[simp] theorem th_117 : thaws G 117 = false := by decide +kernel
@[simp] theorem br_118 : byRef G 118 = false := by decide +kernel
theorem sp_118 : splits G 118 = false := by decide +kernel
@[simp] theorem th_118 : thaws G 118 = false := by decide +kernel
@[simp] theorem br_119 : byRef G 119 = false := by decide +kernel
theorem sp_119 : splits G 119 = false := by decide +kernel
@[simp] theorem th_119 : thaws G 119 = false := by decide +kernel
@[simp] theorem br_120 : byRef G 120 = false := by decide +kernel
theorem sp_120 : splits G 120 = false := by decide +kernel
@[simp] theorem th_120 : thaws G 120 = false := by decide +kernel
@[simp] theorem br_121 : byRef G 121 = false := by decide +kernel
theorem sp_121 : splits G 121 = false := by decide +kernel
@[simp] theorem th_121 : thaws G 121 = false := by decide +kernel
@[simp] theorem br_122 : byRef G 122 = false := by decide +kernel
theorem sp_122 : splits G 122 = false := by decide +kernel
@[simp] theorem th_122 : thaws G 122 = false := by decide +kernel
@[simp] theorem br_123 : byRef G 123 = false := by decide +kernel
theorem sp_123 : splits G 123 = false := by decide +kernel
@[simp] theorem th_123 : thaws G 123 = false := by decide +kernel
@[simp] theorem br_124 : byRef G 124 = false := by decide +kernel
theorem sp_124 : splits G 124 = false := by decide +kernel
@[simp] theorem th_124 : thaws G 124 = false := by decide +kernel
@[simp] theorem br_125 : byRef G 125 = false := by decide +kernel
theorem sp_125 : splits G 125 = false := by decide +kernel
@[simp] theorem th_125 : thaws G 125 = false := by decide +kernel
@[simp] theorem br_126 : byRef G 126 = false := by decide +kernel
theorem sp_126 : splits G 126 = false := by decide +kernel
@[simp] theorem th_126 : thaws G 126 = false := by decide +kernel
@[simp] theorem br_127 : byRef G 127 = false := by decide +kernel
theorem sp_127 : splits G 127 = true := by decide +kernel
@[simp] theorem th_127 : thaws G 127 = false := by decide +kernel
@[simp] theorem br_128 : byRef G 128 = false := by decide +kernel
theorem sp_128 : splits G 128 = false := by decide +kernel
@[simp] theorem th_128 : thaws G 128 = false := by decide +kernel
@[simp] theorem br_129 : byRef G 129 = false := by decide +kernel
theorem sp_129 : splits G 129 = false := by decide +kernel
@[simp] theorem th_129 : thaws G 129 = false := by decide +kernel
@[simp] theorem br_130 : byRef G 130 = false := by decide +kernel
theorem sp_130 : splits G 130 = false := by decide +kernel
@[simp] theorem th_130 : thaws G 130 = false := by decide +kernel
@[simp] theorem br_131 : byRef G 131 = false := by decide +kernel
theorem sp_131 : splits G 131 = false := by decide +kernel
@[simp] theorem th_131 : thaws G 131 = false := by decide +kernel
@[simp] theorem br_132 : byRef G 132 = false := by decide +kernel
theorem sp_132 : splits G 132 = false := by decide +kernel
@[simp] theorem th_132 : thaws G 132 = false := by decide +kernel
@[simp] theorem br_162 : byRef G 162 = true := by decide +kernel
theorem sp_162 : splits G 162 = false := by decide +kernel
@[simp] theorem th_162 : thaws G 162 = false := by decide +kernel
@[simp] theorem br_163 : byRef G 163 = true := by decide +kernel
theorem sp_163 : splits G 163 = false := by decide +kernel
@[simp] theorem th_163 : thaws G 163 = false := by decide +kernel
@[simp] theorem br_164 : byRef G 164 = true := by decide +kernel
theorem sp_164 : splits G 164 = false := by decide +kernel
@[simp] theorem th_164 : thaws G 164 = false := by decide +kernel
@[simp] theorem br_165 : byRef G 165 = true := by decide +kernel
theorem sp_165 : splits G 165 = false := by decide +kernel
@[simp] theorem th_165 : thaws G 165 = false := by decide +kernel
@[simp] theorem br_166 : byRef G 166 = true := by decide +kernel
theorem sp_166 : splits G 166 = false := by decide +kernel
@[simp] theorem th_166 : thaws G 166 = false := by decide +kernel
@[simp] theorem br_167 : byRef G 167 = true := by decide +kernel
theorem sp_167 : splits G 167 = false := by decide +kernel
@[simp] theorem th_167 : thaws G 167 = false := by decide +kernel
@[simp] theorem br_168 : byRef G 168 = true := by decide +kernel
theorem sp_168 : splits G 168 = false := by decide +kernel
@[simp] theorem th_168 : thaws G 168 = false := by decide +kernel
@[simp] theorem br_169 : byRef G 169 = true := by decide +kernel
theorem sp_169 : splits G 169 = false := by decide +kernel
@[simp] theorem th_169 : thaws G 169 = false := by decide +kernel
@[simp] theorem br_171 : byRef G 171 = false := by decide +kernel
theorem sp_171 : splits G 171 = false := by decide +kernel
@[simp] theorem th_171 : thaws G 171 = false := by decide +kernel
@[simp] theorem br_172 : byRef G 172 = false := by decide +kernel
theorem sp_172 : splits G 172 = false := by decide +kernel
@[simp] theorem th_172 : thaws G 172 = false := by decide +kernel
@[simp] theorem br_173 : byRef G 173 = false := by decide +kernel
theorem sp_173 : splits G 173 = false := by decide +kernel
@[simp] theorem th_173 : thaws G 173 = false := by decide +kernel
@[simp] theorem br_174 : byRef G 174 = false := by decide +kernel
theorem sp_174 : splits G 174 = false := by decide +kernel
@[simp] theorem th_174 : thaws G 174 = false := by decide +kernel
@[simp] theorem br_175 : byRef G 175 = false := by decide +kernel
theorem sp_175 : splits G 175 = false := by decide +kernel
@[simp] theorem th_175 : thaws G 175 = false := by decide +kernel
@[simp] theorem br_176 : byRef G 176 = false := by decide +kernel
theorem sp_176 : splits G 176 = false := by decide +kernel
@[simp] theorem th_176 : thaws G 176 = false := by decide +kernel
@[simp] theorem br_177 : byRef G 177 = false := by decide +kernel
theorem sp_177 : splits G 177 = false := by decide +kernel
@[simp] theorem th_177 : thaws G 177 = false := by decide +kernel
@[simp] theorem br_178 : byRef G 178 = false := by decide +kernel
theorem sp_178 : splits G 178 = false := by decide +kernel
@[simp] theorem th_178 : thaws G 178 = true := by decide +kernel
@[simp] theorem br_179 : byRef G 179 = true := by decide +kernel
theorem sp_179 : splits G 179 = false := by decide +kernel
@[simp] theorem th_179 : thaws G 179 = false := by decide +kernel
@[simp] theorem br_180 : byRef G 180 = false := by decide +kernel
theorem sp_180 : splits G 180 = false := by decide +kernel
@[simp] theorem th_180 : thaws G 180 = false := by decide +kernel
@[simp] theorem br_181 : byRef G 181 = false := by decide +kernel
theorem sp_181 : splits G 181 = true := by decide +kernel
@[simp] theorem th_181 : thaws G 181 = false := by decide +kernel
@[simp] theorem br_182 : byRef G 182 = true := by decide +kernel
theorem sp_182 : splits G 182 = false := by decide +kernel
@[simp] theorem th_182 : thaws G 182 = false := by decide +kernel
@[simp] theorem br_183 : byRef G 183 = true := by decide +kernel
theorem sp_183 : splits G 183 = false := by decide +kernel
@[simp] theorem th_183 : thaws G 183 = false := by decide +kernel
@[simp] theorem br_184 : byRef G 184 = false := by decide +kernel
theorem sp_184 : splits G 184 = false := by decide +kernel
@[simp] theorem th_184 : thaws G 184 = false := by decide +kernel
@[simp] theorem br_185 : byRef G 185 = false := by decide +kernel
theorem sp_185 : splits G 185 = false := by decide +kernel
@[simp] theorem th_185 : thaws G 185 = false := by decide +kernel
@[simp] theorem br_186 : byRef G 186 = false := by decide +kernel
theorem sp_186 : splits G 186 = false := by decide +kernel
@[simp] theorem th_186 : thaws G 186 = false := by decide +kernel
@[simp] theorem br_187 : byRef G 187 = false := by decide +kernel
theorem sp_187 : splits G 187 = false := by decide +kernel
@[simp] theorem th_187 : thaws G 187 = false := by decide +kernel
@[simp] theorem br_188 : byRef G 188 = false := by decide +kernel
theorem sp_188 : splits G 188 = false := by decide +kernel
@[simp] theorem th_188 : thaws G 188 = false := by decide +kernel
@[simp] theorem br_189 : byRef G 189 = true := by decide +kernel
theorem sp_189 : splits G 189 = false := by decide +kernel
@[simp] theorem th_189 : thaws G 189 = false := by decide +kernel
@[simp] theorem br_191 : byRef G 191 = false := by decide +kernel
theorem sp_191 : splits G 191 = false := by decide +kernel
@[simp] theorem th_191 : thaws G 191 = false := by decide +kernel
@[simp] theorem br_196 : byRef G 196 = false := by decide +kernel
theorem sp_196 : splits G 196 = false := by decide +kernel
@[simp] theorem th_196 : thaws G 196 = false := by decide +kernel
@[simp] theorem br_200 : byRef G 200 = false := by decide +kernel
theorem sp_200 : splits G 200 = false := by decide +kernel
@[simp] theorem th_200 : thaws G 200 = false := by decide +kernel
@[simp] theorem br_209 : byRef G 209 = true := by decide +kernel
theorem sp_209 : splits G 209 = false := by decide +kernel
@[simp] theorem th_209 : thaws G 209 = false := by decide +kernel
@[simp] theorem br_210 : byRef G 210 = false := by decide +kernel
theorem sp_210 : splits G 210 = false := by decide +kernel
@[simp] theorem th_210 : thaws G 210 = false := by decide +kernel
@[simp] theorem br_211 : byRef G 211 = false := by decide +kernel
theorem sp_211 : splits G 211 = false := by decide +kernel
@[simp] theorem th_211 : thaws G 211 = false := by decide +kernel
@[simp] theorem br_212 : byRef G 212 = true := by decide +kernel
theorem sp_212 : splits G 212 = false := by decide +kernel
@[simp] theorem th_212 : thaws G 212 = false := by decide +kernel
@[simp] theorem br_213 : byRef G 213 = true := by decide +kernel
theorem sp_213 : splits G 213 = false := by decide +kernel
@[simp] theorem th_213 : thaws G 213 = false := by decide +kernel
@[simp] theorem br_214 : byRef G 214 = false := by decide +kernel
theorem sp_214 : splits G 214 = false := by decide +kernel
@[simp] theorem th_214 : thaws G 214 = false := by decide +kernel
@[simp] theorem br_215 : byRef G 215 = false := by decide +kernel
theorem sp_215 : splits G 215 = false := by decide +kernel
@[simp] theorem th_215 : thaws G 215 = false := by decide +kernel
@[simp] theorem br_216 : byRef G 216 = false := by decide +kernel
theorem sp_216 : splits G 216 = false := by decide +kernel
@[simp] theorem th_216 : thaws G 216 = false := by decide +kernel
@[simp] theorem br_217 : byRef G 217 = false := by decide +kernel
theorem sp_217 : splits G 217 = false := by decide +kernel
@[simp] theorem th_217 : thaws G 217 = false := by decide +kernel
@[simp] theorem br_218 : byRef G 218 = false := by decide +kernel
theorem sp_218 : splits G 218 = false := by decide +kernel
@[simp] theorem th_218 : thaws G 218 = false := by decide +kernel
@[simp] theorem br_219 : byRef G 219 = false := by decide +kernel
theorem sp_219 : splits G 219 = false := by decide +kernel
@[simp] theorem th_219 : thaws G 219 = false := by decide +kernel
@[simp] theorem br_220 : byRef G 220 = true := by decide +kernel
theorem sp_220 : splits G 220 = false := by decide +kernel
@[simp] theorem th_220 : thaws G 220 = false := by decide +kernel
@[simp] theorem br_221 : byRef G 221 = false := by decide +kernel
theorem sp_221 : splits G 221 = false := by decide +kernel
@[simp] theorem th_221 : thaws G 221 = false := by decide +kernel
@[simp] theorem br_223 : byRef G 223 = false := by decide +kernel
theorem sp_223 : splits G 223 = false := by decide +kernel
@[simp] theorem th_223 : thaws G 223 = false := by decide +kernel
@[simp] theorem br_224 : byRef G 224 = false := by decide +kernel
theorem sp_224 : splits G 224 = false := by decide +kernel
@[simp] theorem th_224 : thaws G 224 = false := by decide +kernel
@[simp] theorem br_225 : byRef G 225 = false := by decide +kernel
theorem sp_225 : splits G 225 = false := by decide +kernel
@[simp] theorem th_225 : thaws G 225 = false := by decide +kernel
@[simp] theorem br_226 : byRef G 226 = false := by decide +kernel
theorem sp_226 : splits G 226 = false := by decide +kernel
@[simp] theorem th_226 : thaws G 226 = false := by decide +kernel
@[simp] theorem br_227 : byRef G 227 = false := by decide +kernel
theorem sp_227 : splits G 227 = false := by decide +kernel
@[simp] theorem th_227 : thaws G 227 = false := by decide +kernel
@[simp] theorem br_233 : byRef G 233 = false := by decide +kernel
theorem sp_233 : splits G 233 = false := by decide +kernel
@[simp] theorem th_233 : thaws G 233 = false := by decide +kernel
@[simp] theorem br_234 : byRef G 234 = true := by decide +kernel
theorem sp_234 : splits G 234 = false := by decide +kernel
@[simp] theorem th_234 : thaws G 234 = false := by decide +kernel
@[simp] theorem br_235 : byRef G 235 = false := by decide +kernel
theorem sp_235 : splits G 235 = false := by decide +kernel
@[simp] theorem th_235 : thaws G 235 = false := by decide +kernel
@[simp] theorem br_236 : byRef G 236 = false := by decide +kernel
theorem sp_236 : splits G 236 = false := by decide +kernel
@[simp] theorem th_236 : thaws G 236 = false := by decide +kernel
@[simp] theorem br_237 : byRef G 237 = false := by decide +kernel
theorem sp_237 : splits G 237 = false := by decide +kernel
@[simp] theorem th_237 : thaws G 237 = false := by decide +kernel
@[simp] theorem br_238 : byRef G 238 = false := by decide +kernel
theorem sp_238 : splits G 238 = false := by decide +kernel
@[simp] theorem th_238 : thaws G 238 = false := by decide +kernel
@[simp] theorem br_239 : byRef G 239 = true := by decide +kernel
theorem sp_239 : splits G 239 = false := by decide +kernel
@[simp] theorem th_239 : thaws G 239 = false := by decide +kernel
@[simp] theorem br_240 : byRef G 240 = true := by decide +kernel
theorem sp_240 : splits G 240 = false := by decide +kernel
@[simp] theorem th_240 : thaws G 240 = false := by decide +kernel
@[simp] theorem br_241 : byRef G 241 = true := by decide +kernel
theorem sp_241 : splits G 241 = false := by decide +kernel
@[simp] theorem th_241 : thaws G 241 = false := by decide +kernel
@[simp] theorem br_242 : byRef G 242 = true := by decide +kernel
theorem sp_242 : splits G 242 = false := by decide +kernel
@[simp] theorem th_242 : thaws G 242 = false := by decide +kernel
@[simp] theorem br_243 : byRef G 243 = true := by decide +kernel
theorem sp_243 : splits G 243 = false := by decide +kernel
@[simp] theorem th_243 : thaws G 243 = false := by decide +kernel
@[simp] theorem br_244 : byRef G 244 = true := by decide +kernel
theorem sp_244 : splits G 244 = false := by decide +kernel
@[simp] theorem th_244 : thaws G 244 = false := by decide +kernel
@[simp] theorem br_245 : byRef G 245 = true := by decide +kernel
theorem sp_245 : splits G 245 = false := by decide +kernel
@[simp] theorem th_245 : thaws G 245 = false := by decide +kernel
@[simp] theorem br_246 : byRef G 246 = true := by decide +kernel
theorem sp_246 : splits G 246 = false := by decide +kernel
@[simp] theorem th_246 : thaws G 246 = false := by decide +kernel
@[simp] theorem br_248 : byRef G 248 = false := by decide +kernel
theorem sp_248 : splits G 248 = false := by decide +kernel
@[simp] theorem th_248 : thaws G 248 = false := by decide +kernel
@[simp] theorem br_249 : byRef G 249 = false := by decide +kernel
theorem sp_249 : splits G 249 = false := by decide +kernel
@[simp] theorem th_249 : thaws G 249 = false := by decide +kernel
@[simp] theorem br_256 : byRef G 256 = false := by decide +kernel
theorem sp_256 : splits G 256 = true := by decide +kernel
@[simp] theorem th_256 : thaws G 256 = false := by decide +kernel
@[simp] theorem br_257 : byRef G 257 = true := by decide +kernel
theorem sp_257 : splits G 257 = false := by decide +kernel
@[simp] theorem th_257 : thaws G 257 = false := by decide +kernel
@[simp] theorem br_258 : byRef G 258 = true := by decide +kernel
theorem sp_258 : splits G 258 = false := by decide +kernel
@[simp] theorem th_258 : thaws G 258 = false := by decide +kernel
@[simp] theorem br_259 : byRef G 259 = false := by decide +kernel
theorem sp_259 : splits G 259 = false := by decide +kernel
@[simp] theorem th_259 : thaws G 259 = false := by decide +kernel
@[simp] theorem br_261 : byRef G 261 = true := by decide +kernel
theorem sp_261 : splits G 261 = false := by decide +kernel
@[simp] theorem th_261 : thaws G 261 = false := by decide +kernel
@[simp] theorem br_262 : byRef G 262 = true := by decide +kernel
theorem sp_262 : splits G 262 = false := by decide +kernel
@[simp] theorem th_262 : thaws G 262 = false := by decide +kernel
@[simp] theorem br_263 : byRef G 263 = true := by decide +kernel
theorem sp_263 : splits G 263 = false := by decide +kernel
@[simp] theorem th_263 : thaws G 263 = false := by decide +kernel
@[simp] theorem br_267 : byRef G 267 = true := by decide +kernel
theorem sp_267 : splits G 267 = false := by decide +kernel
@[simp] theorem th_267 : thaws G 267 = false := by decide +kernel
@[simp] theorem br_268 : byRef G 268 = true := by decide +kernel
theorem sp_268 : splits G 268 = false := by decide +kernel
@[simp] theorem th_268 : thaws G 268 = false := by decide +kernel
@[simp] theorem br_269 : byRef G 269 = true := by decide +kernel
theorem sp_269 : splits G 269 = false := by decide +kernel
@[simp] theorem th_269 : thaws G 269 = false := by decide +kernel
@[simp] theorem br_270 : byRef G 270 = true := by decide +kernel
theorem sp_270 : splits G 270 = false := by decide +kernel
@[simp] theorem th_270 : thaws G 270 = false := by decide +kernel
@[simp] theorem br_271 : byRef G 271 = true := by decide +kernel
theorem sp_271 : splits G 271 = false := by decide +kernel
@[simp] theorem th_271 : thaws G 271 = false := by decide +kernel
@[simp] theorem br_272 : byRef G 272 = true := by decide +kernel
theorem sp_272 : splits G 272 = false := by decide +kernel
@[simp] theorem th_272 : thaws G 272 = false := by decide +kernel
@[simp] theorem br_273 : byRef G 273 = true := by decide +kernel
theorem sp_273 : splits G 273 = false := by decide +kernel
@[simp] theorem th_273 : thaws G 273 = false := by decide +kernel
@[simp] theorem br_274 : byRef G 274 = true := by decide +kernel
theorem sp_274 : splits G 274 = false := by decide +kernel
@[simp] theorem th_274 : thaws G 274 = false := by decide +kernel
@[simp] theorem br_275 : byRef G 275 = true := by decide +kernel
theorem sp_275 : splits G 275 = false := by decide +kernel
@[simp] theorem th_275 : thaws G 275 = false := by decide +kernel
@[simp] theorem br_276 : byRef G 276 = true := by decide +kernel
theorem sp_276 : splits G 276 = false := by decide +kernel
@[simp] theorem th_276 : thaws G 276 = false := by decide +kernel
@[simp] theorem br_277 : byRef G 277 = true := by decide +kernel
theorem sp_277 : splits G 277 = false := by decide +kernel
@[simp] theorem th_277 : thaws G 277 = false := by decide +kernel
@[simp] theorem br_278 : byRef G 278 = true := by decide +kernel
theorem sp_278 : splits G 278 = false := by decide +kernel
@[simp] theorem th_278 : thaws G 278 = false := by decide +kernel
@[simp] theorem br_279 : byRef G 279 = true := by decide +kernel
theorem sp_279 : splits G 279 = false := by decide +kernel
@[simp] theorem th_279 : thaws G 279 = false := by decide +kernel
@[simp] theorem br_280 : byRef G 280 = true := by decide +kernel
theorem sp_280 : splits G 280 = false := by decide +kernel
@[simp] theorem th_280 : thaws G 280 = false := by decide +kernel
@[simp] theorem kp_20 : keeps G 20 = false := by decide +kernel
@[simp] theorem kp_178 : keeps G 178 = false := by decide +kernel
@[simp] theorem kp_27 : keeps G 27 = true := by decide +kernel
def Hn : Hints := fun f r => match f,r with
 | 6,23 => [11]
 | 8,6 => [0]
 | 132,31 => [6]
 | 249,4 => [8]
 | _,_ => []
@[simp] theorem K_5_0 : K 5 0 = some [(6,0),(8,0),(10,0),(12,0),(13,0)] := rfl
@[simp] theorem K_5_2 : K 5 2 = some [(6,0),(8,0),(10,0),(14,0)] := rfl
@[simp] theorem K_6_0 : K 6 0 = some [(5,0),(7,0),(8,0),(9,0),(11,0),(13,0),(14,0)] := rfl
@[simp] theorem K_6_2 : K 6 2 = some [(5,0),(7,0),(8,0),(9,0),(11,0),(13,0),(15,3),(16,0)] := rfl
@[simp] theorem K_15_0 : K 15 0 = some [(0,0),(1,0),(17,0),(18,0),(19,0)] := rfl
@[simp] theorem K_16_0 : K 16 0 = some [(0,0),(3,1),(4,0)] := rfl
@[simp] theorem K_17_0 : K 17 0 = some [(0,0),(1,0),(6,0)] := rfl
@[simp] theorem K_18_0 : K 18 0 = some [(0,0),(3,3),(4,0)] := rfl
@[simp] theorem K_24_0 : K 24 0 = some [(0,0),(3,3),(4,0)] := rfl
@[simp] theorem K_24_2 : K 24 2 = some [(0,0),(3,3),(4,0),(5,3),(6,0),(7,0)] := rfl
@[simp] theorem K_30_0 : K 30 0 = some [(0,0),(3,0),(5,0)] := rfl
@[simp] theorem K_31_0 : K 31 0 = some [(3,1),(4,0),(5,0)] := rfl
@[simp] theorem K_62_0 : K 62 0 = some [(0,0),(1,0),(5,0)] := rfl
@[simp] theorem K_62_2 : K 62 2 = some [(0,0),(1,0),(5,0),(6,0),(7,0)] := rfl
@[simp] theorem K_64_0 : K 64 0 = some [(0,0),(1,0),(26,0),(27,0),(28,0)] := rfl
@[simp] theorem K_64_2 : K 64 2 = some [(0,0),(8,0),(9,1),(10,1),(11,1),(47,0),(48,0),(49,0)] := rfl
@[simp] theorem K_65_0 : K 65 0 = some [(0,0),(3,1)] := rfl
@[simp] theorem K_67_0 : K 67 0 = some [(0,0),(1,0),(6,0)] := rfl
@[simp] theorem K_67_2 : K 67 2 = some [(0,0),(1,0),(8,1),(9,1),(10,1),(11,1),(12,0),(13,0)] := rfl
@[simp] theorem K_67_4 : K 67 4 = some [(11,1),(15,0),(18,0),(19,1),(20,0)] := rfl
@[simp] theorem K_67_6 : K 67 6 = some [(11,1),(15,0),(18,0),(19,1),(20,0),(21,0)] := rfl
@[simp] theorem K_70_0 : K 70 0 = some [(5,0),(8,0),(9,0),(10,0)] := rfl
@[simp] theorem K_72_0 : K 72 0 = some [(0,0),(1,0),(12,0),(13,0)] := rfl
@[simp] theorem K_75_0 : K 75 0 = some [(0,0),(1,0),(2,0),(7,0),(8,0)] := rfl
@[simp] theorem K_79_0 : K 79 0 = some [(0,0),(1,0),(5,0)] := rfl
@[simp] theorem K_79_2 : K 79 2 = some [(0,0),(1,0),(5,0),(6,0)] := rfl
@[simp] theorem K_114_0 : K 114 0 = some [(0,0),(1,0),(2,0),(3,0),(4,0),(10,0),(11,0)] := rfl
@[simp] theorem K_123_0 : K 123 0 = some [(3,0),(11,0),(12,0),(13,0)] := rfl
@[simp] theorem K_124_0 : K 124 0 = some [(0,0),(4,1),(11,0)] := rfl
@[simp] theorem K_125_0 : K 125 0 = some [(0,0),(3,0),(4,0),(5,1),(20,0),(21,0),(22,0)] := rfl
@[simp] theorem K_129_0 : K 129 0 = some [(0,0),(4,1),(5,0)] := rfl
@[simp] theorem K_130_0 : K 130 0 = some [(0,0),(3,1),(4,0)] := rfl
@[simp] theorem K_130_2 : K 130 2 = some [(0,0),(3,1),(4,0),(5,1),(6,0),(7,0)] := rfl
@[simp] theorem K_131_0 : K 131 0 = some [(0,0),(3,1),(4,1),(5,0)] := rfl
@[simp] theorem K_132_0 : K 132 0 = some [(0,0),(1,0),(2,0),(9,0),(12,0),(56,0),(57,0),(58,0)] := rfl
@[simp] theorem K_132_2 : K 132 2 = some [(1000015,0),(17,0),(79,0),(80,0),(81,0)] := rfl
@[simp] theorem K_162_0 : K 162 0 = some [(0,0),(1,0),(2,0),(3,0),(8,0)] := rfl
@[simp] theorem K_162_2 : K 162 2 = some [(0,0),(1,0),(2,0),(3,0),(8,0),(9,0)] := rfl
@[simp] theorem K_163_0 : K 163 0 = some [(0,0),(3,0),(8,0),(9,0),(10,0),(11,0)] := rfl
@[simp] theorem K_163_2 : K 163 2 = some [(0,0),(3,0),(8,0),(9,0),(12,0)] := rfl
@[simp] theorem K_164_0 : K 164 0 = some [(0,0),(1,0),(8,0),(9,0),(10,0),(11,0)] := rfl
@[simp] theorem K_166_0 : K 166 0 = some [(0,0),(8,0),(9,0)] := rfl
@[simp] theorem K_167_0 : K 167 0 = some [(0,0),(1,0),(2,0),(3,0),(9,0),(10,0)] := rfl
@[simp] theorem K_167_2 : K 167 2 = some [(0,0),(1,0),(2,0),(3,0),(9,0),(10,0)] := rfl
@[simp] theorem K_167_4 : K 167 4 = some [(0,0),(1,0),(2,0),(3,0),(9,0),(10,0),(11,0)] := rfl
@[simp] theorem K_167_6 : K 167 6 = some [(0,0),(1,0),(2,0),(3,0),(9,0),(10,0),(12,0)] := rfl
@[simp] theorem K_168_0 : K 168 0 = some [(0,0),(1,0),(4,0),(11,0),(12,0)] := rfl
@[simp] theorem K_168_2 : K 168 2 = some [(0,0),(1,0),(4,0),(11,0),(12,0)] := rfl
@[simp] theorem K_168_4 : K 168 4 = some [(0,0),(1,0),(4,0),(11,0),(12,0)] := rfl
@[simp] theorem K_169_0 : K 169 0 = some [(0,0),(1,0),(4,0),(12,0),(13,0)] := rfl
@[simp] theorem K_169_2 : K 169 2 = some [(0,0),(1,0),(4,0),(12,0),(13,0)] := rfl
@[simp] theorem K_169_4 : K 169 4 = some [(0,0),(1,0),(4,0),(12,0),(13,0)] := rfl
@[simp] theorem K_169_6 : K 169 6 = some [(0,0),(1,0),(4,0),(12,0),(13,0)] := rfl
@[simp] theorem K_169_8 : K 169 8 = some [(0,0),(1,0),(4,0),(12,0),(13,0)] := rfl
@[simp] theorem K_176_0 : K 176 0 = some [(0,0),(1,0),(7,0),(8,0)] := rfl
@[simp] theorem K_177_0 : K 177 0 = some [(1,0),(6,0),(36,0),(37,0),(38,0)] := rfl
@[simp] theorem K_177_2 : K 177 2 = some [(1,0),(6,0),(7,0),(8,0),(9,0),(36,0),(37,0),(38,0)] := rfl
@[simp] theorem K_179_0 : K 179 0 = some [(0,0),(5,1),(6,1),(9,0),(10,0),(11,0)] := rfl
@[simp] theorem K_183_0 : K 183 0 = some [(0,0),(3,0)] := rfl
@[simp] theorem K_183_2 : K 183 2 = some [(0,0),(3,0),(4,0),(5,0)] := rfl
@[simp] theorem K_184_0 : K 184 0 = some [(0,0),(1,0),(6,0),(7,0),(8,0)] := rfl
@[simp] theorem K_185_0 : K 185 0 = some [(0,0),(9,0),(10,0),(11,0)] := rfl
@[simp] theorem K_186_0 : K 186 0 = some [(0,0),(1,0),(6,1),(7,0),(8,0)] := rfl
@[simp] theorem K_186_2 : K 186 2 = some [(0,0),(1,0),(6,1),(7,0),(8,0),(9,0)] := rfl
@[simp] theorem K_187_1 : K 187 1 = some [(1,0),(6,1),(7,0)] := rfl
@[simp] theorem K_187_3 : K 187 3 = some [(1,0),(6,1),(8,0)] := rfl
@[simp] theorem K_187_5 : K 187 5 = some [(1,0),(6,1),(9,0),(10,0)] := rfl
@[simp] theorem K_187_7 : K 187 7 = some [(1,0),(6,1),(11,0),(12,1),(13,0)] := rfl
@[simp] theorem K_187_9 : K 187 9 = some [(1,0),(6,1),(11,0),(12,1),(14,0)] := rfl
@[simp] theorem K_187_11 : K 187 11 = some [(1,0),(17,0),(18,1),(19,0)] := rfl
@[simp] theorem K_189_0 : K 189 0 = some [(7,0),(8,0)] := rfl
@[simp] theorem K_191_1 : K 191 1 = some [(8,1),(10,0),(30,0),(31,0),(32,0)] := rfl
@[simp] theorem K_191_3 : K 191 3 = some [(8,1),(14,0),(52,0),(53,0),(54,0)] := rfl
@[simp] theorem K_191_5 : K 191 5 = some [(8,1),(18,0),(73,0),(74,0),(75,0)] := rfl
@[simp] theorem K_209_0 : K 209 0 = some [(0,0),(2,0),(3,0),(4,0),(10,0)] := rfl
@[simp] theorem K_214_0 : K 214 0 = some [(3,0),(6,0),(7,0),(8,0)] := rfl
@[simp] theorem K_215_0 : K 215 0 = some [(3,1),(6,0),(7,0),(8,0)] := rfl
@[simp] theorem K_216_0 : K 216 0 = some [(3,1),(4,0),(7,0),(8,0),(9,0)] := rfl
@[simp] theorem K_217_0 : K 217 0 = some [(0,0),(3,1),(4,0)] := rfl
@[simp] theorem K_217_2 : K 217 2 = some [(0,0),(3,1),(4,0),(5,0)] := rfl
@[simp] theorem K_218_0 : K 218 0 = some [(0,0),(3,0),(4,0),(18,0),(19,0),(20,0)] := rfl
@[simp] theorem K_218_2 : K 218 2 = some [(3,0),(4,0),(7,0),(47,0),(48,0),(49,0)] := rfl
@[simp] theorem K_219_0 : K 219 0 = some [(3,0),(4,0),(16,0),(17,0),(18,0)] := rfl
@[simp] theorem K_220_0 : K 220 0 = some [(0,0),(1,0),(2,0),(3,0),(8,0),(9,0)] := rfl
@[simp] theorem K_223_0 : K 223 0 = some [(0,0),(3,0),(4,0)] := rfl
@[simp] theorem K_223_2 : K 223 2 = some [(0,0),(3,0),(4,0)] := rfl
@[simp] theorem K_224_0 : K 224 0 = some [(0,0),(3,1),(4,0)] := rfl
@[simp] theorem K_224_2 : K 224 2 = some [(0,0),(3,1),(4,0),(5,1),(6,0),(7,0)] := rfl
@[simp] theorem K_225_0 : K 225 0 = some [(0,0),(1,0),(5,0)] := rfl
@[simp] theorem K_227_2 : K 227 2 = some [(0,0),(1,0),(6,0),(7,1),(8,0)] := rfl
@[simp] theorem K_236_0 : K 236 0 = some [(0,0),(1,0),(6,0),(7,0),(8,0)] := rfl
@[simp] theorem K_238_0 : K 238 0 = some [(0,0),(3,0),(4,0)] := rfl
@[simp] theorem K_239_0 : K 239 0 = some [(0,0),(1,0),(2,0),(6,0)] := rfl
@[simp] theorem K_239_2 : K 239 2 = some [(0,0),(1,0),(2,0),(6,0),(7,0)] := rfl
@[simp] theorem K_240_0 : K 240 0 = some [(0,0),(6,0),(7,0),(8,0),(9,0)] := rfl
@[simp] theorem K_240_2 : K 240 2 = some [(0,0),(6,0),(7,0),(10,0)] := rfl
@[simp] theorem K_241_0 : K 241 0 = some [(0,0),(1,0),(6,0),(7,0),(8,0),(9,0)] := rfl
@[simp] theorem K_243_0 : K 243 0 = some [(0,0),(6,0),(7,0)] := rfl
@[simp] theorem K_244_0 : K 244 0 = some [(0,0),(1,0),(2,0),(7,0),(8,0)] := rfl
@[simp] theorem K_244_2 : K 244 2 = some [(0,0),(1,0),(2,0),(7,0),(8,0)] := rfl
@[simp] theorem K_244_4 : K 244 4 = some [(0,0),(1,0),(2,0),(7,0),(8,0),(9,0)] := rfl
@[simp] theorem K_244_6 : K 244 6 = some [(0,0),(1,0),(2,0),(7,0),(8,0),(10,0)] := rfl
@[simp] theorem K_245_0 : K 245 0 = some [(0,0),(1,0),(9,0),(10,0)] := rfl
@[simp] theorem K_245_2 : K 245 2 = some [(0,0),(1,0),(9,0),(10,0)] := rfl
@[simp] theorem K_245_4 : K 245 4 = some [(0,0),(1,0),(9,0),(10,0)] := rfl
@[simp] theorem K_246_0 : K 246 0 = some [(0,0),(1,0),(10,0),(11,0)] := rfl
@[simp] theorem K_246_2 : K 246 2 = some [(0,0),(1,0),(10,0),(11,0)] := rfl
@[simp] theorem K_246_4 : K 246 4 = some [(0,0),(1,0),(10,0),(11,0)] := rfl
@[simp] theorem K_246_6 : K 246 6 = some [(0,0),(1,0),(10,0),(11,0)] := rfl
@[simp] theorem K_246_8 : K 246 8 = some [(0,0),(1,0),(10,0),(11,0)] := rfl
@[simp] theorem K_258_0 : K 258 0 = some [(0,0),(3,0)] := rfl
@[simp] theorem K_258_2 : K 258 2 = some [(0,0),(3,0),(4,0),(5,0)] := rfl
@[simp] theorem K_261_0 : K 261 0 = some [(0,0),(2,0),(3,0),(8,0)] := rfl
@[simp] theorem K_267_0 : K 267 0 = some [(0,0),(1,0),(2,0),(3,0),(8,0),(9,0)] := rfl
@[simp] theorem K_269_0 : K 269 0 = some [(0,0),(1,0),(2,0),(6,0)] := rfl
@[simp] theorem K_269_2 : K 269 2 = some [(0,0),(1,0),(2,0),(6,0),(7,0)] := rfl
@[simp] theorem K_270_0 : K 270 0 = some [(0,0),(6,0),(7,0),(8,0),(9,0)] := rfl
@[simp] theorem K_270_2 : K 270 2 = some [(0,0),(6,0),(7,0),(10,0)] := rfl
@[simp] theorem K_271_0 : K 271 0 = some [(0,0),(1,0),(6,0),(7,0),(8,0),(9,0)] := rfl
@[simp] theorem K_273_0 : K 273 0 = some [(0,0),(6,0),(7,0)] := rfl
@[simp] theorem K_274_0 : K 274 0 = some [(0,0),(1,0),(2,0),(7,0),(8,0)] := rfl
@[simp] theorem K_274_2 : K 274 2 = some [(0,0),(1,0),(2,0),(7,0),(8,0)] := rfl
@[simp] theorem K_274_4 : K 274 4 = some [(0,0),(1,0),(2,0),(7,0),(8,0),(9,0)] := rfl
@[simp] theorem K_274_6 : K 274 6 = some [(0,0),(1,0),(2,0),(7,0),(8,0),(10,0)] := rfl
@[simp] theorem K_275_0 : K 275 0 = some [(0,0),(1,0),(9,0),(10,0)] := rfl
@[simp] theorem K_275_2 : K 275 2 = some [(0,0),(1,0),(9,0),(10,0)] := rfl
@[simp] theorem K_275_4 : K 275 4 = some [(0,0),(1,0),(9,0),(10,0)] := rfl
@[simp] theorem K_276_0 : K 276 0 = some [(0,0),(1,0),(10,0),(11,0)] := rfl
@[simp] theorem K_276_2 : K 276 2 = some [(0,0),(1,0),(10,0),(11,0)] := rfl
@[simp] theorem K_276_4 : K 276 4 = some [(0,0),(1,0),(10,0),(11,0)] := rfl
@[simp] theorem K_276_6 : K 276 6 = some [(0,0),(1,0),(10,0),(11,0)] := rfl
@[simp] theorem K_276_8 : K 276 8 = some [(0,0),(1,0),(10,0),(11,0)] := rfl
@[simp] theorem K_277_0 : K 277 0 = some [(0,0),(2,0),(3,0),(8,0)] := rfl
@[simp] theorem Hn_6_20 : Hn 6 20 = [] := rfl
@[simp] theorem Hn_6_23 : Hn 6 23 = [11] := rfl
@[simp] theorem Hn_8_6 : Hn 8 6 = [0] := rfl
@[simp] theorem Hn_24_11 : Hn 24 11 = [] := rfl
@[simp] theorem Hn_30_4 : Hn 30 4 = [] := rfl
@[simp] theorem Hn_61_10 : Hn 61 10 = [] := rfl
@[simp] theorem Hn_62_6 : Hn 62 6 = [] := rfl
@[simp] theorem Hn_62_11 : Hn 62 11 = [] := rfl
@[simp] theorem Hn_67_42 : Hn 67 42 = [] := rfl
@[simp] theorem Hn_72_6 : Hn 72 6 = [] := rfl
@[simp] theorem Hn_76_1 : Hn 76 1 = [] := rfl
@[simp] theorem Hn_77_1 : Hn 77 1 = [] := rfl
@[simp] theorem Hn_114_17 : Hn 114 17 = [] := rfl
@[simp] theorem Hn_130_10 : Hn 130 10 = [] := rfl
@[simp] theorem Hn_130_12 : Hn 130 12 = [] := rfl
@[simp] theorem Hn_132_31 : Hn 132 31 = [6] := rfl
@[simp] theorem Hn_162_4 : Hn 162 4 = [] := rfl
@[simp] theorem Hn_162_6 : Hn 162 6 = [] := rfl
@[simp] theorem Hn_163_10 : Hn 163 10 = [] := rfl
@[simp] theorem Hn_164_10 : Hn 164 10 = [] := rfl
@[simp] theorem Hn_166_3 : Hn 166 3 = [] := rfl
@[simp] theorem Hn_167_5 : Hn 167 5 = [] := rfl
@[simp] theorem Hn_167_11 : Hn 167 11 = [] := rfl
@[simp] theorem Hn_167_16 : Hn 167 16 = [] := rfl
@[simp] theorem Hn_167_17 : Hn 167 17 = [] := rfl
@[simp] theorem Hn_167_22 : Hn 167 22 = [] := rfl
@[simp] theorem Hn_167_23 : Hn 167 23 = [] := rfl
@[simp] theorem Hn_168_1 : Hn 168 1 = [] := rfl
@[simp] theorem Hn_168_3 : Hn 168 3 = [] := rfl
@[simp] theorem Hn_168_5 : Hn 168 5 = [] := rfl
@[simp] theorem Hn_168_8 : Hn 168 8 = [] := rfl
@[simp] theorem Hn_169_1 : Hn 169 1 = [] := rfl
@[simp] theorem Hn_169_3 : Hn 169 3 = [] := rfl
@[simp] theorem Hn_169_5 : Hn 169 5 = [] := rfl
@[simp] theorem Hn_169_8 : Hn 169 8 = [] := rfl
@[simp] theorem Hn_169_10 : Hn 169 10 = [] := rfl
@[simp] theorem Hn_169_13 : Hn 169 13 = [] := rfl
@[simp] theorem Hn_169_15 : Hn 169 15 = [] := rfl
@[simp] theorem Hn_169_18 : Hn 169 18 = [] := rfl
@[simp] theorem Hn_169_21 : Hn 169 21 = [] := rfl
@[simp] theorem Hn_177_11 : Hn 177 11 = [] := rfl
@[simp] theorem Hn_183_6 : Hn 183 6 = [] := rfl
@[simp] theorem Hn_183_11 : Hn 183 11 = [] := rfl
@[simp] theorem Hn_187_16 : Hn 187 16 = [] := rfl
@[simp] theorem Hn_187_23 : Hn 187 23 = [] := rfl
@[simp] theorem Hn_187_36 : Hn 187 36 = [] := rfl
@[simp] theorem Hn_189_9 : Hn 189 9 = [] := rfl
@[simp] theorem Hn_209_3 : Hn 209 3 = [] := rfl
@[simp] theorem Hn_209_5 : Hn 209 5 = [] := rfl
@[simp] theorem Hn_209_6 : Hn 209 6 = [] := rfl
@[simp] theorem Hn_211_1 : Hn 211 1 = [] := rfl
@[simp] theorem Hn_211_2 : Hn 211 2 = [] := rfl
@[simp] theorem Hn_211_3 : Hn 211 3 = [] := rfl
@[simp] theorem Hn_217_5 : Hn 217 5 = [] := rfl
@[simp] theorem Hn_220_17 : Hn 220 17 = [] := rfl
@[simp] theorem Hn_224_10 : Hn 224 10 = [] := rfl
@[simp] theorem Hn_224_12 : Hn 224 12 = [] := rfl
@[simp] theorem Hn_227_29 : Hn 227 29 = [] := rfl
@[simp] theorem Hn_234_1 : Hn 234 1 = [] := rfl
@[simp] theorem Hn_239_4 : Hn 239 4 = [] := rfl
@[simp] theorem Hn_239_6 : Hn 239 6 = [] := rfl
@[simp] theorem Hn_240_10 : Hn 240 10 = [] := rfl
@[simp] theorem Hn_241_10 : Hn 241 10 = [] := rfl
@[simp] theorem Hn_243_3 : Hn 243 3 = [] := rfl
@[simp] theorem Hn_244_5 : Hn 244 5 = [] := rfl
@[simp] theorem Hn_244_11 : Hn 244 11 = [] := rfl
@[simp] theorem Hn_244_16 : Hn 244 16 = [] := rfl
@[simp] theorem Hn_244_17 : Hn 244 17 = [] := rfl
@[simp] theorem Hn_244_22 : Hn 244 22 = [] := rfl
@[simp] theorem Hn_244_23 : Hn 244 23 = [] := rfl
@[simp] theorem Hn_245_1 : Hn 245 1 = [] := rfl
@[simp] theorem Hn_245_3 : Hn 245 3 = [] := rfl
@[simp] theorem Hn_245_5 : Hn 245 5 = [] := rfl
@[simp] theorem Hn_245_8 : Hn 245 8 = [] := rfl
@[simp] theorem Hn_246_1 : Hn 246 1 = [] := rfl
@[simp] theorem Hn_246_3 : Hn 246 3 = [] := rfl
@[simp] theorem Hn_246_5 : Hn 246 5 = [] := rfl
@[simp] theorem Hn_246_8 : Hn 246 8 = [] := rfl
@[simp] theorem Hn_246_10 : Hn 246 10 = [] := rfl
@[simp] theorem Hn_246_13 : Hn 246 13 = [] := rfl
@[simp] theorem Hn_246_15 : Hn 246 15 = [] := rfl
@[simp] theorem Hn_246_18 : Hn 246 18 = [] := rfl
@[simp] theorem Hn_246_21 : Hn 246 21 = [] := rfl
@[simp] theorem Hn_249_4 : Hn 249 4 = [8] := rfl
@[simp] theorem Hn_258_6 : Hn 258 6 = [] := rfl
@[simp] theorem Hn_258_11 : Hn 258 11 = [] := rfl
@[simp] theorem Hn_261_3 : Hn 261 3 = [] := rfl
@[simp] theorem Hn_261_5 : Hn 261 5 = [] := rfl
@[simp] theorem Hn_261_6 : Hn 261 6 = [] := rfl
@[simp] theorem Hn_267_17 : Hn 267 17 = [] := rfl
@[simp] theorem Hn_268_1 : Hn 268 1 = [] := rfl
@[simp] theorem Hn_269_4 : Hn 269 4 = [] := rfl
@[simp] theorem Hn_269_6 : Hn 269 6 = [] := rfl
@[simp] theorem Hn_270_10 : Hn 270 10 = [] := rfl
@[simp] theorem Hn_271_10 : Hn 271 10 = [] := rfl
@[simp] theorem Hn_273_3 : Hn 273 3 = [] := rfl
@[simp] theorem Hn_274_5 : Hn 274 5 = [] := rfl
@[simp] theorem Hn_274_11 : Hn 274 11 = [] := rfl
@[simp] theorem Hn_274_16 : Hn 274 16 = [] := rfl
@[simp] theorem Hn_274_17 : Hn 274 17 = [] := rfl
@[simp] theorem Hn_274_22 : Hn 274 22 = [] := rfl
@[simp] theorem Hn_274_23 : Hn 274 23 = [] := rfl
@[simp] theorem Hn_275_1 : Hn 275 1 = [] := rfl
@[simp] theorem Hn_275_3 : Hn 275 3 = [] := rfl
@[simp] theorem Hn_275_5 : Hn 275 5 = [] := rfl
@[simp] theorem Hn_275_8 : Hn 275 8 = [] := rfl
@[simp] theorem Hn_276_1 : Hn 276 1 = [] := rfl
@[simp] theorem Hn_276_3 : Hn 276 3 = [] := rfl
@[simp] theorem Hn_276_5 : Hn 276 5 = [] := rfl
@[simp] theorem Hn_276_8 : Hn 276 8 = [] := rfl
@[simp] theorem Hn_276_10 : Hn 276 10 = [] := rfl
@[simp] theorem Hn_276_13 : Hn 276 13 = [] := rfl
@[simp] theorem Hn_276_15 : Hn 276 15 = [] := rfl
@[simp] theorem Hn_276_18 : Hn 276 18 = [] := rfl
@[simp] theorem Hn_276_21 : Hn 276 21 = [] := rfl
@[simp] theorem Hn_277_3 : Hn 277 3 = [] := rfl
@[simp] theorem Hn_277_5 : Hn 277 5 = [] := rfl
@[simp] theorem Hn_277_6 : Hn 277 6 = [] := rfl
@[simp] theorem Hn_280_1 : Hn 280 1 = [] := rfl
noncomputable abbrev R : Run := Runs Tryz.prog G K Hn
end Go.Am.Ab
namespace Go.Am.Ab
structure Fld where
 id : Int
 name : ByteArray
 kind : Int
 need : Bool
structure Sch where
 id : Int
 fields : List Fld
structure Snap where
 id : Int
 parent : Int
 seq : Int
 offset : Int
 time : Int
 schema : Int
 mans : List ByteArray
structure Tab where
 schemas : List Sch
 snaps : List Snap
 current : Int
structure Pol where
 keep : Int
 age : Int
abbrev u64 (n : Int) : D := .int .u64 n
abbrev i64 (n : Int) : D := .int .i64 n
def Fld.d (f : Fld) : D := .agg [.int .u32 f.id,.str f.name,.int .u8 f.kind,.bool f.need]
def Sch.d (s : Sch) : D := .agg [.int .u32 s.id,.list (s.fields.map Fld.d)]
def Snap.d (s : Snap) : D := .agg [.int .u64 s.id,.int .u64 s.parent,.int .u64 s.seq,.int .u64 s.offset,.int .u64 s.time,.int .u32 s.schema,.list (s.mans.map .str)]
def Tab.d (t : Tab) : D := .agg [.list (t.schemas.map Sch.d),.list (t.snaps.map Snap.d),.int .u64 t.current]
def Pol.d (p : Pol) : D := .agg [.int .i64 p.keep,.int .u64 p.age]
attribute [simp] Fld.d Sch.d Snap.d Tab.d Pol.d
end Go.Am.Ab
namespace Go.Am
theorem bits_u8 : IntKind.bits .u8 = 8 := rfl
theorem bits_u32 : IntKind.bits .u32 = 32 := rfl
theorem bits_u64 : IntKind.bits .u64 = 64 := rfl
theorem bits_i64 : IntKind.bits .i64 = 64 := rfl
theorem wrap_mod_u8 (x : Int) : IntKind.u8.wrap x = x % 256 := by simp [IntKind.wrap,IntKind.signed,IntKind.bits]
theorem wrap_mod_u32 (x : Int) : IntKind.u32.wrap x = x % 4294967296 := by simp [IntKind.wrap,IntKind.signed,IntKind.bits]
theorem wrap_mod_u64 (x : Int) : IntKind.u64.wrap x = x % 18446744073709551616 := by simp [IntKind.wrap,IntKind.signed,IntKind.bits]
theorem wrap_mod_i64 (x : Int) : IntKind.i64.wrap x = if x % 18446744073709551616 ≥ 9223372036854775808 then x % 18446744073709551616 - 18446744073709551616 else x % 18446744073709551616 := by
 simp [IntKind.wrap,IntKind.signed,IntKind.bits]
theorem ofInt_nat (n : Nat) (w : Nat) : (BitVec.ofInt w (n : Int)).toNat = n % 2 ^ w := by
 rw [BitVec.toNat_ofInt]
 have : (n : Int) % ((2 ^ w : Nat) : Int) = ((n % 2 ^ w : Nat) : Int) := by rw [Int.natCast_emod]
 rw [this,Int.toNat_natCast]
theorem or_u64 {x y : Nat} (hx : x < 2 ^ 64) (hy : y < 2 ^ 64) : IntKind.u64.wrap (BitVec.ofInt 64 (x : Int) ||| BitVec.ofInt 64 (y : Int)).toNat = ((x ||| y : Nat) : Int) := by
 rw [BitVec.toNat_or,ofInt_nat,ofInt_nat,Nat.mod_eq_of_lt hx,Nat.mod_eq_of_lt hy,wrap_mod_u64]
 have := Nat.or_lt_two_pow hx hy
 omega
theorem and_u64 {x y : Nat} (hx : x < 2 ^ 64) (hy : y < 2 ^ 64) : IntKind.u64.wrap (BitVec.ofInt 64 (x : Int) &&& BitVec.ofInt 64 (y : Int)).toNat = ((x &&& y : Nat) : Int) := by
 rw [BitVec.toNat_and,ofInt_nat,ofInt_nat,Nat.mod_eq_of_lt hx,Nat.mod_eq_of_lt hy,wrap_mod_u64]
 have := Nat.and_lt_two_pow x hy
 omega
theorem xor_u64 {x y : Nat} (hx : x < 2 ^ 64) (hy : y < 2 ^ 64) : IntKind.u64.wrap (BitVec.ofInt 64 (x : Int) ^^^ BitVec.ofInt 64 (y : Int)).toNat = ((x ^^^ y : Nat) : Int) := by
 rw [BitVec.toNat_xor,ofInt_nat,ofInt_nat,Nat.mod_eq_of_lt hx,Nat.mod_eq_of_lt hy,wrap_mod_u64]
 have := Nat.xor_lt_two_pow hx hy
 omega
theorem or_u8 {x y : Nat} (hx : x < 2 ^ 8) (hy : y < 2 ^ 8) : IntKind.u8.wrap (BitVec.ofInt 8 (x : Int) ||| BitVec.ofInt 8 (y : Int)).toNat = ((x ||| y : Nat) : Int) := by
 rw [BitVec.toNat_or,ofInt_nat,ofInt_nat,Nat.mod_eq_of_lt hx,Nat.mod_eq_of_lt hy,wrap_mod_u8]
 have := Nat.or_lt_two_pow hx hy
 omega
theorem and_u8 {x y : Nat} (hx : x < 2 ^ 8) (hy : y < 2 ^ 8) : IntKind.u8.wrap (BitVec.ofInt 8 (x : Int) &&& BitVec.ofInt 8 (y : Int)).toNat = ((x &&& y : Nat) : Int) := by
 rw [BitVec.toNat_and,ofInt_nat,ofInt_nat,Nat.mod_eq_of_lt hx,Nat.mod_eq_of_lt hy,wrap_mod_u8]
 have := Nat.and_lt_two_pow x hy
 omega
theorem or_u32 {x y : Nat} (hx : x < 2 ^ 32) (hy : y < 2 ^ 32) : IntKind.u32.wrap (BitVec.ofInt 32 (x : Int) ||| BitVec.ofInt 32 (y : Int)).toNat = ((x ||| y : Nat) : Int) := by
 rw [BitVec.toNat_or,ofInt_nat,ofInt_nat,Nat.mod_eq_of_lt hx,Nat.mod_eq_of_lt hy,wrap_mod_u32]
 have := Nat.or_lt_two_pow hx hy
 omega
theorem and_u32 {x y : Nat} (hx : x < 2 ^ 32) (hy : y < 2 ^ 32) : IntKind.u32.wrap (BitVec.ofInt 32 (x : Int) &&& BitVec.ofInt 32 (y : Int)).toNat = ((x &&& y : Nat) : Int) := by
 rw [BitVec.toNat_and,ofInt_nat,ofInt_nat,Nat.mod_eq_of_lt hx,Nat.mod_eq_of_lt hy,wrap_mod_u32]
 have := Nat.and_lt_two_pow x hy
 omega
theorem xor_u32 {x y : Nat} (hx : x < 2 ^ 32) (hy : y < 2 ^ 32) : IntKind.u32.wrap (BitVec.ofInt 32 (x : Int) ^^^ BitVec.ofInt 32 (y : Int)).toNat = ((x ^^^ y : Nat) : Int) := by
 rw [BitVec.toNat_xor,ofInt_nat,ofInt_nat,Nat.mod_eq_of_lt hx,Nat.mod_eq_of_lt hy,wrap_mod_u32]
 have := Nat.xor_lt_two_pow hx hy
 omega
theorem intBin_or_u8 {x y : Int} (h1 : 0 ≤ x) (h2 : x < 256) (h3 : 0 ≤ y) (h4 : y < 256) : intBin .or .u8 x y = some (.int .u8 ((x.toNat ||| y.toNat : Nat) : Int)) := by
 obtain ⟨a,rfl⟩ := Int.eq_ofNat_of_zero_le h1
 obtain ⟨b,rfl⟩ := Int.eq_ofNat_of_zero_le h3
 show some (D.int .u8 _) = _
 rw [Int.toNat_natCast,Int.toNat_natCast]
 exact congrArg (fun z => some (D.int .u8 z)) (or_u8 (by omega) (by omega))
attribute [simp] intBin_or_u8
theorem intBin_and_u8 {x y : Int} (h1 : 0 ≤ x) (h2 : x < 256) (h3 : 0 ≤ y) (h4 : y < 256) : intBin .and .u8 x y = some (.int .u8 ((x.toNat &&& y.toNat : Nat) : Int)) := by
 obtain ⟨a,rfl⟩ := Int.eq_ofNat_of_zero_le h1
 obtain ⟨b,rfl⟩ := Int.eq_ofNat_of_zero_le h3
 show some (D.int .u8 _) = _
 rw [Int.toNat_natCast,Int.toNat_natCast]
 exact congrArg (fun z => some (D.int .u8 z)) (and_u8 (by omega) (by omega))
attribute [simp] intBin_and_u8
theorem intBin_or_u32 {x y : Int} (h1 : 0 ≤ x) (h2 : x < 4294967296) (h3 : 0 ≤ y) (h4 : y < 4294967296) : intBin .or .u32 x y = some (.int .u32 ((x.toNat ||| y.toNat : Nat) : Int)) := by
 obtain ⟨a,rfl⟩ := Int.eq_ofNat_of_zero_le h1
 obtain ⟨b,rfl⟩ := Int.eq_ofNat_of_zero_le h3
 show some (D.int .u32 _) = _
 rw [Int.toNat_natCast,Int.toNat_natCast]
 exact congrArg (fun z => some (D.int .u32 z)) (or_u32 (by omega) (by omega))
attribute [simp] intBin_or_u32
theorem intBin_and_u32 {x y : Int} (h1 : 0 ≤ x) (h2 : x < 4294967296) (h3 : 0 ≤ y) (h4 : y < 4294967296) : intBin .and .u32 x y = some (.int .u32 ((x.toNat &&& y.toNat : Nat) : Int)) := by
 obtain ⟨a,rfl⟩ := Int.eq_ofNat_of_zero_le h1
 obtain ⟨b,rfl⟩ := Int.eq_ofNat_of_zero_le h3
 show some (D.int .u32 _) = _
 rw [Int.toNat_natCast,Int.toNat_natCast]
 exact congrArg (fun z => some (D.int .u32 z)) (and_u32 (by omega) (by omega))
attribute [simp] intBin_and_u32
theorem intBin_xor_u32 {x y : Int} (h1 : 0 ≤ x) (h2 : x < 4294967296) (h3 : 0 ≤ y) (h4 : y < 4294967296) : intBin .xor .u32 x y = some (.int .u32 ((x.toNat ^^^ y.toNat : Nat) : Int)) := by
 obtain ⟨a,rfl⟩ := Int.eq_ofNat_of_zero_le h1
 obtain ⟨b,rfl⟩ := Int.eq_ofNat_of_zero_le h3
 show some (D.int .u32 _) = _
 rw [Int.toNat_natCast,Int.toNat_natCast]
 exact congrArg (fun z => some (D.int .u32 z)) (xor_u32 (by omega) (by omega))
attribute [simp] intBin_xor_u32
theorem intBin_or_u64 {x y : Int} (h1 : 0 ≤ x) (h2 : x < 18446744073709551616) (h3 : 0 ≤ y) (h4 : y < 18446744073709551616) : intBin .or .u64 x y = some (.int .u64 ((x.toNat ||| y.toNat : Nat) : Int)) := by
 obtain ⟨a,rfl⟩ := Int.eq_ofNat_of_zero_le h1
 obtain ⟨b,rfl⟩ := Int.eq_ofNat_of_zero_le h3
 show some (D.int .u64 _) = _
 rw [Int.toNat_natCast,Int.toNat_natCast]
 exact congrArg (fun z => some (D.int .u64 z)) (or_u64 (by omega) (by omega))
attribute [simp] intBin_or_u64
theorem intBin_and_u64 {x y : Int} (h1 : 0 ≤ x) (h2 : x < 18446744073709551616) (h3 : 0 ≤ y) (h4 : y < 18446744073709551616) : intBin .and .u64 x y = some (.int .u64 ((x.toNat &&& y.toNat : Nat) : Int)) := by
 obtain ⟨a,rfl⟩ := Int.eq_ofNat_of_zero_le h1
 obtain ⟨b,rfl⟩ := Int.eq_ofNat_of_zero_le h3
 show some (D.int .u64 _) = _
 rw [Int.toNat_natCast,Int.toNat_natCast]
 exact congrArg (fun z => some (D.int .u64 z)) (and_u64 (by omega) (by omega))
attribute [simp] intBin_and_u64
theorem intBin_xor_u64 {x y : Int} (h1 : 0 ≤ x) (h2 : x < 18446744073709551616) (h3 : 0 ≤ y) (h4 : y < 18446744073709551616) : intBin .xor .u64 x y = some (.int .u64 ((x.toNat ^^^ y.toNat : Nat) : Int)) := by
 obtain ⟨a,rfl⟩ := Int.eq_ofNat_of_zero_le h1
 obtain ⟨b,rfl⟩ := Int.eq_ofNat_of_zero_le h3
 show some (D.int .u64 _) = _
 rw [Int.toNat_natCast,Int.toNat_natCast]
 exact congrArg (fun z => some (D.int .u64 z)) (xor_u64 (by omega) (by omega))
attribute [simp] intBin_xor_u64
theorem or_add {x y i : Nat} (hx : x % 2 ^ i = 0) (hy : y < 2 ^ i) : x ||| y = x + y := by
 have e : x = 2 ^ i * (x / 2 ^ i) := by
  have := Nat.div_add_mod x (2 ^ i)
  omega
 rw [e,Nat.two_pow_add_eq_or_of_lt hy]
theorem or_add' {x y i : Nat} (hx : x % 2 ^ i = 0) (hy : y < 2 ^ i) : y ||| x = y + x := by rw [Nat.or_comm,or_add hx hy,Nat.add_comm]
theorem or128 (n : Nat) : (n % 256 ||| 128) = n % 128 + 128 := by
 have h1 : n % 256 = n % 128 + 128 * (n / 128 % 2) := by omega
 have h2 : n / 128 % 2 = 0 ∨ n / 128 % 2 = 1 := by omega
 have h3 : n % 128 < 2 ^ 7 := by omega
 rcases h2 with h | h
 ·rw [h1,h,Nat.mul_zero,Nat.add_zero]
  rw [or_add' (i := 7) (by decide) h3]
 ·rw [h1,h,Nat.mul_one]
  have : n % 128 + 128 = n % 128 ||| 128 := (or_add' (i := 7) (by decide) h3).symm
  rw [this,Nat.or_assoc,Nat.or_self]
theorem and_mask (n k : Nat) : n &&& (2 ^ k - 1) = n % 2 ^ k := Nat.and_two_pow_sub_one_eq_mod n k
theorem and127 (n : Nat) : n &&& 127 = n % 128 := and_mask n 7
theorem and1 (n : Nat) : n &&& 1 = n % 2 := and_mask n 1
theorem xor_ones {x : Nat} (hx : x < 2 ^ 64) : x ^^^ 18446744073709551615 = 18446744073709551615 - x := by
 have h : (BitVec.ofNat 64 x ^^^ BitVec.allOnes 64).toNat = (~~~ BitVec.ofNat 64 x).toNat := by rw [BitVec.xor_allOnes]
 rw [BitVec.toNat_xor,BitVec.toNat_not,BitVec.toNat_ofNat,BitVec.toNat_allOnes,Nat.mod_eq_of_lt hx] at h
 exact h
theorem intBin_xor_i64_zero {x : Int} (h1 : -9223372036854775808 ≤ x) (h2 : x ≤ 9223372036854775807) : intBin .xor .i64 x 0 = some (.int .i64 x) := by
 show some (D.int .i64 (IntKind.i64.wrap (BitVec.ofInt 64 x ^^^ BitVec.ofInt 64 0).toNat)) = _
 have : BitVec.ofInt 64 0 = 0#64 := rfl
 rw [this,BitVec.xor_zero,BitVec.toNat_ofInt,wrap_mod_i64]
 congr 2
 split <;> omega
theorem intBin_xor_i64_m1 {x : Int} (h1 : -9223372036854775808 ≤ x) (h2 : x ≤ 9223372036854775807) : intBin .xor .i64 x (-1) = some (.int .i64 (-x - 1)) := by
 show some (D.int .i64 (IntKind.i64.wrap (BitVec.ofInt 64 x ^^^ BitVec.ofInt 64 (-1)).toNat)) = _
 have : BitVec.ofInt 64 (-1) = BitVec.allOnes 64 := by decide
 rw [this,BitVec.xor_allOnes,BitVec.toNat_not,BitVec.toNat_ofInt,wrap_mod_i64]
 congr 2
 split <;> omega
attribute [simp] intBin_xor_i64_zero intBin_xor_i64_m1
def u8n (n : Nat) : UInt8 := UInt8.ofNat n
theorem u8n_toNat {n : Nat} (h : n < 256) : (u8n n).toNat = n := by simp [u8n]; omega
theorem u8n_of (b : UInt8) : u8n b.toNat = b := by simp [u8n]
abbrev bytes (l : List UInt8) : List D := l.map byteD
theorem byteD_eq {b : UInt8} {x : Int} (h : (b.toNat : Int) = x) : byteD b = .int .u8 x := by simp [byteD,h]
@[simp] theorem mk_toList (l : List UInt8) : (ByteArray.mk l.toArray).toList = l := by rw [ByteArray.toList_eq]
@[simp] theorem mk_size (l : List UInt8) : (ByteArray.mk l.toArray).size = l.length := by simp [ByteArray.size]
@[simp] theorem bytes_comp (l : List UInt8) : l.mapM (byteOf? ∘ byteD) = some l := by rw [← List.mapM_map]; exact bytes_of_map l
@[simp] theorem bytes_take (l : List UInt8) (k : Nat) : ((l.map byteD).take k).mapM byteOf? = some (l.take k) := by rw [← List.map_take,bytes_of_map]
@[simp] theorem bytes_drop (l : List UInt8) (k : Nat) : ((l.map byteD).drop k).mapM byteOf? = some (l.drop k) := by rw [← List.map_drop,bytes_of_map]
@[simp] theorem bytes_take_drop (l : List UInt8) (k j : Nat) : (((l.map byteD).take k).drop j).mapM byteOf? = some ((l.take k).drop j) := by rw [← List.map_take,← List.map_drop,bytes_of_map]
@[simp] theorem allSize_bytes (l : List UInt8) : allSize 1 (l.map byteD) = true := allSize_map l fun _ => rfl
@[simp] theorem allSize_ints {α : Type} (k : IntKind) (f : α → Int) (l : List α) : allSize 1 (l.map fun x => D.int k (f x)) = true := allSize_map l fun _ => rfl
@[simp] theorem allSize_strs (l : List ByteArray) : allSize 1 (l.map D.str) = true := allSize_map l fun _ => rfl
attribute [simp] cut
@[simp] theorem take_map_len {α β : Type} (f : α → β) (l : List α) : (l.map f).take l.length = l.map f := List.take_of_length_le (by simp)
attribute [simp] byteD u8n_toNat or128 and127 and1 u8n_of
attribute [simp] wrap_mod_u8 wrap_mod_u32 bits_u8 bits_u32 bits_u64 bits_i64
@[simp] theorem toNat_mod256 (m : Nat) : ((m : Int) % 256).toNat = m % 256 := by omega
@[simp] theorem toNat_mod32 (m : Nat) : ((m : Int) % 4294967296).toNat = m % 4294967296 := by omega
@[simp] theorem toNat_mod64 (m : Nat) : ((m : Int) % 18446744073709551616).toNat = m % 18446744073709551616 := by omega
theorem fdiv_pos (a b : Int) (h : 0 ≤ b) : a.fdiv b = a / b := Int.fdiv_eq_ediv_of_nonneg a h
@[simp] theorem fdiv_pow (a : Int) (w : Nat) : a.fdiv (2 ^ w) = a / 2 ^ w := fdiv_pos a _ (Int.le_of_lt (Int.pow_pos (by decide)))
attribute [simp] fdiv_pos
theorem tdiv_pos (a b : Int) (h : 0 ≤ a) : a.tdiv b = a / b := Int.tdiv_eq_ediv_of_nonneg h
theorem tmod_pos (a b : Int) (h : 0 ≤ a) : a.tmod b = a % b := Int.tmod_eq_emod_of_nonneg h
attribute [simp] tdiv_pos tmod_pos
end Go.Am
namespace Go.Am.Ab
theorem nI {m n : Nat} : (m : Int) = n ↔ m = n := Int.natCast_inj
theorem wI {x : Int} (h1 : -9223372036854775808 ≤ x) (h2 : x ≤ 9223372036854775807) : IntKind.i64.wrap x = x := wrap_i64 h1 h2
end Go.Am.Ab
