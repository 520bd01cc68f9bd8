/- Facts on the types of the program, what loops keep, numbers. -/
import Derived.Test.YtkhlpcccjacnhaaGreatDoorProg
import Derived.KernelRfl
import Derived.Test.YtkhlpcccjacnhaaGreatDoorMachD
set_option linter.all false
--  133 (*strings.Builder).copyCheck no liveness: code refuse
--  439 strings.IndexRune no liveness: code scope
/- Facts on the types of this program,and what each loop keeps. Printed by seat.py. -/
namespace Go.Am.Ab
open Go.Proofs
attribute [simp] Tryz.underlying0
@[simp] theorem sz0 : sizeOf? Tryz.prog 0 = some 1 := by kernel_rfl
@[simp] theorem ag0 : agg? Tryz.prog 0 = some false := by kernel_rfl
attribute [simp] Tryz.underlying2
@[simp] theorem sz2 : sizeOf? Tryz.prog 2 = some 1 := by kernel_rfl
@[simp] theorem ag2 : agg? Tryz.prog 2 = some false := by kernel_rfl
@[simp] theorem zs2 : zeroVs? Tryz.prog 2 = some [.d (.int .i64 0)] := by kernel_rfl
@[simp] theorem zv2 : (zero? Tryz.prog 2).isSome = true := by kernel_rfl
@[simp] theorem ap2 : appElem? Tryz.prog 2 = some 1 := by kernel_rfl
@[simp] theorem zd2 : zeroD? Tryz.prog 2 = some (.int .i64 0) := by kernel_rfl
attribute [simp] Tryz.underlying3
@[simp] theorem sz3 : sizeOf? Tryz.prog 3 = some 1 := by kernel_rfl
@[simp] theorem ag3 : agg? Tryz.prog 3 = some false := by kernel_rfl
@[simp] theorem zs3 : zeroVs? Tryz.prog 3 = some [.d (.int .i64 0)] := by kernel_rfl
@[simp] theorem al3 (h : List Am.Obj) : allocV Tryz.prog h 3 = some (.ptr h.length 0,h ++ [.box [.d (.int .i64 0)]]) := allocV_of zs3
@[simp] theorem zv3 : (zero? Tryz.prog 3).isSome = true := by kernel_rfl
@[simp] theorem ap3 : appElem? Tryz.prog 3 = some 1 := by kernel_rfl
@[simp] theorem zd3 : zeroD? Tryz.prog 3 = some (.int .i64 0) := by kernel_rfl
attribute [simp] Tryz.underlying4
@[simp] theorem sz4 : sizeOf? Tryz.prog 4 = some 1 := by kernel_rfl
@[simp] theorem ag4 : agg? Tryz.prog 4 = some false := by kernel_rfl
@[simp] theorem zs4 : zeroVs? Tryz.prog 4 = some [.d (.bool false)] := by kernel_rfl
@[simp] theorem zv4 : (zero? Tryz.prog 4).isSome = true := by kernel_rfl
@[simp] theorem ap4 : appElem? Tryz.prog 4 = some 1 := by kernel_rfl
@[simp] theorem mk4 : makeElem? Tryz.prog 4 = some (1,.bool false) := by kernel_rfl
@[simp] theorem zd4 : zeroD? Tryz.prog 4 = some (.bool false) := by kernel_rfl
attribute [simp] Tryz.underlying5
@[simp] theorem sz5 : sizeOf? Tryz.prog 5 = some 1 := by kernel_rfl
@[simp] theorem ag5 : agg? Tryz.prog 5 = some false := by kernel_rfl
@[simp] theorem zs5 : zeroVs? Tryz.prog 5 = some [.d (.int .u8 0)] := by kernel_rfl
@[simp] theorem zv5 : (zero? Tryz.prog 5).isSome = true := by kernel_rfl
@[simp] theorem ap5 : appElem? Tryz.prog 5 = some 1 := by kernel_rfl
@[simp] theorem mk5 : makeElem? Tryz.prog 5 = some (1,.int .u8 0) := by kernel_rfl
@[simp] theorem zd5 : zeroD? Tryz.prog 5 = some (.int .u8 0) := by kernel_rfl
attribute [simp] Tryz.underlying9
@[simp] theorem sz9 : sizeOf? Tryz.prog 9 = some 1 := by kernel_rfl
@[simp] theorem ag9 : agg? Tryz.prog 9 = some false := by kernel_rfl
@[simp] theorem zs9 : zeroVs? Tryz.prog 9 = some [.d (.str ⟨#[]⟩)] := by kernel_rfl
@[simp] theorem zv9 : (zero? Tryz.prog 9).isSome = true := by kernel_rfl
@[simp] theorem ap9 : appElem? Tryz.prog 9 = some 1 := by kernel_rfl
@[simp] theorem mk9 : makeElem? Tryz.prog 9 = some (1,.str ⟨#[]⟩) := by kernel_rfl
@[simp] theorem zd9 : zeroD? Tryz.prog 9 = some (.str ⟨#[]⟩) := by kernel_rfl
attribute [simp] Tryz.underlying20
@[simp] theorem sz20 : sizeOf? Tryz.prog 20 = some 1 := by kernel_rfl
@[simp] theorem ag20 : agg? Tryz.prog 20 = some false := by kernel_rfl
attribute [simp] Tryz.underlying21
@[simp] theorem sz21 : sizeOf? Tryz.prog 21 = some 1 := by kernel_rfl
@[simp] theorem ag21 : agg? Tryz.prog 21 = some false := by kernel_rfl
attribute [simp] Tryz.underlying23
@[simp] theorem sz23 : sizeOf? Tryz.prog 23 = some 1 := by kernel_rfl
@[simp] theorem ag23 : agg? Tryz.prog 23 = some false := by kernel_rfl
attribute [simp] Tryz.underlying25
@[simp] theorem sz25 : sizeOf? Tryz.prog 25 = some 1 := by kernel_rfl
@[simp] theorem ag25 : agg? Tryz.prog 25 = some false := by kernel_rfl
attribute [simp] Tryz.underlying26
@[simp] theorem sz26 : sizeOf? Tryz.prog 26 = some 1 := by kernel_rfl
@[simp] theorem ag26 : agg? Tryz.prog 26 = some false := by kernel_rfl
@[simp] theorem es26 : elemSize Tryz.prog 26 = 8 := by kernel_rfl
attribute [simp] Tryz.underlying27
@[simp] theorem sz27 : sizeOf? Tryz.prog 27 = some 1 := by kernel_rfl
@[simp] theorem ag27 : agg? Tryz.prog 27 = some false := by kernel_rfl
attribute [simp] Tryz.underlying28
@[simp] theorem sz28 : sizeOf? Tryz.prog 28 = some 2 := by kernel_rfl
@[simp] theorem ag28 : agg? Tryz.prog 28 = some true := by kernel_rfl
@[simp] theorem bv28 (parts : List (Nat × V)) : buildV Tryz.prog 28 parts = (fillV (fun i => [(0,1),(1,1)][i]?) [.nilS,.d .nilP] parts).map mkAgg := buildV_struct (by kernel_rfl) (by kernel_rfl)
@[simp] theorem fo28_0 : fieldOff? Tryz.prog 28 0 = some (0,26) := by kernel_rfl
@[simp] theorem fo28_1 : fieldOff? Tryz.prog 28 1 = some (1,27) := by kernel_rfl
attribute [simp] Tryz.underlying29
@[simp] theorem sz29 : sizeOf? Tryz.prog 29 = some 2 := by kernel_rfl
@[simp] theorem ag29 : agg? Tryz.prog 29 = some true := by kernel_rfl
@[simp] theorem zs29 : zeroVs? Tryz.prog 29 = some [.nilS,.d .nilP] := by kernel_rfl
@[simp] theorem bv29 (parts : List (Nat × V)) : buildV Tryz.prog 29 parts = (fillV (fun i => [(0,1),(1,1)][i]?) [.nilS,.d .nilP] parts).map mkAgg := buildV_struct (by kernel_rfl) (by kernel_rfl)
@[simp] theorem fo29_0 : fieldOff? Tryz.prog 29 0 = some (0,26) := by kernel_rfl
@[simp] theorem fo29_1 : fieldOff? Tryz.prog 29 1 = some (1,27) := by kernel_rfl
attribute [simp] Tryz.underlying32
@[simp] theorem sz32 : sizeOf? Tryz.prog 32 = some 1 := by kernel_rfl
@[simp] theorem ag32 : agg? Tryz.prog 32 = some false := by kernel_rfl
@[simp] theorem es32 : elemSize Tryz.prog 32 = 3 := by kernel_rfl
attribute [simp] Tryz.underlying35
@[simp] theorem sz35 : sizeOf? Tryz.prog 35 = some 1 := by kernel_rfl
@[simp] theorem ag35 : agg? Tryz.prog 35 = some false := by kernel_rfl
@[simp] theorem zs35 : zeroVs? Tryz.prog 35 = some [.nilS] := by kernel_rfl
@[simp] theorem ap35 : appElem? Tryz.prog 35 = some 1 := by kernel_rfl
@[simp] theorem zd35 : zeroD? Tryz.prog 35 = some (.list []) := by kernel_rfl
@[simp] theorem es35 : elemSize Tryz.prog 35 = 1 := by kernel_rfl
attribute [simp] Tryz.underlying38
@[simp] theorem sz38 : sizeOf? Tryz.prog 38 = some 1 := by kernel_rfl
@[simp] theorem ag38 : agg? Tryz.prog 38 = some false := by kernel_rfl
attribute [simp] Tryz.underlying39
@[simp] theorem sz39 : sizeOf? Tryz.prog 39 = some 3 := by kernel_rfl
@[simp] theorem ag39 : agg? Tryz.prog 39 = some true := by kernel_rfl
@[simp] theorem bv39 (parts : List (Nat × V)) : buildV Tryz.prog 39 parts = (fillV (fun i => [(0,1),(1,1),(2,1)][i]?) [.d (.int .u8 0),.d (.int .i64 0),.d (.str ⟨#[]⟩)] parts).map mkAgg := buildV_struct (by kernel_rfl) (by kernel_rfl)
@[simp] theorem fo39_0 : fieldOff? Tryz.prog 39 0 = some (0,38) := by kernel_rfl
@[simp] theorem fo39_1 : fieldOff? Tryz.prog 39 1 = some (1,2) := by kernel_rfl
@[simp] theorem fo39_2 : fieldOff? Tryz.prog 39 2 = some (2,9) := by kernel_rfl
@[simp] theorem fs39 : flatStruct Tryz.prog 39 = some [(0,0),(1,0),(2,2)] := by kernel_rfl
attribute [simp] Tryz.underlying40
@[simp] theorem sz40 : sizeOf? Tryz.prog 40 = some 3 := by kernel_rfl
@[simp] theorem ag40 : agg? Tryz.prog 40 = some true := by kernel_rfl
@[simp] theorem zs40 : zeroVs? Tryz.prog 40 = some [.d (.int .u8 0),.d (.int .i64 0),.d (.str ⟨#[]⟩)] := by kernel_rfl
@[simp] theorem al40 (h : List Am.Obj) : allocV Tryz.prog h 40 = some (.ptr h.length 0,h ++ [.box [.d (.int .u8 0),.d (.int .i64 0),.d (.str ⟨#[]⟩)]]) := allocV_of zs40
@[simp] theorem zv40 : (zero? Tryz.prog 40).isSome = true := by kernel_rfl
@[simp] theorem ap40 : appElem? Tryz.prog 40 = some 3 := by kernel_rfl
@[simp] theorem bv40 (parts : List (Nat × V)) : buildV Tryz.prog 40 parts = (fillV (fun i => [(0,1),(1,1),(2,1)][i]?) [.d (.int .u8 0),.d (.int .i64 0),.d (.str ⟨#[]⟩)] parts).map mkAgg := buildV_struct (by kernel_rfl) (by kernel_rfl)
@[simp] theorem fo40_0 : fieldOff? Tryz.prog 40 0 = some (0,38) := by kernel_rfl
@[simp] theorem fo40_1 : fieldOff? Tryz.prog 40 1 = some (1,2) := by kernel_rfl
@[simp] theorem fo40_2 : fieldOff? Tryz.prog 40 2 = some (2,9) := by kernel_rfl
@[simp] theorem fs40 : flatStruct Tryz.prog 40 = some [(0,0),(1,0),(2,2)] := by kernel_rfl
@[simp] theorem zd40 : zeroD? Tryz.prog 40 = some (.agg [.int .u8 0,.int .i64 0,.str ⟨#[]⟩]) := by kernel_rfl
attribute [simp] Tryz.underlying41
@[simp] theorem sz41 : sizeOf? Tryz.prog 41 = some 1 := by kernel_rfl
@[simp] theorem ag41 : agg? Tryz.prog 41 = some false := by kernel_rfl
@[simp] theorem zs41 : zeroVs? Tryz.prog 41 = some [.d (.int .u64 0)] := by kernel_rfl
@[simp] theorem zv41 : (zero? Tryz.prog 41).isSome = true := by kernel_rfl
@[simp] theorem ap41 : appElem? Tryz.prog 41 = some 1 := by kernel_rfl
@[simp] theorem zd41 : zeroD? Tryz.prog 41 = some (.int .u64 0) := by kernel_rfl
attribute [simp] Tryz.underlying42
@[simp] theorem sz42 : sizeOf? Tryz.prog 42 = some 8 := by kernel_rfl
@[simp] theorem ag42 : agg? Tryz.prog 42 = some true := by kernel_rfl
@[simp] theorem bv42 (parts : List (Nat × V)) : buildV Tryz.prog 42 parts = (fillV (fun i => [(0,1),(1,1),(2,1),(3,3),(6,1),(7,1)][i]?) [.d (.int .u64 0),.d (.int .u8 0),.nilS,.d (.int .u8 0),.d (.int .i64 0),.d (.str ⟨#[]⟩),.d (.str ⟨#[]⟩),.d (.int .u8 0)] parts).map mkAgg := buildV_struct (by kernel_rfl) (by kernel_rfl)
@[simp] theorem fo42_0 : fieldOff? Tryz.prog 42 0 = some (0,41) := by kernel_rfl
@[simp] theorem fo42_1 : fieldOff? Tryz.prog 42 1 = some (1,5) := by kernel_rfl
@[simp] theorem fo42_2 : fieldOff? Tryz.prog 42 2 = some (2,32) := by kernel_rfl
@[simp] theorem fo42_3 : fieldOff? Tryz.prog 42 3 = some (3,40) := by kernel_rfl
@[simp] theorem fo42_4 : fieldOff? Tryz.prog 42 4 = some (6,9) := by kernel_rfl
@[simp] theorem fo42_5 : fieldOff? Tryz.prog 42 5 = some (7,38) := by kernel_rfl
attribute [simp] Tryz.underlying43
@[simp] theorem sz43 : sizeOf? Tryz.prog 43 = some 8 := by kernel_rfl
@[simp] theorem ag43 : agg? Tryz.prog 43 = some true := by kernel_rfl
@[simp] theorem zs43 : zeroVs? Tryz.prog 43 = some [.d (.int .u64 0),.d (.int .u8 0),.nilS,.d (.int .u8 0),.d (.int .i64 0),.d (.str ⟨#[]⟩),.d (.str ⟨#[]⟩),.d (.int .u8 0)] := by kernel_rfl
@[simp] theorem al43 (h : List Am.Obj) : allocV Tryz.prog h 43 = some (.ptr h.length 0,h ++ [.box [.d (.int .u64 0),.d (.int .u8 0),.nilS,.d (.int .u8 0),.d (.int .i64 0),.d (.str ⟨#[]⟩),.d (.str ⟨#[]⟩),.d (.int .u8 0)]]) := allocV_of zs43
@[simp] theorem zv43 : (zero? Tryz.prog 43).isSome = true := by kernel_rfl
@[simp] theorem ap43 : appElem? Tryz.prog 43 = some 8 := by kernel_rfl
@[simp] theorem bv43 (parts : List (Nat × V)) : buildV Tryz.prog 43 parts = (fillV (fun i => [(0,1),(1,1),(2,1),(3,3),(6,1),(7,1)][i]?) [.d (.int .u64 0),.d (.int .u8 0),.nilS,.d (.int .u8 0),.d (.int .i64 0),.d (.str ⟨#[]⟩),.d (.str ⟨#[]⟩),.d (.int .u8 0)] parts).map mkAgg := buildV_struct (by kernel_rfl) (by kernel_rfl)
@[simp] theorem fo43_0 : fieldOff? Tryz.prog 43 0 = some (0,41) := by kernel_rfl
@[simp] theorem fo43_1 : fieldOff? Tryz.prog 43 1 = some (1,5) := by kernel_rfl
@[simp] theorem fo43_2 : fieldOff? Tryz.prog 43 2 = some (2,32) := by kernel_rfl
@[simp] theorem fo43_3 : fieldOff? Tryz.prog 43 3 = some (3,40) := by kernel_rfl
@[simp] theorem fo43_4 : fieldOff? Tryz.prog 43 4 = some (6,9) := by kernel_rfl
@[simp] theorem fo43_5 : fieldOff? Tryz.prog 43 5 = some (7,38) := by kernel_rfl
@[simp] theorem zd43 : zeroD? Tryz.prog 43 = some (.agg [.int .u64 0,.int .u8 0,.list [],.int .u8 0,.int .i64 0,.str ⟨#[]⟩,.str ⟨#[]⟩,.int .u8 0]) := by kernel_rfl
attribute [simp] Tryz.underlying44
@[simp] theorem sz44 : sizeOf? Tryz.prog 44 = some 1 := by kernel_rfl
@[simp] theorem ag44 : agg? Tryz.prog 44 = some false := by kernel_rfl
attribute [simp] Tryz.underlying45
@[simp] theorem sz45 : sizeOf? Tryz.prog 45 = some 1 := by kernel_rfl
@[simp] theorem ag45 : agg? Tryz.prog 45 = some false := by kernel_rfl
attribute [simp] Tryz.underlying49
@[simp] theorem sz49 : sizeOf? Tryz.prog 49 = some 1 := by kernel_rfl
@[simp] theorem ag49 : agg? Tryz.prog 49 = some false := by kernel_rfl
attribute [simp] Tryz.underlying51
@[simp] theorem sz51 : sizeOf? Tryz.prog 51 = some 1 := by kernel_rfl
@[simp] theorem ag51 : agg? Tryz.prog 51 = some false := by kernel_rfl
@[simp] theorem zs51 : zeroVs? Tryz.prog 51 = some [.nilS] := by kernel_rfl
@[simp] theorem al51 (h : List Am.Obj) : allocV Tryz.prog h 51 = some (.ptr h.length 0,h ++ [.box [.nilS]]) := allocV_of zs51
@[simp] theorem es51 : elemSize Tryz.prog 51 = 1 := by kernel_rfl
attribute [simp] Tryz.underlying53
@[simp] theorem sz53 : sizeOf? Tryz.prog 53 = some 1 := by kernel_rfl
@[simp] theorem ag53 : agg? Tryz.prog 53 = some false := by kernel_rfl
@[simp] theorem es53 : elemSize Tryz.prog 53 = 1 := by kernel_rfl
attribute [simp] Tryz.underlying54
@[simp] theorem sz54 : sizeOf? Tryz.prog 54 = some 13 := by kernel_rfl
@[simp] theorem ag54 : agg? Tryz.prog 54 = some true := by kernel_rfl
@[simp] theorem bv54 (parts : List (Nat × V)) : buildV Tryz.prog 54 parts = (fillV (fun i => [(0,1),(1,1),(2,1),(3,1),(4,1),(5,8)][i]?) [.d (.int .u8 0),.d (.int .i64 0),.d (.int .i64 0),.d (.int .u64 0),.nilS,.d (.int .u64 0),.d (.int .u8 0),.nilS,.d (.int .u8 0),.d (.int .i64 0),.d (.str ⟨#[]⟩),.d (.str ⟨#[]⟩),.d (.int .u8 0)] parts).map mkAgg := buildV_struct (by kernel_rfl) (by kernel_rfl)
@[simp] theorem fo54_0 : fieldOff? Tryz.prog 54 0 = some (0,5) := by kernel_rfl
@[simp] theorem fo54_1 : fieldOff? Tryz.prog 54 1 = some (1,3) := by kernel_rfl
@[simp] theorem fo54_2 : fieldOff? Tryz.prog 54 2 = some (2,3) := by kernel_rfl
@[simp] theorem fo54_3 : fieldOff? Tryz.prog 54 3 = some (3,41) := by kernel_rfl
@[simp] theorem fo54_4 : fieldOff? Tryz.prog 54 4 = some (4,53) := by kernel_rfl
@[simp] theorem fo54_5 : fieldOff? Tryz.prog 54 5 = some (5,43) := by kernel_rfl
attribute [simp] Tryz.underlying55
@[simp] theorem sz55 : sizeOf? Tryz.prog 55 = some 13 := by kernel_rfl
@[simp] theorem ag55 : agg? Tryz.prog 55 = some true := by kernel_rfl
@[simp] theorem zs55 : zeroVs? Tryz.prog 55 = some [.d (.int .u8 0),.d (.int .i64 0),.d (.int .i64 0),.d (.int .u64 0),.nilS,.d (.int .u64 0),.d (.int .u8 0),.nilS,.d (.int .u8 0),.d (.int .i64 0),.d (.str ⟨#[]⟩),.d (.str ⟨#[]⟩),.d (.int .u8 0)] := by kernel_rfl
@[simp] theorem al55 (h : List Am.Obj) : allocV Tryz.prog h 55 = some (.ptr h.length 0,h ++ [.box [.d (.int .u8 0),.d (.int .i64 0),.d (.int .i64 0),.d (.int .u64 0),.nilS,.d (.int .u64 0),.d (.int .u8 0),.nilS,.d (.int .u8 0),.d (.int .i64 0),.d (.str ⟨#[]⟩),.d (.str ⟨#[]⟩),.d (.int .u8 0)]]) := allocV_of zs55
@[simp] theorem bv55 (parts : List (Nat × V)) : buildV Tryz.prog 55 parts = (fillV (fun i => [(0,1),(1,1),(2,1),(3,1),(4,1),(5,8)][i]?) [.d (.int .u8 0),.d (.int .i64 0),.d (.int .i64 0),.d (.int .u64 0),.nilS,.d (.int .u64 0),.d (.int .u8 0),.nilS,.d (.int .u8 0),.d (.int .i64 0),.d (.str ⟨#[]⟩),.d (.str ⟨#[]⟩),.d (.int .u8 0)] parts).map mkAgg := buildV_struct (by kernel_rfl) (by kernel_rfl)
@[simp] theorem fo55_0 : fieldOff? Tryz.prog 55 0 = some (0,5) := by kernel_rfl
@[simp] theorem fo55_1 : fieldOff? Tryz.prog 55 1 = some (1,3) := by kernel_rfl
@[simp] theorem fo55_2 : fieldOff? Tryz.prog 55 2 = some (2,3) := by kernel_rfl
@[simp] theorem fo55_3 : fieldOff? Tryz.prog 55 3 = some (3,41) := by kernel_rfl
@[simp] theorem fo55_4 : fieldOff? Tryz.prog 55 4 = some (4,53) := by kernel_rfl
@[simp] theorem fo55_5 : fieldOff? Tryz.prog 55 5 = some (5,43) := by kernel_rfl
attribute [simp] Tryz.underlying56
@[simp] theorem sz56 : sizeOf? Tryz.prog 56 = some 1 := by kernel_rfl
@[simp] theorem ag56 : agg? Tryz.prog 56 = some false := by kernel_rfl
attribute [simp] Tryz.underlying58
@[simp] theorem sz58 : sizeOf? Tryz.prog 58 = some 1 := by kernel_rfl
@[simp] theorem ag58 : agg? Tryz.prog 58 = some false := by kernel_rfl
attribute [simp] Tryz.underlying61
@[simp] theorem sz61 : sizeOf? Tryz.prog 61 = some 1 := by kernel_rfl
@[simp] theorem ag61 : agg? Tryz.prog 61 = some false := by kernel_rfl
attribute [simp] Tryz.underlying64
@[simp] theorem sz64 : sizeOf? Tryz.prog 64 = some 2 := by kernel_rfl
@[simp] theorem ag64 : agg? Tryz.prog 64 = some true := by kernel_rfl
@[simp] theorem zs64 : zeroVs? Tryz.prog 64 = some [.d (.str ⟨#[]⟩),.d (.str ⟨#[]⟩)] := by kernel_rfl
@[simp] theorem al64 (h : List Am.Obj) : allocV Tryz.prog h 64 = some (.ptr h.length 0,h ++ [.box [.d (.str ⟨#[]⟩),.d (.str ⟨#[]⟩)]]) := allocV_of zs64
@[simp] theorem zv64 : (zero? Tryz.prog 64).isSome = true := by kernel_rfl
@[simp] theorem ap64 : appElem? Tryz.prog 64 = some 2 := by kernel_rfl
@[simp] theorem bv64 (parts : List (Nat × V)) : buildV Tryz.prog 64 parts = (fillV (fun i => some (i * 1,1)) [.d (.str ⟨#[]⟩),.d (.str ⟨#[]⟩)] parts).map mkAgg := buildV_array (by kernel_rfl) Tryz.underlying64 (by kernel_rfl)
@[simp] theorem zd64 : zeroD? Tryz.prog 64 = some (.agg [.str ⟨#[]⟩,.str ⟨#[]⟩]) := by kernel_rfl
attribute [simp] Tryz.underlying65
@[simp] theorem sz65 : sizeOf? Tryz.prog 65 = some 1 := by kernel_rfl
@[simp] theorem ag65 : agg? Tryz.prog 65 = some false := by kernel_rfl
@[simp] theorem es65 : elemSize Tryz.prog 65 = 2 := by kernel_rfl
attribute [simp] Tryz.underlying66
@[simp] theorem sz66 : sizeOf? Tryz.prog 66 = some 2 := by kernel_rfl
@[simp] theorem ag66 : agg? Tryz.prog 66 = some true := by kernel_rfl
@[simp] theorem bv66 (parts : List (Nat × V)) : buildV Tryz.prog 66 parts = (fillV (fun i => [(0,1),(1,1)][i]?) [.nilS,.d .nilP] parts).map mkAgg := buildV_struct (by kernel_rfl) (by kernel_rfl)
@[simp] theorem fo66_0 : fieldOff? Tryz.prog 66 0 = some (0,26) := by kernel_rfl
@[simp] theorem fo66_1 : fieldOff? Tryz.prog 66 1 = some (1,27) := by kernel_rfl
attribute [simp] Tryz.underlying67
@[simp] theorem sz67 : sizeOf? Tryz.prog 67 = some 2 := by kernel_rfl
@[simp] theorem ag67 : agg? Tryz.prog 67 = some true := by kernel_rfl
@[simp] theorem zs67 : zeroVs? Tryz.prog 67 = some [.nilS,.d .nilP] := by kernel_rfl
@[simp] theorem bv67 (parts : List (Nat × V)) : buildV Tryz.prog 67 parts = (fillV (fun i => [(0,1),(1,1)][i]?) [.nilS,.d .nilP] parts).map mkAgg := buildV_struct (by kernel_rfl) (by kernel_rfl)
@[simp] theorem fo67_0 : fieldOff? Tryz.prog 67 0 = some (0,26) := by kernel_rfl
@[simp] theorem fo67_1 : fieldOff? Tryz.prog 67 1 = some (1,27) := by kernel_rfl
attribute [simp] Tryz.underlying73
@[simp] theorem sz73 : sizeOf? Tryz.prog 73 = some 1 := by kernel_rfl
@[simp] theorem ag73 : agg? Tryz.prog 73 = some false := by kernel_rfl
attribute [simp] Tryz.underlying75
@[simp] theorem sz75 : sizeOf? Tryz.prog 75 = some 1 := by kernel_rfl
@[simp] theorem ag75 : agg? Tryz.prog 75 = some false := by kernel_rfl
attribute [simp] Tryz.underlying77
@[simp] theorem sz77 : sizeOf? Tryz.prog 77 = some 1 := by kernel_rfl
@[simp] theorem ag77 : agg? Tryz.prog 77 = some false := by kernel_rfl
@[simp] theorem zs77 : zeroVs? Tryz.prog 77 = some [.d (.int .u32 0)] := by kernel_rfl
@[simp] theorem ap77 : appElem? Tryz.prog 77 = some 1 := by kernel_rfl
@[simp] theorem zd77 : zeroD? Tryz.prog 77 = some (.int .u32 0) := by kernel_rfl
attribute [simp] Tryz.underlying78
@[simp] theorem sz78 : sizeOf? Tryz.prog 78 = some 1 := by kernel_rfl
@[simp] theorem ag78 : agg? Tryz.prog 78 = some false := by kernel_rfl
@[simp] theorem es78 : elemSize Tryz.prog 78 = 4 := by kernel_rfl
attribute [simp] Tryz.underlying79
@[simp] theorem sz79 : sizeOf? Tryz.prog 79 = some 2 := by kernel_rfl
@[simp] theorem ag79 : agg? Tryz.prog 79 = some true := by kernel_rfl
@[simp] theorem bv79 (parts : List (Nat × V)) : buildV Tryz.prog 79 parts = (fillV (fun i => [(0,1),(1,1)][i]?) [.d (.int .u32 0),.nilS] parts).map mkAgg := buildV_struct (by kernel_rfl) (by kernel_rfl)
@[simp] theorem fo79_0 : fieldOff? Tryz.prog 79 0 = some (0,77) := by kernel_rfl
@[simp] theorem fo79_1 : fieldOff? Tryz.prog 79 1 = some (1,78) := by kernel_rfl
attribute [simp] Tryz.underlying80
@[simp] theorem sz80 : sizeOf? Tryz.prog 80 = some 2 := by kernel_rfl
@[simp] theorem ag80 : agg? Tryz.prog 80 = some true := by kernel_rfl
@[simp] theorem zs80 : zeroVs? Tryz.prog 80 = some [.d (.int .u32 0),.nilS] := by kernel_rfl
@[simp] theorem al80 (h : List Am.Obj) : allocV Tryz.prog h 80 = some (.ptr h.length 0,h ++ [.box [.d (.int .u32 0),.nilS]]) := allocV_of zs80
@[simp] theorem zv80 : (zero? Tryz.prog 80).isSome = true := by kernel_rfl
@[simp] theorem ap80 : appElem? Tryz.prog 80 = some 2 := by kernel_rfl
@[simp] theorem bv80 (parts : List (Nat × V)) : buildV Tryz.prog 80 parts = (fillV (fun i => [(0,1),(1,1)][i]?) [.d (.int .u32 0),.nilS] parts).map mkAgg := buildV_struct (by kernel_rfl) (by kernel_rfl)
@[simp] theorem fo80_0 : fieldOff? Tryz.prog 80 0 = some (0,77) := by kernel_rfl
@[simp] theorem fo80_1 : fieldOff? Tryz.prog 80 1 = some (1,78) := by kernel_rfl
@[simp] theorem zd80 : zeroD? Tryz.prog 80 = some (.agg [.int .u32 0,.list []]) := by kernel_rfl
attribute [simp] Tryz.underlying82
@[simp] theorem sz82 : sizeOf? Tryz.prog 82 = some 4 := by kernel_rfl
@[simp] theorem ag82 : agg? Tryz.prog 82 = some true := by kernel_rfl
@[simp] theorem bv82 (parts : List (Nat × V)) : buildV Tryz.prog 82 parts = (fillV (fun i => [(0,1),(1,1),(2,1),(3,1)][i]?) [.d (.int .i64 0),.d (.int .i64 0),.d (.int .u64 0),.d (.int .i64 0)] parts).map mkAgg := buildV_struct (by kernel_rfl) (by kernel_rfl)
@[simp] theorem fo82_0 : fieldOff? Tryz.prog 82 0 = some (0,3) := by kernel_rfl
@[simp] theorem fo82_1 : fieldOff? Tryz.prog 82 1 = some (1,3) := by kernel_rfl
@[simp] theorem fo82_2 : fieldOff? Tryz.prog 82 2 = some (2,41) := by kernel_rfl
@[simp] theorem fo82_3 : fieldOff? Tryz.prog 82 3 = some (3,3) := by kernel_rfl
@[simp] theorem fs82 : flatStruct Tryz.prog 82 = some [(0,0),(1,0),(2,0),(3,0)] := by kernel_rfl
attribute [simp] Tryz.underlying83
@[simp] theorem sz83 : sizeOf? Tryz.prog 83 = some 4 := by kernel_rfl
@[simp] theorem ag83 : agg? Tryz.prog 83 = some true := by kernel_rfl
@[simp] theorem zs83 : zeroVs? Tryz.prog 83 = some [.d (.int .i64 0),.d (.int .i64 0),.d (.int .u64 0),.d (.int .i64 0)] := by kernel_rfl
@[simp] theorem bv83 (parts : List (Nat × V)) : buildV Tryz.prog 83 parts = (fillV (fun i => [(0,1),(1,1),(2,1),(3,1)][i]?) [.d (.int .i64 0),.d (.int .i64 0),.d (.int .u64 0),.d (.int .i64 0)] parts).map mkAgg := buildV_struct (by kernel_rfl) (by kernel_rfl)
@[simp] theorem fo83_0 : fieldOff? Tryz.prog 83 0 = some (0,3) := by kernel_rfl
@[simp] theorem fo83_1 : fieldOff? Tryz.prog 83 1 = some (1,3) := by kernel_rfl
@[simp] theorem fo83_2 : fieldOff? Tryz.prog 83 2 = some (2,41) := by kernel_rfl
@[simp] theorem fo83_3 : fieldOff? Tryz.prog 83 3 = some (3,3) := by kernel_rfl
@[simp] theorem fs83 : flatStruct Tryz.prog 83 = some [(0,0),(1,0),(2,0),(3,0)] := by kernel_rfl
attribute [simp] Tryz.underlying84
@[simp] theorem sz84 : sizeOf? Tryz.prog 84 = some 8 := by kernel_rfl
@[simp] theorem ag84 : agg? Tryz.prog 84 = some true := by kernel_rfl
@[simp] theorem bv84 (parts : List (Nat × V)) : buildV Tryz.prog 84 parts = (fillV (fun i => [(0,2),(2,1),(3,4),(7,1)][i]?) [.d (.int .u32 0),.nilS,.nilS,.d (.int .i64 0),.d (.int .i64 0),.d (.int .u64 0),.d (.int .i64 0),.d (.int .i64 0)] parts).map mkAgg := buildV_struct (by kernel_rfl) (by kernel_rfl)
@[simp] theorem fo84_0 : fieldOff? Tryz.prog 84 0 = some (0,80) := by kernel_rfl
@[simp] theorem fo84_1 : fieldOff? Tryz.prog 84 1 = some (2,26) := by kernel_rfl
@[simp] theorem fo84_2 : fieldOff? Tryz.prog 84 2 = some (3,83) := by kernel_rfl
@[simp] theorem fo84_3 : fieldOff? Tryz.prog 84 3 = some (7,3) := by kernel_rfl
attribute [simp] Tryz.underlying85
@[simp] theorem sz85 : sizeOf? Tryz.prog 85 = some 8 := by kernel_rfl
@[simp] theorem ag85 : agg? Tryz.prog 85 = some true := by kernel_rfl
@[simp] theorem zs85 : zeroVs? Tryz.prog 85 = some [.d (.int .u32 0),.nilS,.nilS,.d (.int .i64 0),.d (.int .i64 0),.d (.int .u64 0),.d (.int .i64 0),.d (.int .i64 0)] := by kernel_rfl
@[simp] theorem bv85 (parts : List (Nat × V)) : buildV Tryz.prog 85 parts = (fillV (fun i => [(0,2),(2,1),(3,4),(7,1)][i]?) [.d (.int .u32 0),.nilS,.nilS,.d (.int .i64 0),.d (.int .i64 0),.d (.int .u64 0),.d (.int .i64 0),.d (.int .i64 0)] parts).map mkAgg := buildV_struct (by kernel_rfl) (by kernel_rfl)
@[simp] theorem fo85_0 : fieldOff? Tryz.prog 85 0 = some (0,80) := by kernel_rfl
@[simp] theorem fo85_1 : fieldOff? Tryz.prog 85 1 = some (2,26) := by kernel_rfl
@[simp] theorem fo85_2 : fieldOff? Tryz.prog 85 2 = some (3,83) := by kernel_rfl
@[simp] theorem fo85_3 : fieldOff? Tryz.prog 85 3 = some (7,3) := by kernel_rfl
attribute [simp] Tryz.underlying88
@[simp] theorem sz88 : sizeOf? Tryz.prog 88 = some 1 := by kernel_rfl
@[simp] theorem ag88 : agg? Tryz.prog 88 = some false := by kernel_rfl
@[simp] theorem zs88 : zeroVs? Tryz.prog 88 = some [.d .nilI] := by kernel_rfl
@[simp] theorem zv88 : (zero? Tryz.prog 88).isSome = true := by kernel_rfl
@[simp] theorem ap88 : appElem? Tryz.prog 88 = some 1 := by kernel_rfl
@[simp] theorem zd88 : zeroD? Tryz.prog 88 = some (.nilI) := by kernel_rfl
attribute [simp] Tryz.underlying92
@[simp] theorem sz92 : sizeOf? Tryz.prog 92 = some 1 := by kernel_rfl
@[simp] theorem ag92 : agg? Tryz.prog 92 = some false := by kernel_rfl
attribute [simp] Tryz.underlying94
@[simp] theorem sz94 : sizeOf? Tryz.prog 94 = some 1 := by kernel_rfl
@[simp] theorem ag94 : agg? Tryz.prog 94 = some false := by kernel_rfl
attribute [simp] Tryz.underlying96
@[simp] theorem sz96 : sizeOf? Tryz.prog 96 = some 1 := by kernel_rfl
@[simp] theorem ag96 : agg? Tryz.prog 96 = some false := by kernel_rfl
attribute [simp] Tryz.underlying98
@[simp] theorem sz98 : sizeOf? Tryz.prog 98 = some 1 := by kernel_rfl
@[simp] theorem ag98 : agg? Tryz.prog 98 = some false := by kernel_rfl
@[simp] theorem es98 : elemSize Tryz.prog 98 = 1 := by kernel_rfl
attribute [simp] Tryz.underlying100
@[simp] theorem sz100 : sizeOf? Tryz.prog 100 = some 1 := by kernel_rfl
@[simp] theorem ag100 : agg? Tryz.prog 100 = some false := by kernel_rfl
attribute [simp] Tryz.underlying102
@[simp] theorem sz102 : sizeOf? Tryz.prog 102 = some 3 := by kernel_rfl
@[simp] theorem ag102 : agg? Tryz.prog 102 = some true := by kernel_rfl
@[simp] theorem zs102 : zeroVs? Tryz.prog 102 = some [.d (.int .i64 0),.d (.int .i64 0),.d (.int .i64 0)] := by kernel_rfl
@[simp] theorem al102 (h : List Am.Obj) : allocV Tryz.prog h 102 = some (.ptr h.length 0,h ++ [.box [.d (.int .i64 0),.d (.int .i64 0),.d (.int .i64 0)]]) := allocV_of zs102
@[simp] theorem bv102 (parts : List (Nat × V)) : buildV Tryz.prog 102 parts = (fillV (fun i => some (i * 1,1)) [.d (.int .i64 0),.d (.int .i64 0),.d (.int .i64 0)] parts).map mkAgg := buildV_array (by kernel_rfl) Tryz.underlying102 (by kernel_rfl)
attribute [simp] Tryz.underlying103
@[simp] theorem sz103 : sizeOf? Tryz.prog 103 = some 4 := by kernel_rfl
@[simp] theorem ag103 : agg? Tryz.prog 103 = some true := by kernel_rfl
@[simp] theorem bv103 (parts : List (Nat × V)) : buildV Tryz.prog 103 parts = (fillV (fun i => [(0,1),(1,1),(2,1),(3,1)][i]?) [.d (.int .u32 0),.d (.str ⟨#[]⟩),.d (.int .u8 0),.d (.bool false)] parts).map mkAgg := buildV_struct (by kernel_rfl) (by kernel_rfl)
@[simp] theorem fo103_0 : fieldOff? Tryz.prog 103 0 = some (0,77) := by kernel_rfl
@[simp] theorem fo103_1 : fieldOff? Tryz.prog 103 1 = some (1,9) := by kernel_rfl
@[simp] theorem fo103_2 : fieldOff? Tryz.prog 103 2 = some (2,38) := by kernel_rfl
@[simp] theorem fo103_3 : fieldOff? Tryz.prog 103 3 = some (3,4) := by kernel_rfl
@[simp] theorem fs103 : flatStruct Tryz.prog 103 = some [(0,0),(1,2),(2,0),(3,1)] := by kernel_rfl
attribute [simp] Tryz.underlying104
@[simp] theorem sz104 : sizeOf? Tryz.prog 104 = some 4 := by kernel_rfl
@[simp] theorem ag104 : agg? Tryz.prog 104 = some true := by kernel_rfl
@[simp] theorem zs104 : zeroVs? Tryz.prog 104 = some [.d (.int .u32 0),.d (.str ⟨#[]⟩),.d (.int .u8 0),.d (.bool false)] := by kernel_rfl
@[simp] theorem al104 (h : List Am.Obj) : allocV Tryz.prog h 104 = some (.ptr h.length 0,h ++ [.box [.d (.int .u32 0),.d (.str ⟨#[]⟩),.d (.int .u8 0),.d (.bool false)]]) := allocV_of zs104
@[simp] theorem zv104 : (zero? Tryz.prog 104).isSome = true := by kernel_rfl
@[simp] theorem ap104 : appElem? Tryz.prog 104 = some 4 := by kernel_rfl
@[simp] theorem bv104 (parts : List (Nat × V)) : buildV Tryz.prog 104 parts = (fillV (fun i => [(0,1),(1,1),(2,1),(3,1)][i]?) [.d (.int .u32 0),.d (.str ⟨#[]⟩),.d (.int .u8 0),.d (.bool false)] parts).map mkAgg := buildV_struct (by kernel_rfl) (by kernel_rfl)
@[simp] theorem fo104_0 : fieldOff? Tryz.prog 104 0 = some (0,77) := by kernel_rfl
@[simp] theorem fo104_1 : fieldOff? Tryz.prog 104 1 = some (1,9) := by kernel_rfl
@[simp] theorem fo104_2 : fieldOff? Tryz.prog 104 2 = some (2,38) := by kernel_rfl
@[simp] theorem fo104_3 : fieldOff? Tryz.prog 104 3 = some (3,4) := by kernel_rfl
@[simp] theorem fs104 : flatStruct Tryz.prog 104 = some [(0,0),(1,2),(2,0),(3,1)] := by kernel_rfl
@[simp] theorem zd104 : zeroD? Tryz.prog 104 = some (.agg [.int .u32 0,.str ⟨#[]⟩,.int .u8 0,.bool false]) := by kernel_rfl
attribute [simp] Tryz.underlying107
@[simp] theorem sz107 : sizeOf? Tryz.prog 107 = some 1 := by kernel_rfl
@[simp] theorem ag107 : agg? Tryz.prog 107 = some false := by kernel_rfl
attribute [simp] Tryz.underlying108
@[simp] theorem sz108 : sizeOf? Tryz.prog 108 = some 1 := by kernel_rfl
@[simp] theorem ag108 : agg? Tryz.prog 108 = some false := by kernel_rfl
attribute [simp] Tryz.underlying109
@[simp] theorem sz109 : sizeOf? Tryz.prog 109 = some 1 := by kernel_rfl
@[simp] theorem ag109 : agg? Tryz.prog 109 = some false := by kernel_rfl
attribute [simp] Tryz.underlying110
@[simp] theorem sz110 : sizeOf? Tryz.prog 110 = some 1 := by kernel_rfl
@[simp] theorem ag110 : agg? Tryz.prog 110 = some false := by kernel_rfl
attribute [simp] Tryz.underlying111
@[simp] theorem sz111 : sizeOf? Tryz.prog 111 = some 15 := by kernel_rfl
@[simp] theorem ag111 : agg? Tryz.prog 111 = some true := by kernel_rfl
@[simp] theorem bv111 (parts : List (Nat × V)) : buildV Tryz.prog 111 parts = (fillV (fun i => [(0,8),(8,1),(9,1),(10,1),(11,1),(12,1),(13,1),(14,1)][i]?) [.d (.int .u32 0),.nilS,.nilS,.d (.int .i64 0),.d (.int .i64 0),.d (.int .u64 0),.d (.int .i64 0),.d (.int .i64 0),.d .nilP,.nilS,.d .nilP,.d .nilP,.d (.int .i64 0),.d .nilP,.d (.int .u64 0)] parts).map mkAgg := buildV_struct (by kernel_rfl) (by kernel_rfl)
@[simp] theorem fo111_0 : fieldOff? Tryz.prog 111 0 = some (0,85) := by kernel_rfl
@[simp] theorem fo111_1 : fieldOff? Tryz.prog 111 1 = some (8,107) := by kernel_rfl
@[simp] theorem fo111_2 : fieldOff? Tryz.prog 111 2 = some (9,26) := by kernel_rfl
@[simp] theorem fo111_3 : fieldOff? Tryz.prog 111 3 = some (10,108) := by kernel_rfl
@[simp] theorem fo111_4 : fieldOff? Tryz.prog 111 4 = some (11,109) := by kernel_rfl
@[simp] theorem fo111_5 : fieldOff? Tryz.prog 111 5 = some (12,44) := by kernel_rfl
@[simp] theorem fo111_6 : fieldOff? Tryz.prog 111 6 = some (13,110) := by kernel_rfl
@[simp] theorem fo111_7 : fieldOff? Tryz.prog 111 7 = some (14,41) := by kernel_rfl
attribute [simp] Tryz.underlying112
@[simp] theorem sz112 : sizeOf? Tryz.prog 112 = some 15 := by kernel_rfl
@[simp] theorem ag112 : agg? Tryz.prog 112 = some true := by kernel_rfl
@[simp] theorem zs112 : zeroVs? Tryz.prog 112 = some [.d (.int .u32 0),.nilS,.nilS,.d (.int .i64 0),.d (.int .i64 0),.d (.int .u64 0),.d (.int .i64 0),.d (.int .i64 0),.d .nilP,.nilS,.d .nilP,.d .nilP,.d (.int .i64 0),.d .nilP,.d (.int .u64 0)] := by kernel_rfl
@[simp] theorem bv112 (parts : List (Nat × V)) : buildV Tryz.prog 112 parts = (fillV (fun i => [(0,8),(8,1),(9,1),(10,1),(11,1),(12,1),(13,1),(14,1)][i]?) [.d (.int .u32 0),.nilS,.nilS,.d (.int .i64 0),.d (.int .i64 0),.d (.int .u64 0),.d (.int .i64 0),.d (.int .i64 0),.d .nilP,.nilS,.d .nilP,.d .nilP,.d (.int .i64 0),.d .nilP,.d (.int .u64 0)] parts).map mkAgg := buildV_struct (by kernel_rfl) (by kernel_rfl)
@[simp] theorem fo112_0 : fieldOff? Tryz.prog 112 0 = some (0,85) := by kernel_rfl
@[simp] theorem fo112_1 : fieldOff? Tryz.prog 112 1 = some (8,107) := by kernel_rfl
@[simp] theorem fo112_2 : fieldOff? Tryz.prog 112 2 = some (9,26) := by kernel_rfl
@[simp] theorem fo112_3 : fieldOff? Tryz.prog 112 3 = some (10,108) := by kernel_rfl
@[simp] theorem fo112_4 : fieldOff? Tryz.prog 112 4 = some (11,109) := by kernel_rfl
@[simp] theorem fo112_5 : fieldOff? Tryz.prog 112 5 = some (12,44) := by kernel_rfl
@[simp] theorem fo112_6 : fieldOff? Tryz.prog 112 6 = some (13,110) := by kernel_rfl
@[simp] theorem fo112_7 : fieldOff? Tryz.prog 112 7 = some (14,41) := by kernel_rfl
attribute [simp] Tryz.underlying119
@[simp] theorem sz119 : sizeOf? Tryz.prog 119 = some 7 := by kernel_rfl
@[simp] theorem ag119 : agg? Tryz.prog 119 = some true := by kernel_rfl
@[simp] theorem bv119 (parts : List (Nat × V)) : buildV Tryz.prog 119 parts = (fillV (fun i => [(0,1),(1,1),(2,1),(3,1),(4,1),(5,1),(6,1)][i]?) [.d (.int .u64 0),.d (.int .u64 0),.d (.int .u64 0),.d (.int .u64 0),.d (.int .u64 0),.d (.int .u32 0),.nilS] parts).map mkAgg := buildV_struct (by kernel_rfl) (by kernel_rfl)
@[simp] theorem fo119_0 : fieldOff? Tryz.prog 119 0 = some (0,41) := by kernel_rfl
@[simp] theorem fo119_1 : fieldOff? Tryz.prog 119 1 = some (1,41) := by kernel_rfl
@[simp] theorem fo119_2 : fieldOff? Tryz.prog 119 2 = some (2,41) := by kernel_rfl
@[simp] theorem fo119_3 : fieldOff? Tryz.prog 119 3 = some (3,41) := by kernel_rfl
@[simp] theorem fo119_4 : fieldOff? Tryz.prog 119 4 = some (4,41) := by kernel_rfl
@[simp] theorem fo119_5 : fieldOff? Tryz.prog 119 5 = some (5,77) := by kernel_rfl
@[simp] theorem fo119_6 : fieldOff? Tryz.prog 119 6 = some (6,51) := by kernel_rfl
attribute [simp] Tryz.underlying120
@[simp] theorem sz120 : sizeOf? Tryz.prog 120 = some 7 := by kernel_rfl
@[simp] theorem ag120 : agg? Tryz.prog 120 = some true := by kernel_rfl
@[simp] theorem zs120 : zeroVs? Tryz.prog 120 = some [.d (.int .u64 0),.d (.int .u64 0),.d (.int .u64 0),.d (.int .u64 0),.d (.int .u64 0),.d (.int .u32 0),.nilS] := by kernel_rfl
@[simp] theorem al120 (h : List Am.Obj) : allocV Tryz.prog h 120 = some (.ptr h.length 0,h ++ [.box [.d (.int .u64 0),.d (.int .u64 0),.d (.int .u64 0),.d (.int .u64 0),.d (.int .u64 0),.d (.int .u32 0),.nilS]]) := allocV_of zs120
@[simp] theorem zv120 : (zero? Tryz.prog 120).isSome = true := by kernel_rfl
@[simp] theorem ap120 : appElem? Tryz.prog 120 = some 7 := by kernel_rfl
@[simp] theorem bv120 (parts : List (Nat × V)) : buildV Tryz.prog 120 parts = (fillV (fun i => [(0,1),(1,1),(2,1),(3,1),(4,1),(5,1),(6,1)][i]?) [.d (.int .u64 0),.d (.int .u64 0),.d (.int .u64 0),.d (.int .u64 0),.d (.int .u64 0),.d (.int .u32 0),.nilS] parts).map mkAgg := buildV_struct (by kernel_rfl) (by kernel_rfl)
@[simp] theorem fo120_0 : fieldOff? Tryz.prog 120 0 = some (0,41) := by kernel_rfl
@[simp] theorem fo120_1 : fieldOff? Tryz.prog 120 1 = some (1,41) := by kernel_rfl
@[simp] theorem fo120_2 : fieldOff? Tryz.prog 120 2 = some (2,41) := by kernel_rfl
@[simp] theorem fo120_3 : fieldOff? Tryz.prog 120 3 = some (3,41) := by kernel_rfl
@[simp] theorem fo120_4 : fieldOff? Tryz.prog 120 4 = some (4,41) := by kernel_rfl
@[simp] theorem fo120_5 : fieldOff? Tryz.prog 120 5 = some (5,77) := by kernel_rfl
@[simp] theorem fo120_6 : fieldOff? Tryz.prog 120 6 = some (6,51) := by kernel_rfl
@[simp] theorem zd120 : zeroD? Tryz.prog 120 = some (.agg [.int .u64 0,.int .u64 0,.int .u64 0,.int .u64 0,.int .u64 0,.int .u32 0,.list []]) := by kernel_rfl
attribute [simp] Tryz.underlying121
@[simp] theorem sz121 : sizeOf? Tryz.prog 121 = some 1 := by kernel_rfl
@[simp] theorem ag121 : agg? Tryz.prog 121 = some false := by kernel_rfl
attribute [simp] Tryz.underlying127
@[simp] theorem sz127 : sizeOf? Tryz.prog 127 = some 1 := by kernel_rfl
@[simp] theorem ag127 : agg? Tryz.prog 127 = some false := by kernel_rfl
attribute [simp] Tryz.underlying128
@[simp] theorem sz128 : sizeOf? Tryz.prog 128 = some 1 := by kernel_rfl
@[simp] theorem ag128 : agg? Tryz.prog 128 = some false := by kernel_rfl
attribute [simp] Tryz.underlying131
@[simp] theorem sz131 : sizeOf? Tryz.prog 131 = some 1 := by kernel_rfl
@[simp] theorem ag131 : agg? Tryz.prog 131 = some false := by kernel_rfl
@[simp] theorem es131 : elemSize Tryz.prog 131 = 1 := by kernel_rfl
attribute [simp] Tryz.underlying132
@[simp] theorem sz132 : sizeOf? Tryz.prog 132 = some 1 := by kernel_rfl
@[simp] theorem ag132 : agg? Tryz.prog 132 = some false := by kernel_rfl
attribute [simp] Tryz.underlying134
@[simp] theorem sz134 : sizeOf? Tryz.prog 134 = some 1 := by kernel_rfl
@[simp] theorem ag134 : agg? Tryz.prog 134 = some false := by kernel_rfl
@[simp] theorem es134 : elemSize Tryz.prog 134 = 6 := by kernel_rfl
attribute [simp] Tryz.underlying135
@[simp] theorem sz135 : sizeOf? Tryz.prog 135 = some 6 := by kernel_rfl
@[simp] theorem ag135 : agg? Tryz.prog 135 = some true := by kernel_rfl
@[simp] theorem bv135 (parts : List (Nat × V)) : buildV Tryz.prog 135 parts = (fillV (fun i => [(0,1),(1,1),(2,3),(5,1)][i]?) [.d (.int .u8 0),.d (.int .u32 0),.d (.int .u8 0),.d (.int .i64 0),.d (.str ⟨#[]⟩),.nilS] parts).map mkAgg := buildV_struct (by kernel_rfl) (by kernel_rfl)
@[simp] theorem fo135_0 : fieldOff? Tryz.prog 135 0 = some (0,5) := by kernel_rfl
@[simp] theorem fo135_1 : fieldOff? Tryz.prog 135 1 = some (1,77) := by kernel_rfl
@[simp] theorem fo135_2 : fieldOff? Tryz.prog 135 2 = some (2,40) := by kernel_rfl
@[simp] theorem fo135_3 : fieldOff? Tryz.prog 135 3 = some (5,134) := by kernel_rfl
attribute [simp] Tryz.underlying136
@[simp] theorem sz136 : sizeOf? Tryz.prog 136 = some 6 := by kernel_rfl
@[simp] theorem ag136 : agg? Tryz.prog 136 = some true := by kernel_rfl
@[simp] theorem zs136 : zeroVs? Tryz.prog 136 = some [.d (.int .u8 0),.d (.int .u32 0),.d (.int .u8 0),.d (.int .i64 0),.d (.str ⟨#[]⟩),.nilS] := by kernel_rfl
@[simp] theorem al136 (h : List Am.Obj) : allocV Tryz.prog h 136 = some (.ptr h.length 0,h ++ [.box [.d (.int .u8 0),.d (.int .u32 0),.d (.int .u8 0),.d (.int .i64 0),.d (.str ⟨#[]⟩),.nilS]]) := allocV_of zs136
@[simp] theorem ap136 : appElem? Tryz.prog 136 = some 6 := by kernel_rfl
@[simp] theorem bv136 (parts : List (Nat × V)) : buildV Tryz.prog 136 parts = (fillV (fun i => [(0,1),(1,1),(2,3),(5,1)][i]?) [.d (.int .u8 0),.d (.int .u32 0),.d (.int .u8 0),.d (.int .i64 0),.d (.str ⟨#[]⟩),.nilS] parts).map mkAgg := buildV_struct (by kernel_rfl) (by kernel_rfl)
@[simp] theorem fo136_0 : fieldOff? Tryz.prog 136 0 = some (0,5) := by kernel_rfl
@[simp] theorem fo136_1 : fieldOff? Tryz.prog 136 1 = some (1,77) := by kernel_rfl
@[simp] theorem fo136_2 : fieldOff? Tryz.prog 136 2 = some (2,40) := by kernel_rfl
@[simp] theorem fo136_3 : fieldOff? Tryz.prog 136 3 = some (5,134) := by kernel_rfl
@[simp] theorem zd136 : zeroD? Tryz.prog 136 = some (.agg [.int .u8 0,.int .u32 0,.int .u8 0,.int .i64 0,.str ⟨#[]⟩,.list []]) := by kernel_rfl
attribute [simp] Tryz.underlying138
@[simp] theorem sz138 : sizeOf? Tryz.prog 138 = some 1 := by kernel_rfl
@[simp] theorem ag138 : agg? Tryz.prog 138 = some false := by kernel_rfl
@[simp] theorem es138 : elemSize Tryz.prog 138 = 2 := by kernel_rfl
attribute [simp] Tryz.underlying139
@[simp] theorem sz139 : sizeOf? Tryz.prog 139 = some 1 := by kernel_rfl
@[simp] theorem ag139 : agg? Tryz.prog 139 = some false := by kernel_rfl
@[simp] theorem es139 : elemSize Tryz.prog 139 = 7 := by kernel_rfl
attribute [simp] Tryz.underlying140
@[simp] theorem sz140 : sizeOf? Tryz.prog 140 = some 3 := by kernel_rfl
@[simp] theorem ag140 : agg? Tryz.prog 140 = some true := by kernel_rfl
@[simp] theorem bv140 (parts : List (Nat × V)) : buildV Tryz.prog 140 parts = (fillV (fun i => [(0,1),(1,1),(2,1)][i]?) [.nilS,.nilS,.d (.int .u64 0)] parts).map mkAgg := buildV_struct (by kernel_rfl) (by kernel_rfl)
@[simp] theorem fo140_0 : fieldOff? Tryz.prog 140 0 = some (0,138) := by kernel_rfl
@[simp] theorem fo140_1 : fieldOff? Tryz.prog 140 1 = some (1,139) := by kernel_rfl
@[simp] theorem fo140_2 : fieldOff? Tryz.prog 140 2 = some (2,41) := by kernel_rfl
attribute [simp] Tryz.underlying141
@[simp] theorem sz141 : sizeOf? Tryz.prog 141 = some 3 := by kernel_rfl
@[simp] theorem ag141 : agg? Tryz.prog 141 = some true := by kernel_rfl
@[simp] theorem zs141 : zeroVs? Tryz.prog 141 = some [.nilS,.nilS,.d (.int .u64 0)] := by kernel_rfl
@[simp] theorem al141 (h : List Am.Obj) : allocV Tryz.prog h 141 = some (.ptr h.length 0,h ++ [.box [.nilS,.nilS,.d (.int .u64 0)]]) := allocV_of zs141
@[simp] theorem bv141 (parts : List (Nat × V)) : buildV Tryz.prog 141 parts = (fillV (fun i => [(0,1),(1,1),(2,1)][i]?) [.nilS,.nilS,.d (.int .u64 0)] parts).map mkAgg := buildV_struct (by kernel_rfl) (by kernel_rfl)
@[simp] theorem fo141_0 : fieldOff? Tryz.prog 141 0 = some (0,138) := by kernel_rfl
@[simp] theorem fo141_1 : fieldOff? Tryz.prog 141 1 = some (1,139) := by kernel_rfl
@[simp] theorem fo141_2 : fieldOff? Tryz.prog 141 2 = some (2,41) := by kernel_rfl
attribute [simp] Tryz.underlying142
@[simp] theorem sz142 : sizeOf? Tryz.prog 142 = some 1 := by kernel_rfl
@[simp] theorem ag142 : agg? Tryz.prog 142 = some false := by kernel_rfl
attribute [simp] Tryz.underlying143
@[simp] theorem sz143 : sizeOf? Tryz.prog 143 = some 1 := by kernel_rfl
@[simp] theorem ag143 : agg? Tryz.prog 143 = some false := by kernel_rfl
attribute [simp] Tryz.underlying145
@[simp] theorem sz145 : sizeOf? Tryz.prog 145 = some 1 := by kernel_rfl
@[simp] theorem ag145 : agg? Tryz.prog 145 = some false := by kernel_rfl
attribute [simp] Tryz.underlying146
@[simp] theorem sz146 : sizeOf? Tryz.prog 146 = some 2 := by kernel_rfl
@[simp] theorem ag146 : agg? Tryz.prog 146 = some true := by kernel_rfl
@[simp] theorem bv146 (parts : List (Nat × V)) : buildV Tryz.prog 146 parts = (fillV (fun i => [(0,1),(1,1)][i]?) [.d .nilP,.nilS] parts).map mkAgg := buildV_struct (by kernel_rfl) (by kernel_rfl)
@[simp] theorem fo146_0 : fieldOff? Tryz.prog 146 0 = some (0,145) := by kernel_rfl
@[simp] theorem fo146_1 : fieldOff? Tryz.prog 146 1 = some (1,98) := by kernel_rfl
attribute [simp] Tryz.underlying147
@[simp] theorem sz147 : sizeOf? Tryz.prog 147 = some 2 := by kernel_rfl
@[simp] theorem ag147 : agg? Tryz.prog 147 = some true := by kernel_rfl
@[simp] theorem zs147 : zeroVs? Tryz.prog 147 = some [.d .nilP,.nilS] := by kernel_rfl
@[simp] theorem al147 (h : List Am.Obj) : allocV Tryz.prog h 147 = some (.ptr h.length 0,h ++ [.box [.d .nilP,.nilS]]) := allocV_of zs147
@[simp] theorem bv147 (parts : List (Nat × V)) : buildV Tryz.prog 147 parts = (fillV (fun i => [(0,1),(1,1)][i]?) [.d .nilP,.nilS] parts).map mkAgg := buildV_struct (by kernel_rfl) (by kernel_rfl)
@[simp] theorem fo147_0 : fieldOff? Tryz.prog 147 0 = some (0,145) := by kernel_rfl
@[simp] theorem fo147_1 : fieldOff? Tryz.prog 147 1 = some (1,98) := by kernel_rfl
attribute [simp] Tryz.underlying148
@[simp] theorem sz148 : sizeOf? Tryz.prog 148 = some 1 := by kernel_rfl
@[simp] theorem ag148 : agg? Tryz.prog 148 = some false := by kernel_rfl
attribute [simp] Tryz.underlying149
@[simp] theorem sz149 : sizeOf? Tryz.prog 149 = some 1 := by kernel_rfl
@[simp] theorem ag149 : agg? Tryz.prog 149 = some false := by kernel_rfl
attribute [simp] Tryz.underlying150
@[simp] theorem sz150 : sizeOf? Tryz.prog 150 = some 1 := by kernel_rfl
@[simp] theorem ag150 : agg? Tryz.prog 150 = some false := by kernel_rfl
attribute [simp] Tryz.underlying152
@[simp] theorem sz152 : sizeOf? Tryz.prog 152 = some 1 := by kernel_rfl
@[simp] theorem ag152 : agg? Tryz.prog 152 = some false := by kernel_rfl
attribute [simp] Tryz.underlying156
@[simp] theorem sz156 : sizeOf? Tryz.prog 156 = some 1 := by kernel_rfl
@[simp] theorem ag156 : agg? Tryz.prog 156 = some false := by kernel_rfl
attribute [simp] Tryz.underlying159
@[simp] theorem sz159 : sizeOf? Tryz.prog 159 = some 1 := by kernel_rfl
@[simp] theorem ag159 : agg? Tryz.prog 159 = some false := by kernel_rfl
attribute [simp] Tryz.underlying160
@[simp] theorem sz160 : sizeOf? Tryz.prog 160 = some 7 := by kernel_rfl
@[simp] theorem ag160 : agg? Tryz.prog 160 = some true := by kernel_rfl
@[simp] theorem bv160 (parts : List (Nat × V)) : buildV Tryz.prog 160 parts = (fillV (fun i => [(0,1),(1,1),(2,1),(3,1),(4,1),(5,1),(6,1)][i]?) [.d (.int .i64 0),.d (.int .i64 0),.d .nilM,.d (.str ⟨#[]⟩),.d (.int .i64 0),.d (.int .i64 0),.d (.bool false)] parts).map mkAgg := buildV_struct (by kernel_rfl) (by kernel_rfl)
@[simp] theorem fo160_0 : fieldOff? Tryz.prog 160 0 = some (0,3) := by kernel_rfl
@[simp] theorem fo160_1 : fieldOff? Tryz.prog 160 1 = some (1,3) := by kernel_rfl
@[simp] theorem fo160_2 : fieldOff? Tryz.prog 160 2 = some (2,159) := by kernel_rfl
@[simp] theorem fo160_3 : fieldOff? Tryz.prog 160 3 = some (3,9) := by kernel_rfl
@[simp] theorem fo160_4 : fieldOff? Tryz.prog 160 4 = some (4,3) := by kernel_rfl
@[simp] theorem fo160_5 : fieldOff? Tryz.prog 160 5 = some (5,3) := by kernel_rfl
@[simp] theorem fo160_6 : fieldOff? Tryz.prog 160 6 = some (6,4) := by kernel_rfl
attribute [simp] Tryz.underlying161
@[simp] theorem sz161 : sizeOf? Tryz.prog 161 = some 7 := by kernel_rfl
@[simp] theorem ag161 : agg? Tryz.prog 161 = some true := by kernel_rfl
@[simp] theorem bv161 (parts : List (Nat × V)) : buildV Tryz.prog 161 parts = (fillV (fun i => [(0,1),(1,1),(2,1),(3,1),(4,1),(5,1),(6,1)][i]?) [.d (.int .i64 0),.d (.int .i64 0),.d .nilM,.d (.str ⟨#[]⟩),.d (.int .i64 0),.d (.int .i64 0),.d (.bool false)] parts).map mkAgg := buildV_struct (by kernel_rfl) (by kernel_rfl)
@[simp] theorem fo161_0 : fieldOff? Tryz.prog 161 0 = some (0,3) := by kernel_rfl
@[simp] theorem fo161_1 : fieldOff? Tryz.prog 161 1 = some (1,3) := by kernel_rfl
@[simp] theorem fo161_2 : fieldOff? Tryz.prog 161 2 = some (2,159) := by kernel_rfl
@[simp] theorem fo161_3 : fieldOff? Tryz.prog 161 3 = some (3,9) := by kernel_rfl
@[simp] theorem fo161_4 : fieldOff? Tryz.prog 161 4 = some (4,3) := by kernel_rfl
@[simp] theorem fo161_5 : fieldOff? Tryz.prog 161 5 = some (5,3) := by kernel_rfl
@[simp] theorem fo161_6 : fieldOff? Tryz.prog 161 6 = some (6,4) := by kernel_rfl
attribute [simp] Tryz.underlying163
@[simp] theorem sz163 : sizeOf? Tryz.prog 163 = some 2 := by kernel_rfl
@[simp] theorem ag163 : agg? Tryz.prog 163 = some true := by kernel_rfl
@[simp] theorem bv163 (parts : List (Nat × V)) : buildV Tryz.prog 163 parts = (fillV (fun i => [(0,1),(1,1)][i]?) [.nilS,.d (.bool false)] parts).map mkAgg := buildV_struct (by kernel_rfl) (by kernel_rfl)
@[simp] theorem fo163_0 : fieldOff? Tryz.prog 163 0 = some (0,98) := by kernel_rfl
@[simp] theorem fo163_1 : fieldOff? Tryz.prog 163 1 = some (1,4) := by kernel_rfl
attribute [simp] Tryz.underlying164
@[simp] theorem sz164 : sizeOf? Tryz.prog 164 = some 2 := by kernel_rfl
@[simp] theorem ag164 : agg? Tryz.prog 164 = some true := by kernel_rfl
@[simp] theorem bv164 (parts : List (Nat × V)) : buildV Tryz.prog 164 parts = (fillV (fun i => [(0,1),(1,1)][i]?) [.nilS,.d (.bool false)] parts).map mkAgg := buildV_struct (by kernel_rfl) (by kernel_rfl)
@[simp] theorem fo164_0 : fieldOff? Tryz.prog 164 0 = some (0,98) := by kernel_rfl
@[simp] theorem fo164_1 : fieldOff? Tryz.prog 164 1 = some (1,4) := by kernel_rfl
attribute [simp] Tryz.underlying165
@[simp] theorem sz165 : sizeOf? Tryz.prog 165 = some 1 := by kernel_rfl
@[simp] theorem ag165 : agg? Tryz.prog 165 = some false := by kernel_rfl
attribute [simp] Tryz.underlying167
@[simp] theorem sz167 : sizeOf? Tryz.prog 167 = some 1 := by kernel_rfl
@[simp] theorem ag167 : agg? Tryz.prog 167 = some false := by kernel_rfl
attribute [simp] Tryz.underlying169
@[simp] theorem sz169 : sizeOf? Tryz.prog 169 = some 1 := by kernel_rfl
@[simp] theorem ag169 : agg? Tryz.prog 169 = some false := by kernel_rfl
attribute [simp] Tryz.underlying170
@[simp] theorem sz170 : sizeOf? Tryz.prog 170 = some 16 := by kernel_rfl
@[simp] theorem ag170 : agg? Tryz.prog 170 = some true := by kernel_rfl
@[simp] theorem bv170 (parts : List (Nat × V)) : buildV Tryz.prog 170 parts = (fillV (fun i => [(0,1),(1,4),(5,2),(7,2),(9,1),(10,1),(11,1),(12,1),(13,1),(14,1),(15,1)][i]?) [.d .nilP,.d (.int .i64 0),.d (.int .i64 0),.d (.int .u64 0),.d (.int .i64 0),.d (.int .u32 0),.nilS,.d (.int .u32 0),.nilS,.d (.int .u64 0),.d (.int .u64 0),.d (.int .u64 0),.d (.int .u64 0),.d (.int .i64 0),.d .nilM,.nilS] parts).map mkAgg := buildV_struct (by kernel_rfl) (by kernel_rfl)
@[simp] theorem fo170_0 : fieldOff? Tryz.prog 170 0 = some (0,109) := by kernel_rfl
@[simp] theorem fo170_1 : fieldOff? Tryz.prog 170 1 = some (1,83) := by kernel_rfl
@[simp] theorem fo170_2 : fieldOff? Tryz.prog 170 2 = some (5,80) := by kernel_rfl
@[simp] theorem fo170_3 : fieldOff? Tryz.prog 170 3 = some (7,80) := by kernel_rfl
@[simp] theorem fo170_4 : fieldOff? Tryz.prog 170 4 = some (9,41) := by kernel_rfl
@[simp] theorem fo170_5 : fieldOff? Tryz.prog 170 5 = some (10,41) := by kernel_rfl
@[simp] theorem fo170_6 : fieldOff? Tryz.prog 170 6 = some (11,41) := by kernel_rfl
@[simp] theorem fo170_7 : fieldOff? Tryz.prog 170 7 = some (12,41) := by kernel_rfl
@[simp] theorem fo170_8 : fieldOff? Tryz.prog 170 8 = some (13,3) := by kernel_rfl
@[simp] theorem fo170_9 : fieldOff? Tryz.prog 170 9 = some (14,169) := by kernel_rfl
@[simp] theorem fo170_10 : fieldOff? Tryz.prog 170 10 = some (15,78) := by kernel_rfl
attribute [simp] Tryz.underlying171
@[simp] theorem sz171 : sizeOf? Tryz.prog 171 = some 16 := by kernel_rfl
@[simp] theorem ag171 : agg? Tryz.prog 171 = some true := by kernel_rfl
@[simp] theorem bv171 (parts : List (Nat × V)) : buildV Tryz.prog 171 parts = (fillV (fun i => [(0,1),(1,4),(5,2),(7,2),(9,1),(10,1),(11,1),(12,1),(13,1),(14,1),(15,1)][i]?) [.d .nilP,.d (.int .i64 0),.d (.int .i64 0),.d (.int .u64 0),.d (.int .i64 0),.d (.int .u32 0),.nilS,.d (.int .u32 0),.nilS,.d (.int .u64 0),.d (.int .u64 0),.d (.int .u64 0),.d (.int .u64 0),.d (.int .i64 0),.d .nilM,.nilS] parts).map mkAgg := buildV_struct (by kernel_rfl) (by kernel_rfl)
@[simp] theorem fo171_0 : fieldOff? Tryz.prog 171 0 = some (0,109) := by kernel_rfl
@[simp] theorem fo171_1 : fieldOff? Tryz.prog 171 1 = some (1,83) := by kernel_rfl
@[simp] theorem fo171_2 : fieldOff? Tryz.prog 171 2 = some (5,80) := by kernel_rfl
@[simp] theorem fo171_3 : fieldOff? Tryz.prog 171 3 = some (7,80) := by kernel_rfl
@[simp] theorem fo171_4 : fieldOff? Tryz.prog 171 4 = some (9,41) := by kernel_rfl
@[simp] theorem fo171_5 : fieldOff? Tryz.prog 171 5 = some (10,41) := by kernel_rfl
@[simp] theorem fo171_6 : fieldOff? Tryz.prog 171 6 = some (11,41) := by kernel_rfl
@[simp] theorem fo171_7 : fieldOff? Tryz.prog 171 7 = some (12,41) := by kernel_rfl
@[simp] theorem fo171_8 : fieldOff? Tryz.prog 171 8 = some (13,3) := by kernel_rfl
@[simp] theorem fo171_9 : fieldOff? Tryz.prog 171 9 = some (14,169) := by kernel_rfl
@[simp] theorem fo171_10 : fieldOff? Tryz.prog 171 10 = some (15,78) := by kernel_rfl
attribute [simp] Tryz.underlying175
@[simp] theorem sz175 : sizeOf? Tryz.prog 175 = some 1 := by kernel_rfl
@[simp] theorem ag175 : agg? Tryz.prog 175 = some false := by kernel_rfl
attribute [simp] Tryz.underlying178
@[simp] theorem sz178 : sizeOf? Tryz.prog 178 = some 1 := by kernel_rfl
@[simp] theorem ag178 : agg? Tryz.prog 178 = some false := by kernel_rfl
@[simp] theorem es178 : elemSize Tryz.prog 178 = 6 := by kernel_rfl
attribute [simp] Tryz.underlying179
@[simp] theorem sz179 : sizeOf? Tryz.prog 179 = some 1 := by kernel_rfl
@[simp] theorem ag179 : agg? Tryz.prog 179 = some false := by kernel_rfl
attribute [simp] Tryz.underlying182
@[simp] theorem sz182 : sizeOf? Tryz.prog 182 = some 6 := by kernel_rfl
@[simp] theorem ag182 : agg? Tryz.prog 182 = some true := by kernel_rfl
@[simp] theorem bv182 (parts : List (Nat × V)) : buildV Tryz.prog 182 parts = (fillV (fun i => [(0,1),(1,1),(2,1),(3,1),(4,1),(5,1)][i]?) [.d (.bool false),.nilS,.nilS,.nilS,.d (.int .u64 0),.d (.int .u64 0)] parts).map mkAgg := buildV_struct (by kernel_rfl) (by kernel_rfl)
@[simp] theorem fo182_0 : fieldOff? Tryz.prog 182 0 = some (0,4) := by kernel_rfl
@[simp] theorem fo182_1 : fieldOff? Tryz.prog 182 1 = some (1,78) := by kernel_rfl
@[simp] theorem fo182_2 : fieldOff? Tryz.prog 182 2 = some (2,178) := by kernel_rfl
@[simp] theorem fo182_3 : fieldOff? Tryz.prog 182 3 = some (3,51) := by kernel_rfl
@[simp] theorem fo182_4 : fieldOff? Tryz.prog 182 4 = some (4,41) := by kernel_rfl
@[simp] theorem fo182_5 : fieldOff? Tryz.prog 182 5 = some (5,41) := by kernel_rfl
attribute [simp] Tryz.underlying183
@[simp] theorem sz183 : sizeOf? Tryz.prog 183 = some 6 := by kernel_rfl
@[simp] theorem ag183 : agg? Tryz.prog 183 = some true := by kernel_rfl
@[simp] theorem bv183 (parts : List (Nat × V)) : buildV Tryz.prog 183 parts = (fillV (fun i => [(0,1),(1,1),(2,1),(3,1),(4,1),(5,1)][i]?) [.d (.bool false),.nilS,.nilS,.nilS,.d (.int .u64 0),.d (.int .u64 0)] parts).map mkAgg := buildV_struct (by kernel_rfl) (by kernel_rfl)
@[simp] theorem fo183_0 : fieldOff? Tryz.prog 183 0 = some (0,4) := by kernel_rfl
@[simp] theorem fo183_1 : fieldOff? Tryz.prog 183 1 = some (1,78) := by kernel_rfl
@[simp] theorem fo183_2 : fieldOff? Tryz.prog 183 2 = some (2,178) := by kernel_rfl
@[simp] theorem fo183_3 : fieldOff? Tryz.prog 183 3 = some (3,51) := by kernel_rfl
@[simp] theorem fo183_4 : fieldOff? Tryz.prog 183 4 = some (4,41) := by kernel_rfl
@[simp] theorem fo183_5 : fieldOff? Tryz.prog 183 5 = some (5,41) := by kernel_rfl
attribute [simp] Tryz.underlying184
@[simp] theorem sz184 : sizeOf? Tryz.prog 184 = some 3 := by kernel_rfl
@[simp] theorem ag184 : agg? Tryz.prog 184 = some true := by kernel_rfl
@[simp] theorem bv184 (parts : List (Nat × V)) : buildV Tryz.prog 184 parts = (fillV (fun i => [(0,1),(1,1),(2,1)][i]?) [.d (.int .u64 0),.nilS,.nilS] parts).map mkAgg := buildV_struct (by kernel_rfl) (by kernel_rfl)
@[simp] theorem fo184_0 : fieldOff? Tryz.prog 184 0 = some (0,41) := by kernel_rfl
@[simp] theorem fo184_1 : fieldOff? Tryz.prog 184 1 = some (1,51) := by kernel_rfl
@[simp] theorem fo184_2 : fieldOff? Tryz.prog 184 2 = some (2,178) := by kernel_rfl
attribute [simp] Tryz.underlying185
@[simp] theorem sz185 : sizeOf? Tryz.prog 185 = some 3 := by kernel_rfl
@[simp] theorem ag185 : agg? Tryz.prog 185 = some true := by kernel_rfl
@[simp] theorem bv185 (parts : List (Nat × V)) : buildV Tryz.prog 185 parts = (fillV (fun i => [(0,1),(1,1),(2,1)][i]?) [.d (.int .u64 0),.nilS,.nilS] parts).map mkAgg := buildV_struct (by kernel_rfl) (by kernel_rfl)
@[simp] theorem fo185_0 : fieldOff? Tryz.prog 185 0 = some (0,41) := by kernel_rfl
@[simp] theorem fo185_1 : fieldOff? Tryz.prog 185 1 = some (1,51) := by kernel_rfl
@[simp] theorem fo185_2 : fieldOff? Tryz.prog 185 2 = some (2,178) := by kernel_rfl
attribute [simp] Tryz.underlying187
@[simp] theorem sz187 : sizeOf? Tryz.prog 187 = some 1 := by kernel_rfl
@[simp] theorem ag187 : agg? Tryz.prog 187 = some false := by kernel_rfl
attribute [simp] Tryz.underlying190
@[simp] theorem sz190 : sizeOf? Tryz.prog 190 = some 2 := by kernel_rfl
@[simp] theorem ag190 : agg? Tryz.prog 190 = some true := by kernel_rfl
@[simp] theorem bv190 (parts : List (Nat × V)) : buildV Tryz.prog 190 parts = (fillV (fun i => [(0,1),(1,1)][i]?) [.d (.int .i64 0),.d (.int .u64 0)] parts).map mkAgg := buildV_struct (by kernel_rfl) (by kernel_rfl)
@[simp] theorem fo190_0 : fieldOff? Tryz.prog 190 0 = some (0,3) := by kernel_rfl
@[simp] theorem fo190_1 : fieldOff? Tryz.prog 190 1 = some (1,41) := by kernel_rfl
@[simp] theorem fs190 : flatStruct Tryz.prog 190 = some [(0,0),(1,0)] := by kernel_rfl
attribute [simp] Tryz.underlying191
@[simp] theorem sz191 : sizeOf? Tryz.prog 191 = some 2 := by kernel_rfl
@[simp] theorem ag191 : agg? Tryz.prog 191 = some true := by kernel_rfl
@[simp] theorem bv191 (parts : List (Nat × V)) : buildV Tryz.prog 191 parts = (fillV (fun i => [(0,1),(1,1)][i]?) [.d (.int .i64 0),.d (.int .u64 0)] parts).map mkAgg := buildV_struct (by kernel_rfl) (by kernel_rfl)
@[simp] theorem fo191_0 : fieldOff? Tryz.prog 191 0 = some (0,3) := by kernel_rfl
@[simp] theorem fo191_1 : fieldOff? Tryz.prog 191 1 = some (1,41) := by kernel_rfl
@[simp] theorem fs191 : flatStruct Tryz.prog 191 = some [(0,0),(1,0)] := by kernel_rfl
attribute [simp] Tryz.underlying192
@[simp] theorem sz192 : sizeOf? Tryz.prog 192 = some 1 := by kernel_rfl
@[simp] theorem ag192 : agg? Tryz.prog 192 = some false := by kernel_rfl
attribute [simp] Tryz.underlying195
@[simp] theorem sz195 : sizeOf? Tryz.prog 195 = some 1 := by kernel_rfl
@[simp] theorem ag195 : agg? Tryz.prog 195 = some false := by kernel_rfl
attribute [simp] Tryz.underlying199
@[simp] theorem sz199 : sizeOf? Tryz.prog 199 = some 4 := by kernel_rfl
@[simp] theorem ag199 : agg? Tryz.prog 199 = some true := by kernel_rfl
@[simp] theorem bv199 (parts : List (Nat × V)) : buildV Tryz.prog 199 parts = (fillV (fun i => [(0,2),(2,1),(3,1)][i]?) [.d (.int .u32 0),.nilS,.d .nilM,.d (.int .u64 0)] parts).map mkAgg := buildV_struct (by kernel_rfl) (by kernel_rfl)
@[simp] theorem fo199_0 : fieldOff? Tryz.prog 199 0 = some (0,80) := by kernel_rfl
@[simp] theorem fo199_1 : fieldOff? Tryz.prog 199 1 = some (2,169) := by kernel_rfl
@[simp] theorem fo199_2 : fieldOff? Tryz.prog 199 2 = some (3,41) := by kernel_rfl
attribute [simp] Tryz.underlying200
@[simp] theorem sz200 : sizeOf? Tryz.prog 200 = some 4 := by kernel_rfl
@[simp] theorem ag200 : agg? Tryz.prog 200 = some true := by kernel_rfl
@[simp] theorem bv200 (parts : List (Nat × V)) : buildV Tryz.prog 200 parts = (fillV (fun i => [(0,2),(2,1),(3,1)][i]?) [.d (.int .u32 0),.nilS,.d .nilM,.d (.int .u64 0)] parts).map mkAgg := buildV_struct (by kernel_rfl) (by kernel_rfl)
@[simp] theorem fo200_0 : fieldOff? Tryz.prog 200 0 = some (0,80) := by kernel_rfl
@[simp] theorem fo200_1 : fieldOff? Tryz.prog 200 1 = some (2,169) := by kernel_rfl
@[simp] theorem fo200_2 : fieldOff? Tryz.prog 200 2 = some (3,41) := by kernel_rfl
attribute [simp] Tryz.underlying201
@[simp] theorem sz201 : sizeOf? Tryz.prog 201 = some 1 := by kernel_rfl
@[simp] theorem ag201 : agg? Tryz.prog 201 = some false := by kernel_rfl
attribute [simp] Tryz.underlying204
@[simp] theorem sz204 : sizeOf? Tryz.prog 204 = some 1 := by kernel_rfl
@[simp] theorem ag204 : agg? Tryz.prog 204 = some false := by kernel_rfl
attribute [simp] Tryz.underlying207
@[simp] theorem sz207 : sizeOf? Tryz.prog 207 = some 1 := by kernel_rfl
@[simp] theorem ag207 : agg? Tryz.prog 207 = some false := by kernel_rfl
@[simp] theorem es207 : elemSize Tryz.prog 207 = 1 := by kernel_rfl
attribute [simp] Tryz.underlying208
@[simp] theorem sz208 : sizeOf? Tryz.prog 208 = some 1 := by kernel_rfl
@[simp] theorem ag208 : agg? Tryz.prog 208 = some false := by kernel_rfl
attribute [simp] Tryz.underlying210
@[simp] theorem sz210 : sizeOf? Tryz.prog 210 = some 24 := by kernel_rfl
@[simp] theorem ag210 : agg? Tryz.prog 210 = some true := by kernel_rfl
@[simp] theorem zs210 : zeroVs? Tryz.prog 210 = some [.d (.int .u8 0),.d (.int .u8 0),.d (.int .u8 0),.d (.int .u8 0),.d (.int .u8 0),.d (.int .u8 0),.d (.int .u8 0),.d (.int .u8 0),.d (.int .u8 0),.d (.int .u8 0),.d (.int .u8 0),.d (.int .u8 0),.d (.int .u8 0),.d (.int .u8 0),.d (.int .u8 0),.d (.int .u8 0),.d (.int .u8 0),.d (.int .u8 0),.d (.int .u8 0),.d (.int .u8 0),.d (.int .u8 0),.d (.int .u8 0),.d (.int .u8 0),.d (.int .u8 0)] := by kernel_rfl
@[simp] theorem al210 (h : List Am.Obj) : allocV Tryz.prog h 210 = some (.ptr h.length 0,h ++ [.box [.d (.int .u8 0),.d (.int .u8 0),.d (.int .u8 0),.d (.int .u8 0),.d (.int .u8 0),.d (.int .u8 0),.d (.int .u8 0),.d (.int .u8 0),.d (.int .u8 0),.d (.int .u8 0),.d (.int .u8 0),.d (.int .u8 0),.d (.int .u8 0),.d (.int .u8 0),.d (.int .u8 0),.d (.int .u8 0),.d (.int .u8 0),.d (.int .u8 0),.d (.int .u8 0),.d (.int .u8 0),.d (.int .u8 0),.d (.int .u8 0),.d (.int .u8 0),.d (.int .u8 0)]]) := allocV_of zs210
@[simp] theorem bv210 (parts : List (Nat × V)) : buildV Tryz.prog 210 parts = (fillV (fun i => some (i * 1,1)) [.d (.int .u8 0),.d (.int .u8 0),.d (.int .u8 0),.d (.int .u8 0),.d (.int .u8 0),.d (.int .u8 0),.d (.int .u8 0),.d (.int .u8 0),.d (.int .u8 0),.d (.int .u8 0),.d (.int .u8 0),.d (.int .u8 0),.d (.int .u8 0),.d (.int .u8 0),.d (.int .u8 0),.d (.int .u8 0),.d (.int .u8 0),.d (.int .u8 0),.d (.int .u8 0),.d (.int .u8 0),.d (.int .u8 0),.d (.int .u8 0),.d (.int .u8 0),.d (.int .u8 0)] parts).map mkAgg := buildV_array (by kernel_rfl) Tryz.underlying210 (by kernel_rfl)
attribute [simp] Tryz.underlying213
@[simp] theorem sz213 : sizeOf? Tryz.prog 213 = some 1 := by kernel_rfl
@[simp] theorem ag213 : agg? Tryz.prog 213 = some false := by kernel_rfl
attribute [simp] Tryz.underlying215
@[simp] theorem sz215 : sizeOf? Tryz.prog 215 = some 1 := by kernel_rfl
@[simp] theorem ag215 : agg? Tryz.prog 215 = some false := by kernel_rfl
attribute [simp] Tryz.underlying217
@[simp] theorem sz217 : sizeOf? Tryz.prog 217 = some 1 := by kernel_rfl
@[simp] theorem ag217 : agg? Tryz.prog 217 = some false := by kernel_rfl
attribute [simp] Tryz.underlying222
@[simp] theorem sz222 : sizeOf? Tryz.prog 222 = some 1 := by kernel_rfl
@[simp] theorem ag222 : agg? Tryz.prog 222 = some false := by kernel_rfl
attribute [simp] Tryz.underlying223
@[simp] theorem sz223 : sizeOf? Tryz.prog 223 = some 1 := by kernel_rfl
@[simp] theorem ag223 : agg? Tryz.prog 223 = some false := by kernel_rfl
attribute [simp] Tryz.underlying225
@[simp] theorem sz225 : sizeOf? Tryz.prog 225 = some 5 := by kernel_rfl
@[simp] theorem ag225 : agg? Tryz.prog 225 = some true := by kernel_rfl
@[simp] theorem bv225 (parts : List (Nat × V)) : buildV Tryz.prog 225 parts = (fillV (fun i => [(0,1),(1,3),(4,1)][i]?) [.d .nilP,.nilS,.nilS,.d (.int .u64 0),.d (.str ⟨#[]⟩)] parts).map mkAgg := buildV_struct (by kernel_rfl) (by kernel_rfl)
@[simp] theorem fo225_0 : fieldOff? Tryz.prog 225 0 = some (0,107) := by kernel_rfl
@[simp] theorem fo225_1 : fieldOff? Tryz.prog 225 1 = some (1,141) := by kernel_rfl
@[simp] theorem fo225_2 : fieldOff? Tryz.prog 225 2 = some (4,9) := by kernel_rfl
attribute [simp] Tryz.underlying226
@[simp] theorem sz226 : sizeOf? Tryz.prog 226 = some 5 := by kernel_rfl
@[simp] theorem ag226 : agg? Tryz.prog 226 = some true := by kernel_rfl
@[simp] theorem bv226 (parts : List (Nat × V)) : buildV Tryz.prog 226 parts = (fillV (fun i => [(0,1),(1,3),(4,1)][i]?) [.d .nilP,.nilS,.nilS,.d (.int .u64 0),.d (.str ⟨#[]⟩)] parts).map mkAgg := buildV_struct (by kernel_rfl) (by kernel_rfl)
@[simp] theorem fo226_0 : fieldOff? Tryz.prog 226 0 = some (0,107) := by kernel_rfl
@[simp] theorem fo226_1 : fieldOff? Tryz.prog 226 1 = some (1,141) := by kernel_rfl
@[simp] theorem fo226_2 : fieldOff? Tryz.prog 226 2 = some (4,9) := by kernel_rfl
attribute [simp] Tryz.underlying227
@[simp] theorem sz227 : sizeOf? Tryz.prog 227 = some 1 := by kernel_rfl
@[simp] theorem ag227 : agg? Tryz.prog 227 = some false := by kernel_rfl
attribute [simp] Tryz.underlying230
@[simp] theorem sz230 : sizeOf? Tryz.prog 230 = some 1 := by kernel_rfl
@[simp] theorem ag230 : agg? Tryz.prog 230 = some false := by kernel_rfl
attribute [simp] Tryz.underlying233
@[simp] theorem sz233 : sizeOf? Tryz.prog 233 = some 1 := by kernel_rfl
@[simp] theorem ag233 : agg? Tryz.prog 233 = some false := by kernel_rfl
attribute [simp] Tryz.underlying239
@[simp] theorem sz239 : sizeOf? Tryz.prog 239 = some 1 := by kernel_rfl
@[simp] theorem ag239 : agg? Tryz.prog 239 = some false := by kernel_rfl
attribute [simp] Tryz.underlying240
@[simp] theorem sz240 : sizeOf? Tryz.prog 240 = some 1 := by kernel_rfl
@[simp] theorem ag240 : agg? Tryz.prog 240 = some false := by kernel_rfl
attribute [simp] Tryz.underlying243
@[simp] theorem sz243 : sizeOf? Tryz.prog 243 = some 1 := by kernel_rfl
@[simp] theorem ag243 : agg? Tryz.prog 243 = some false := by kernel_rfl
attribute [simp] Tryz.underlying247
@[simp] theorem sz247 : sizeOf? Tryz.prog 247 = some 1 := by kernel_rfl
@[simp] theorem ag247 : agg? Tryz.prog 247 = some false := by kernel_rfl
@[simp] theorem es247 : elemSize Tryz.prog 247 = 10 := by kernel_rfl
attribute [simp] Tryz.underlying248
@[simp] theorem sz248 : sizeOf? Tryz.prog 248 = some 6 := by kernel_rfl
@[simp] theorem ag248 : agg? Tryz.prog 248 = some true := by kernel_rfl
@[simp] theorem bv248 (parts : List (Nat × V)) : buildV Tryz.prog 248 parts = (fillV (fun i => [(0,1),(1,1),(2,1),(3,1),(4,1),(5,1)][i]?) [.d (.str ⟨#[]⟩),.d (.bool false),.d (.int .u64 0),.d (.int .i64 0),.d (.int .u32 0),.nilS] parts).map mkAgg := buildV_struct (by kernel_rfl) (by kernel_rfl)
@[simp] theorem fo248_0 : fieldOff? Tryz.prog 248 0 = some (0,9) := by kernel_rfl
@[simp] theorem fo248_1 : fieldOff? Tryz.prog 248 1 = some (1,4) := by kernel_rfl
@[simp] theorem fo248_2 : fieldOff? Tryz.prog 248 2 = some (2,41) := by kernel_rfl
@[simp] theorem fo248_3 : fieldOff? Tryz.prog 248 3 = some (3,3) := by kernel_rfl
@[simp] theorem fo248_4 : fieldOff? Tryz.prog 248 4 = some (4,77) := by kernel_rfl
@[simp] theorem fo248_5 : fieldOff? Tryz.prog 248 5 = some (5,247) := by kernel_rfl
attribute [simp] Tryz.underlying249
@[simp] theorem sz249 : sizeOf? Tryz.prog 249 = some 6 := by kernel_rfl
@[simp] theorem ag249 : agg? Tryz.prog 249 = some true := by kernel_rfl
@[simp] theorem zs249 : zeroVs? Tryz.prog 249 = some [.d (.str ⟨#[]⟩),.d (.bool false),.d (.int .u64 0),.d (.int .i64 0),.d (.int .u32 0),.nilS] := by kernel_rfl
@[simp] theorem al249 (h : List Am.Obj) : allocV Tryz.prog h 249 = some (.ptr h.length 0,h ++ [.box [.d (.str ⟨#[]⟩),.d (.bool false),.d (.int .u64 0),.d (.int .i64 0),.d (.int .u32 0),.nilS]]) := allocV_of zs249
@[simp] theorem ap249 : appElem? Tryz.prog 249 = some 6 := by kernel_rfl
@[simp] theorem bv249 (parts : List (Nat × V)) : buildV Tryz.prog 249 parts = (fillV (fun i => [(0,1),(1,1),(2,1),(3,1),(4,1),(5,1)][i]?) [.d (.str ⟨#[]⟩),.d (.bool false),.d (.int .u64 0),.d (.int .i64 0),.d (.int .u32 0),.nilS] parts).map mkAgg := buildV_struct (by kernel_rfl) (by kernel_rfl)
@[simp] theorem fo249_0 : fieldOff? Tryz.prog 249 0 = some (0,9) := by kernel_rfl
@[simp] theorem fo249_1 : fieldOff? Tryz.prog 249 1 = some (1,4) := by kernel_rfl
@[simp] theorem fo249_2 : fieldOff? Tryz.prog 249 2 = some (2,41) := by kernel_rfl
@[simp] theorem fo249_3 : fieldOff? Tryz.prog 249 3 = some (3,3) := by kernel_rfl
@[simp] theorem fo249_4 : fieldOff? Tryz.prog 249 4 = some (4,77) := by kernel_rfl
@[simp] theorem fo249_5 : fieldOff? Tryz.prog 249 5 = some (5,247) := by kernel_rfl
@[simp] theorem zd249 : zeroD? Tryz.prog 249 = some (.agg [.str ⟨#[]⟩,.bool false,.int .u64 0,.int .i64 0,.int .u32 0,.list []]) := by kernel_rfl
attribute [simp] Tryz.underlying250
@[simp] theorem sz250 : sizeOf? Tryz.prog 250 = some 10 := by kernel_rfl
@[simp] theorem ag250 : agg? Tryz.prog 250 = some true := by kernel_rfl
@[simp] theorem bv250 (parts : List (Nat × V)) : buildV Tryz.prog 250 parts = (fillV (fun i => [(0,1),(1,1),(2,1),(3,1),(4,3),(7,3)][i]?) [.d (.int .i64 0),.d (.int .i64 0),.d (.bool false),.d (.bool false),.d (.int .u8 0),.d (.int .i64 0),.d (.str ⟨#[]⟩),.d (.int .u8 0),.d (.int .i64 0),.d (.str ⟨#[]⟩)] parts).map mkAgg := buildV_struct (by kernel_rfl) (by kernel_rfl)
@[simp] theorem fo250_0 : fieldOff? Tryz.prog 250 0 = some (0,3) := by kernel_rfl
@[simp] theorem fo250_1 : fieldOff? Tryz.prog 250 1 = some (1,3) := by kernel_rfl
@[simp] theorem fo250_2 : fieldOff? Tryz.prog 250 2 = some (2,4) := by kernel_rfl
@[simp] theorem fo250_3 : fieldOff? Tryz.prog 250 3 = some (3,4) := by kernel_rfl
@[simp] theorem fo250_4 : fieldOff? Tryz.prog 250 4 = some (4,40) := by kernel_rfl
@[simp] theorem fo250_5 : fieldOff? Tryz.prog 250 5 = some (7,40) := by kernel_rfl
@[simp] theorem fs250 : flatStruct Tryz.prog 250 = some [(0,0),(1,0),(2,1),(3,1),(4,0),(5,0),(6,2),(7,0),(8,0),(9,2)] := by kernel_rfl
attribute [simp] Tryz.underlying251
@[simp] theorem sz251 : sizeOf? Tryz.prog 251 = some 10 := by kernel_rfl
@[simp] theorem ag251 : agg? Tryz.prog 251 = some true := by kernel_rfl
@[simp] theorem zs251 : zeroVs? Tryz.prog 251 = some [.d (.int .i64 0),.d (.int .i64 0),.d (.bool false),.d (.bool false),.d (.int .u8 0),.d (.int .i64 0),.d (.str ⟨#[]⟩),.d (.int .u8 0),.d (.int .i64 0),.d (.str ⟨#[]⟩)] := by kernel_rfl
@[simp] theorem al251 (h : List Am.Obj) : allocV Tryz.prog h 251 = some (.ptr h.length 0,h ++ [.box [.d (.int .i64 0),.d (.int .i64 0),.d (.bool false),.d (.bool false),.d (.int .u8 0),.d (.int .i64 0),.d (.str ⟨#[]⟩),.d (.int .u8 0),.d (.int .i64 0),.d (.str ⟨#[]⟩)]]) := allocV_of zs251
@[simp] theorem ap251 : appElem? Tryz.prog 251 = some 10 := by kernel_rfl
@[simp] theorem bv251 (parts : List (Nat × V)) : buildV Tryz.prog 251 parts = (fillV (fun i => [(0,1),(1,1),(2,1),(3,1),(4,3),(7,3)][i]?) [.d (.int .i64 0),.d (.int .i64 0),.d (.bool false),.d (.bool false),.d (.int .u8 0),.d (.int .i64 0),.d (.str ⟨#[]⟩),.d (.int .u8 0),.d (.int .i64 0),.d (.str ⟨#[]⟩)] parts).map mkAgg := buildV_struct (by kernel_rfl) (by kernel_rfl)
@[simp] theorem fo251_0 : fieldOff? Tryz.prog 251 0 = some (0,3) := by kernel_rfl
@[simp] theorem fo251_1 : fieldOff? Tryz.prog 251 1 = some (1,3) := by kernel_rfl
@[simp] theorem fo251_2 : fieldOff? Tryz.prog 251 2 = some (2,4) := by kernel_rfl
@[simp] theorem fo251_3 : fieldOff? Tryz.prog 251 3 = some (3,4) := by kernel_rfl
@[simp] theorem fo251_4 : fieldOff? Tryz.prog 251 4 = some (4,40) := by kernel_rfl
@[simp] theorem fo251_5 : fieldOff? Tryz.prog 251 5 = some (7,40) := by kernel_rfl
@[simp] theorem fs251 : flatStruct Tryz.prog 251 = some [(0,0),(1,0),(2,1),(3,1),(4,0),(5,0),(6,2),(7,0),(8,0),(9,2)] := by kernel_rfl
@[simp] theorem zd251 : zeroD? Tryz.prog 251 = some (.agg [.int .i64 0,.int .i64 0,.bool false,.bool false,.int .u8 0,.int .i64 0,.str ⟨#[]⟩,.int .u8 0,.int .i64 0,.str ⟨#[]⟩]) := by kernel_rfl
attribute [simp] Tryz.underlying256
@[simp] theorem sz256 : sizeOf? Tryz.prog 256 = some 1 := by kernel_rfl
@[simp] theorem ag256 : agg? Tryz.prog 256 = some false := by kernel_rfl
attribute [simp] Tryz.underlying263
@[simp] theorem sz263 : sizeOf? Tryz.prog 263 = some 1 := by kernel_rfl
@[simp] theorem ag263 : agg? Tryz.prog 263 = some false := by kernel_rfl
@[simp] theorem es263 : elemSize Tryz.prog 263 = 1 := by kernel_rfl
attribute [simp] Tryz.underlying268
@[simp] theorem sz268 : sizeOf? Tryz.prog 268 = some 1 := by kernel_rfl
@[simp] theorem ag268 : agg? Tryz.prog 268 = some false := by kernel_rfl
attribute [simp] Tryz.underlying270
@[simp] theorem sz270 : sizeOf? Tryz.prog 270 = some 1 := by kernel_rfl
@[simp] theorem ag270 : agg? Tryz.prog 270 = some false := by kernel_rfl
attribute [simp] Tryz.underlying271
@[simp] theorem sz271 : sizeOf? Tryz.prog 271 = some 1 := by kernel_rfl
@[simp] theorem ag271 : agg? Tryz.prog 271 = some false := by kernel_rfl
attribute [simp] Tryz.underlying275
@[simp] theorem sz275 : sizeOf? Tryz.prog 275 = some 1 := by kernel_rfl
@[simp] theorem ag275 : agg? Tryz.prog 275 = some false := by kernel_rfl
attribute [simp] Tryz.underlying277
@[simp] theorem sz277 : sizeOf? Tryz.prog 277 = some 1 := by kernel_rfl
@[simp] theorem ag277 : agg? Tryz.prog 277 = some false := by kernel_rfl
attribute [simp] Tryz.underlying280
@[simp] theorem sz280 : sizeOf? Tryz.prog 280 = some 1 := by kernel_rfl
@[simp] theorem ag280 : agg? Tryz.prog 280 = some false := by kernel_rfl
attribute [simp] Tryz.underlying285
@[simp] theorem sz285 : sizeOf? Tryz.prog 285 = some 1 := by kernel_rfl
@[simp] theorem ag285 : agg? Tryz.prog 285 = some false := by kernel_rfl
attribute [simp] Tryz.underlying286
@[simp] theorem sz286 : sizeOf? Tryz.prog 286 = some 1 := by kernel_rfl
@[simp] theorem ag286 : agg? Tryz.prog 286 = some false := by kernel_rfl
attribute [simp] Tryz.underlying287
@[simp] theorem sz287 : sizeOf? Tryz.prog 287 = some 1 := by kernel_rfl
@[simp] theorem ag287 : agg? Tryz.prog 287 = some false := by kernel_rfl
@[simp] theorem es287 : elemSize Tryz.prog 287 = 1 := by kernel_rfl
attribute [simp] Tryz.underlying288
@[simp] theorem sz288 : sizeOf? Tryz.prog 288 = some 3 := by kernel_rfl
@[simp] theorem ag288 : agg? Tryz.prog 288 = some true := by kernel_rfl
@[simp] theorem bv288 (parts : List (Nat × V)) : buildV Tryz.prog 288 parts = (fillV (fun i => [(0,1),(1,1),(2,1)][i]?) [.d .nilP,.d .nilM,.nilS] parts).map mkAgg := buildV_struct (by kernel_rfl) (by kernel_rfl)
@[simp] theorem fo288_0 : fieldOff? Tryz.prog 288 0 = some (0,109) := by kernel_rfl
@[simp] theorem fo288_1 : fieldOff? Tryz.prog 288 1 = some (1,286) := by kernel_rfl
@[simp] theorem fo288_2 : fieldOff? Tryz.prog 288 2 = some (2,287) := by kernel_rfl
attribute [simp] Tryz.underlying289
@[simp] theorem sz289 : sizeOf? Tryz.prog 289 = some 3 := by kernel_rfl
@[simp] theorem ag289 : agg? Tryz.prog 289 = some true := by kernel_rfl
@[simp] theorem bv289 (parts : List (Nat × V)) : buildV Tryz.prog 289 parts = (fillV (fun i => [(0,1),(1,1),(2,1)][i]?) [.d .nilP,.d .nilM,.nilS] parts).map mkAgg := buildV_struct (by kernel_rfl) (by kernel_rfl)
@[simp] theorem fo289_0 : fieldOff? Tryz.prog 289 0 = some (0,109) := by kernel_rfl
@[simp] theorem fo289_1 : fieldOff? Tryz.prog 289 1 = some (1,286) := by kernel_rfl
@[simp] theorem fo289_2 : fieldOff? Tryz.prog 289 2 = some (2,287) := by kernel_rfl
attribute [simp] Tryz.underlying290
@[simp] theorem sz290 : sizeOf? Tryz.prog 290 = some 1 := by kernel_rfl
@[simp] theorem ag290 : agg? Tryz.prog 290 = some false := by kernel_rfl
@[simp] theorem es290 : elemSize Tryz.prog 290 = 7 := by kernel_rfl
attribute [simp] Tryz.underlying292
@[simp] theorem sz292 : sizeOf? Tryz.prog 292 = some 7 := by kernel_rfl
@[simp] theorem ag292 : agg? Tryz.prog 292 = some true := by kernel_rfl
@[simp] theorem bv292 (parts : List (Nat × V)) : buildV Tryz.prog 292 parts = (fillV (fun i => [(0,6),(6,1)][i]?) [.d (.str ⟨#[]⟩),.d (.bool false),.d (.int .u64 0),.d (.int .i64 0),.d (.int .u32 0),.nilS,.nilS] parts).map mkAgg := buildV_struct (by kernel_rfl) (by kernel_rfl)
@[simp] theorem fo292_0 : fieldOff? Tryz.prog 292 0 = some (0,249) := by kernel_rfl
@[simp] theorem fo292_1 : fieldOff? Tryz.prog 292 1 = some (6,51) := by kernel_rfl
attribute [simp] Tryz.underlying293
@[simp] theorem sz293 : sizeOf? Tryz.prog 293 = some 7 := by kernel_rfl
@[simp] theorem ag293 : agg? Tryz.prog 293 = some true := by kernel_rfl
@[simp] theorem bv293 (parts : List (Nat × V)) : buildV Tryz.prog 293 parts = (fillV (fun i => [(0,6),(6,1)][i]?) [.d (.str ⟨#[]⟩),.d (.bool false),.d (.int .u64 0),.d (.int .i64 0),.d (.int .u32 0),.nilS,.nilS] parts).map mkAgg := buildV_struct (by kernel_rfl) (by kernel_rfl)
@[simp] theorem fo293_0 : fieldOff? Tryz.prog 293 0 = some (0,249) := by kernel_rfl
@[simp] theorem fo293_1 : fieldOff? Tryz.prog 293 1 = some (6,51) := by kernel_rfl
attribute [simp] Tryz.underlying296
@[simp] theorem sz296 : sizeOf? Tryz.prog 296 = some 1 := by kernel_rfl
@[simp] theorem ag296 : agg? Tryz.prog 296 = some false := by kernel_rfl
attribute [simp] Tryz.underlying299
@[simp] theorem sz299 : sizeOf? Tryz.prog 299 = some 1 := by kernel_rfl
@[simp] theorem ag299 : agg? Tryz.prog 299 = some false := by kernel_rfl
attribute [simp] Tryz.underlying303
@[simp] theorem sz303 : sizeOf? Tryz.prog 303 = some 20 := by kernel_rfl
@[simp] theorem ag303 : agg? Tryz.prog 303 = some true := by kernel_rfl
@[simp] theorem bv303 (parts : List (Nat × V)) : buildV Tryz.prog 303 parts = (fillV (fun i => some (i * 1,1)) [.d (.int .u64 0),.d (.int .u64 0),.d (.int .u64 0),.d (.int .u64 0),.d (.int .u64 0),.d (.int .u64 0),.d (.int .u64 0),.d (.int .u64 0),.d (.int .u64 0),.d (.int .u64 0),.d (.int .u64 0),.d (.int .u64 0),.d (.int .u64 0),.d (.int .u64 0),.d (.int .u64 0),.d (.int .u64 0),.d (.int .u64 0),.d (.int .u64 0),.d (.int .u64 0),.d (.int .u64 0)] parts).map mkAgg := buildV_array (by kernel_rfl) Tryz.underlying303 (by kernel_rfl)
attribute [simp] Tryz.underlying304
@[simp] theorem sz304 : sizeOf? Tryz.prog 304 = some 65 := by kernel_rfl
@[simp] theorem ag304 : agg? Tryz.prog 304 = some true := by kernel_rfl
@[simp] theorem zs304 : zeroVs? Tryz.prog 304 = some [.d (.int .u8 0),.d (.int .u8 0),.d (.int .u8 0),.d (.int .u8 0),.d (.int .u8 0),.d (.int .u8 0),.d (.int .u8 0),.d (.int .u8 0),.d (.int .u8 0),.d (.int .u8 0),.d (.int .u8 0),.d (.int .u8 0),.d (.int .u8 0),.d (.int .u8 0),.d (.int .u8 0),.d (.int .u8 0),.d (.int .u8 0),.d (.int .u8 0),.d (.int .u8 0),.d (.int .u8 0),.d (.int .u8 0),.d (.int .u8 0),.d (.int .u8 0),.d (.int .u8 0),.d (.int .u8 0),.d (.int .u8 0),.d (.int .u8 0),.d (.int .u8 0),.d (.int .u8 0),.d (.int .u8 0),.d (.int .u8 0),.d (.int .u8 0),.d (.int .u8 0),.d (.int .u8 0),.d (.int .u8 0),.d (.int .u8 0),.d (.int .u8 0),.d (.int .u8 0),.d (.int .u8 0),.d (.int .u8 0),.d (.int .u8 0),.d (.int .u8 0),.d (.int .u8 0),.d (.int .u8 0),.d (.int .u8 0),.d (.int .u8 0),.d (.int .u8 0),.d (.int .u8 0),.d (.int .u8 0),.d (.int .u8 0),.d (.int .u8 0),.d (.int .u8 0),.d (.int .u8 0),.d (.int .u8 0),.d (.int .u8 0),.d (.int .u8 0),.d (.int .u8 0),.d (.int .u8 0),.d (.int .u8 0),.d (.int .u8 0),.d (.int .u8 0),.d (.int .u8 0),.d (.int .u8 0),.d (.int .u8 0),.d (.int .u8 0)] := by kernel_rfl
@[simp] theorem al304 (h : List Am.Obj) : allocV Tryz.prog h 304 = some (.ptr h.length 0,h ++ [.box [.d (.int .u8 0),.d (.int .u8 0),.d (.int .u8 0),.d (.int .u8 0),.d (.int .u8 0),.d (.int .u8 0),.d (.int .u8 0),.d (.int .u8 0),.d (.int .u8 0),.d (.int .u8 0),.d (.int .u8 0),.d (.int .u8 0),.d (.int .u8 0),.d (.int .u8 0),.d (.int .u8 0),.d (.int .u8 0),.d (.int .u8 0),.d (.int .u8 0),.d (.int .u8 0),.d (.int .u8 0),.d (.int .u8 0),.d (.int .u8 0),.d (.int .u8 0),.d (.int .u8 0),.d (.int .u8 0),.d (.int .u8 0),.d (.int .u8 0),.d (.int .u8 0),.d (.int .u8 0),.d (.int .u8 0),.d (.int .u8 0),.d (.int .u8 0),.d (.int .u8 0),.d (.int .u8 0),.d (.int .u8 0),.d (.int .u8 0),.d (.int .u8 0),.d (.int .u8 0),.d (.int .u8 0),.d (.int .u8 0),.d (.int .u8 0),.d (.int .u8 0),.d (.int .u8 0),.d (.int .u8 0),.d (.int .u8 0),.d (.int .u8 0),.d (.int .u8 0),.d (.int .u8 0),.d (.int .u8 0),.d (.int .u8 0),.d (.int .u8 0),.d (.int .u8 0),.d (.int .u8 0),.d (.int .u8 0),.d (.int .u8 0),.d (.int .u8 0),.d (.int .u8 0),.d (.int .u8 0),.d (.int .u8 0),.d (.int .u8 0),.d (.int .u8 0),.d (.int .u8 0),.d (.int .u8 0),.d (.int .u8 0),.d (.int .u8 0)]]) := allocV_of zs304
@[simp] theorem bv304 (parts : List (Nat × V)) : buildV Tryz.prog 304 parts = (fillV (fun i => some (i * 1,1)) [.d (.int .u8 0),.d (.int .u8 0),.d (.int .u8 0),.d (.int .u8 0),.d (.int .u8 0),.d (.int .u8 0),.d (.int .u8 0),.d (.int .u8 0),.d (.int .u8 0),.d (.int .u8 0),.d (.int .u8 0),.d (.int .u8 0),.d (.int .u8 0),.d (.int .u8 0),.d (.int .u8 0),.d (.int .u8 0),.d (.int .u8 0),.d (.int .u8 0),.d (.int .u8 0),.d (.int .u8 0),.d (.int .u8 0),.d (.int .u8 0),.d (.int .u8 0),.d (.int .u8 0),.d (.int .u8 0),.d (.int .u8 0),.d (.int .u8 0),.d (.int .u8 0),.d (.int .u8 0),.d (.int .u8 0),.d (.int .u8 0),.d (.int .u8 0),.d (.int .u8 0),.d (.int .u8 0),.d (.int .u8 0),.d (.int .u8 0),.d (.int .u8 0),.d (.int .u8 0),.d (.int .u8 0),.d (.int .u8 0),.d (.int .u8 0),.d (.int .u8 0),.d (.int .u8 0),.d (.int .u8 0),.d (.int .u8 0),.d (.int .u8 0),.d (.int .u8 0),.d (.int .u8 0),.d (.int .u8 0),.d (.int .u8 0),.d (.int .u8 0),.d (.int .u8 0),.d (.int .u8 0),.d (.int .u8 0),.d (.int .u8 0),.d (.int .u8 0),.d (.int .u8 0),.d (.int .u8 0),.d (.int .u8 0),.d (.int .u8 0),.d (.int .u8 0),.d (.int .u8 0),.d (.int .u8 0),.d (.int .u8 0),.d (.int .u8 0)] parts).map mkAgg := buildV_array (by kernel_rfl) Tryz.underlying304 (by kernel_rfl)
attribute [simp] Tryz.underlying306
@[simp] theorem sz306 : sizeOf? Tryz.prog 306 = some 1 := by kernel_rfl
@[simp] theorem ag306 : agg? Tryz.prog 306 = some false := by kernel_rfl
attribute [simp] Tryz.underlying308
@[simp] theorem sz308 : sizeOf? Tryz.prog 308 = some 1 := by kernel_rfl
@[simp] theorem ag308 : agg? Tryz.prog 308 = some false := by kernel_rfl
attribute [simp] Tryz.underlying311
@[simp] theorem sz311 : sizeOf? Tryz.prog 311 = some 1 := by kernel_rfl
@[simp] theorem ag311 : agg? Tryz.prog 311 = some false := by kernel_rfl
attribute [simp] Tryz.underlying312
@[simp] theorem sz312 : sizeOf? Tryz.prog 312 = some 1 := by kernel_rfl
@[simp] theorem ag312 : agg? Tryz.prog 312 = some false := by kernel_rfl
attribute [simp] Tryz.underlying314
@[simp] theorem sz314 : sizeOf? Tryz.prog 314 = some 1 := by kernel_rfl
@[simp] theorem ag314 : agg? Tryz.prog 314 = some false := by kernel_rfl
attribute [simp] Tryz.underlying320
@[simp] theorem sz320 : sizeOf? Tryz.prog 320 = some 1 := by kernel_rfl
@[simp] theorem ag320 : agg? Tryz.prog 320 = some false := by kernel_rfl
attribute [simp] Tryz.underlying322
@[simp] theorem sz322 : sizeOf? Tryz.prog 322 = some 1 := by kernel_rfl
@[simp] theorem ag322 : agg? Tryz.prog 322 = some false := by kernel_rfl
attribute [simp] Tryz.underlying324
@[simp] theorem sz324 : sizeOf? Tryz.prog 324 = some 1 := by kernel_rfl
@[simp] theorem ag324 : agg? Tryz.prog 324 = some false := by kernel_rfl
attribute [simp] Tryz.underlying325
@[simp] theorem sz325 : sizeOf? Tryz.prog 325 = some 2 := by kernel_rfl
@[simp] theorem ag325 : agg? Tryz.prog 325 = some true := by kernel_rfl
@[simp] theorem bv325 (parts : List (Nat × V)) : buildV Tryz.prog 325 parts = (fillV (fun i => [(0,1),(1,1)][i]?) [.nilS,.d (.bool false)] parts).map mkAgg := buildV_struct (by kernel_rfl) (by kernel_rfl)
@[simp] theorem fo325_0 : fieldOff? Tryz.prog 325 0 = some (0,98) := by kernel_rfl
@[simp] theorem fo325_1 : fieldOff? Tryz.prog 325 1 = some (1,4) := by kernel_rfl
attribute [simp] Tryz.underlying326
@[simp] theorem sz326 : sizeOf? Tryz.prog 326 = some 2 := by kernel_rfl
@[simp] theorem ag326 : agg? Tryz.prog 326 = some true := by kernel_rfl
@[simp] theorem bv326 (parts : List (Nat × V)) : buildV Tryz.prog 326 parts = (fillV (fun i => [(0,1),(1,1)][i]?) [.nilS,.d (.bool false)] parts).map mkAgg := buildV_struct (by kernel_rfl) (by kernel_rfl)
@[simp] theorem fo326_0 : fieldOff? Tryz.prog 326 0 = some (0,98) := by kernel_rfl
@[simp] theorem fo326_1 : fieldOff? Tryz.prog 326 1 = some (1,4) := by kernel_rfl
attribute [simp] Tryz.underlying327
@[simp] theorem sz327 : sizeOf? Tryz.prog 327 = some 1 := by kernel_rfl
@[simp] theorem ag327 : agg? Tryz.prog 327 = some false := by kernel_rfl
attribute [simp] Tryz.underlying334
@[simp] theorem sz334 : sizeOf? Tryz.prog 334 = some 1 := by kernel_rfl
@[simp] theorem ag334 : agg? Tryz.prog 334 = some false := by kernel_rfl
attribute [simp] Tryz.underlying337
@[simp] theorem sz337 : sizeOf? Tryz.prog 337 = some 1 := by kernel_rfl
@[simp] theorem ag337 : agg? Tryz.prog 337 = some false := by kernel_rfl
attribute [simp] Tryz.underlying343
@[simp] theorem sz343 : sizeOf? Tryz.prog 343 = some 1 := by kernel_rfl
@[simp] theorem ag343 : agg? Tryz.prog 343 = some false := by kernel_rfl
attribute [simp] Tryz.underlying344
@[simp] theorem sz344 : sizeOf? Tryz.prog 344 = some 1 := by kernel_rfl
@[simp] theorem ag344 : agg? Tryz.prog 344 = some false := by kernel_rfl
attribute [simp] Tryz.underlying353
@[simp] theorem sz353 : sizeOf? Tryz.prog 353 = some 1 := by kernel_rfl
@[simp] theorem ag353 : agg? Tryz.prog 353 = some false := by kernel_rfl
attribute [simp] Tryz.underlying358
@[simp] theorem sz358 : sizeOf? Tryz.prog 358 = some 1 := by kernel_rfl
@[simp] theorem ag358 : agg? Tryz.prog 358 = some false := by kernel_rfl
attribute [simp] Tryz.underlying361
@[simp] theorem sz361 : sizeOf? Tryz.prog 361 = some 1 := by kernel_rfl
@[simp] theorem ag361 : agg? Tryz.prog 361 = some false := by kernel_rfl
attribute [simp] Tryz.underlying362
@[simp] theorem sz362 : sizeOf? Tryz.prog 362 = some 1 := by kernel_rfl
@[simp] theorem ag362 : agg? Tryz.prog 362 = some true := by kernel_rfl
@[simp] theorem bv362 (parts : List (Nat × V)) : buildV Tryz.prog 362 parts = (fillV (fun i => [(0,1)][i]?) [.nilS] parts).map mkAgg := buildV_struct (by kernel_rfl) (by kernel_rfl)
@[simp] theorem fo362_0 : fieldOff? Tryz.prog 362 0 = some (0,98) := by kernel_rfl
attribute [simp] Tryz.underlying363
@[simp] theorem sz363 : sizeOf? Tryz.prog 363 = some 1 := by kernel_rfl
@[simp] theorem ag363 : agg? Tryz.prog 363 = some true := by kernel_rfl
@[simp] theorem bv363 (parts : List (Nat × V)) : buildV Tryz.prog 363 parts = (fillV (fun i => [(0,1)][i]?) [.nilS] parts).map mkAgg := buildV_struct (by kernel_rfl) (by kernel_rfl)
@[simp] theorem fo363_0 : fieldOff? Tryz.prog 363 0 = some (0,98) := by kernel_rfl
attribute [simp] Tryz.underlying365
@[simp] theorem sz365 : sizeOf? Tryz.prog 365 = some 1 := by kernel_rfl
@[simp] theorem ag365 : agg? Tryz.prog 365 = some false := by kernel_rfl
attribute [simp] Tryz.underlying372
@[simp] theorem sz372 : sizeOf? Tryz.prog 372 = some 1 := by kernel_rfl
@[simp] theorem ag372 : agg? Tryz.prog 372 = some false := by kernel_rfl
attribute [simp] Tryz.underlying375
@[simp] theorem sz375 : sizeOf? Tryz.prog 375 = some 1 := by kernel_rfl
@[simp] theorem ag375 : agg? Tryz.prog 375 = some false := by kernel_rfl
attribute [simp] Tryz.underlying377
@[simp] theorem sz377 : sizeOf? Tryz.prog 377 = some 1 := by kernel_rfl
@[simp] theorem ag377 : agg? Tryz.prog 377 = some false := by kernel_rfl
attribute [simp] Tryz.underlying380
@[simp] theorem sz380 : sizeOf? Tryz.prog 380 = some 1 := by kernel_rfl
@[simp] theorem ag380 : agg? Tryz.prog 380 = some false := by kernel_rfl
attribute [simp] Tryz.underlying381
@[simp] theorem sz381 : sizeOf? Tryz.prog 381 = some 3 := by kernel_rfl
@[simp] theorem ag381 : agg? Tryz.prog 381 = some true := by kernel_rfl
@[simp] theorem zs381 : zeroVs? Tryz.prog 381 = some [.d (.bool false),.d (.bool false),.d (.bool false)] := by kernel_rfl
@[simp] theorem al381 (h : List Am.Obj) : allocV Tryz.prog h 381 = some (.ptr h.length 0,h ++ [.box [.d (.bool false),.d (.bool false),.d (.bool false)]]) := allocV_of zs381
@[simp] theorem bv381 (parts : List (Nat × V)) : buildV Tryz.prog 381 parts = (fillV (fun i => some (i * 1,1)) [.d (.bool false),.d (.bool false),.d (.bool false)] parts).map mkAgg := buildV_array (by kernel_rfl) Tryz.underlying381 (by kernel_rfl)
attribute [simp] Tryz.underlying385
@[simp] theorem sz385 : sizeOf? Tryz.prog 385 = some 1 := by kernel_rfl
@[simp] theorem ag385 : agg? Tryz.prog 385 = some false := by kernel_rfl
attribute [simp] Tryz.underlying386
@[simp] theorem sz386 : sizeOf? Tryz.prog 386 = some 1 := by kernel_rfl
@[simp] theorem ag386 : agg? Tryz.prog 386 = some false := by kernel_rfl
attribute [simp] Tryz.underlying388
@[simp] theorem sz388 : sizeOf? Tryz.prog 388 = some 1 := by kernel_rfl
@[simp] theorem ag388 : agg? Tryz.prog 388 = some false := by kernel_rfl
attribute [simp] Tryz.underlying389
@[simp] theorem sz389 : sizeOf? Tryz.prog 389 = some 1 := by kernel_rfl
@[simp] theorem ag389 : agg? Tryz.prog 389 = some false := by kernel_rfl
attribute [simp] Tryz.underlying392
@[simp] theorem sz392 : sizeOf? Tryz.prog 392 = some 1 := by kernel_rfl
@[simp] theorem ag392 : agg? Tryz.prog 392 = some false := by kernel_rfl
attribute [simp] Tryz.underlying393
@[simp] theorem sz393 : sizeOf? Tryz.prog 393 = some 1 := by kernel_rfl
@[simp] theorem ag393 : agg? Tryz.prog 393 = some false := by kernel_rfl
attribute [simp] Tryz.underlying394
@[simp] theorem sz394 : sizeOf? Tryz.prog 394 = some 1 := by kernel_rfl
@[simp] theorem ag394 : agg? Tryz.prog 394 = some false := by kernel_rfl
attribute [simp] Tryz.underlying397
@[simp] theorem sz397 : sizeOf? Tryz.prog 397 = some 1 := by kernel_rfl
@[simp] theorem ag397 : agg? Tryz.prog 397 = some false := by kernel_rfl
attribute [simp] Tryz.underlying402
@[simp] theorem sz402 : sizeOf? Tryz.prog 402 = some 256 := by kernel_rfl
@[simp] theorem ag402 : agg? Tryz.prog 402 = some true := by kernel_rfl
@[simp] theorem bv402 (parts : List (Nat × V)) : buildV Tryz.prog 402 parts = (fillV (fun i => some (i * 1,1)) [.d (.int .u8 0),.d (.int .u8 0),.d (.int .u8 0),.d (.int .u8 0),.d (.int .u8 0),.d (.int .u8 0),.d (.int .u8 0),.d (.int .u8 0),.d (.int .u8 0),.d (.int .u8 0),.d (.int .u8 0),.d (.int .u8 0),.d (.int .u8 0),.d (.int .u8 0),.d (.int .u8 0),.d (.int .u8 0),.d (.int .u8 0),.d (.int .u8 0),.d (.int .u8 0),.d (.int .u8 0),.d (.int .u8 0),.d (.int .u8 0),.d (.int .u8 0),.d (.int .u8 0),.d (.int .u8 0),.d (.int .u8 0),.d (.int .u8 0),.d (.int .u8 0),.d (.int .u8 0),.d (.int .u8 0),.d (.int .u8 0),.d (.int .u8 0),.d (.int .u8 0),.d (.int .u8 0),.d (.int .u8 0),.d (.int .u8 0),.d (.int .u8 0),.d (.int .u8 0),.d (.int .u8 0),.d (.int .u8 0),.d (.int .u8 0),.d (.int .u8 0),.d (.int .u8 0),.d (.int .u8 0),.d (.int .u8 0),.d (.int .u8 0),.d (.int .u8 0),.d (.int .u8 0),.d (.int .u8 0),.d (.int .u8 0),.d (.int .u8 0),.d (.int .u8 0),.d (.int .u8 0),.d (.int .u8 0),.d (.int .u8 0),.d (.int .u8 0),.d (.int .u8 0),.d (.int .u8 0),.d (.int .u8 0),.d (.int .u8 0),.d (.int .u8 0),.d (.int .u8 0),.d (.int .u8 0),.d (.int .u8 0),.d (.int .u8 0),.d (.int .u8 0),.d (.int .u8 0),.d (.int .u8 0),.d (.int .u8 0),.d (.int .u8 0),.d (.int .u8 0),.d (.int .u8 0),.d (.int .u8 0),.d (.int .u8 0),.d (.int .u8 0),.d (.int .u8 0),.d (.int .u8 0),.d (.int .u8 0),.d (.int .u8 0),.d (.int .u8 0),.d (.int .u8 0),.d (.int .u8 0),.d (.int .u8 0),.d (.int .u8 0),.d (.int .u8 0),.d (.int .u8 0),.d (.int .u8 0),.d (.int .u8 0),.d (.int .u8 0),.d (.int .u8 0),.d (.int .u8 0),.d (.int .u8 0),.d (.int .u8 0),.d (.int .u8 0),.d (.int .u8 0),.d (.int .u8 0),.d (.int .u8 0),.d (.int .u8 0),.d (.int .u8 0),.d (.int .u8 0),.d (.int .u8 0),.d (.int .u8 0),.d (.int .u8 0),.d (.int .u8 0),.d (.int .u8 0),.d (.int .u8 0),.d (.int .u8 0),.d (.int .u8 0),.d (.int .u8 0),.d (.int .u8 0),.d (.int .u8 0),.d (.int .u8 0),.d (.int .u8 0),.d (.int .u8 0),.d (.int .u8 0),.d (.int .u8 0),.d (.int .u8 0),.d (.int .u8 0),.d (.int .u8 0),.d (.int .u8 0),.d (.int .u8 0),.d (.int .u8 0),.d (.int .u8 0),.d (.int .u8 0),.d (.int .u8 0),.d (.int .u8 0),.d (.int .u8 0),.d (.int .u8 0),.d (.int .u8 0),.d (.int .u8 0),.d (.int .u8 0),.d (.int .u8 0),.d (.int .u8 0),.d (.int .u8 0),.d (.int .u8 0),.d (.int .u8 0),.d (.int .u8 0),.d (.int .u8 0),.d (.int .u8 0),.d (.int .u8 0),.d (.int .u8 0),.d (.int .u8 0),.d (.int .u8 0),.d (.int .u8 0),.d (.int .u8 0),.d (.int .u8 0),.d (.int .u8 0),.d (.int .u8 0),.d (.int .u8 0),.d (.int .u8 0),.d (.int .u8 0),.d (.int .u8 0),.d (.int .u8 0),.d (.int .u8 0),.d (.int .u8 0),.d (.int .u8 0),.d (.int .u8 0),.d (.int .u8 0),.d (.int .u8 0),.d (.int .u8 0),.d (.int .u8 0),.d (.int .u8 0),.d (.int .u8 0),.d (.int .u8 0),.d (.int .u8 0),.d (.int .u8 0),.d (.int .u8 0),.d (.int .u8 0),.d (.int .u8 0),.d (.int .u8 0),.d (.int .u8 0),.d (.int .u8 0),.d (.int .u8 0),.d (.int .u8 0),.d (.int .u8 0),.d (.int .u8 0),.d (.int .u8 0),.d (.int .u8 0),.d (.int .u8 0),.d (.int .u8 0),.d (.int .u8 0),.d (.int .u8 0),.d (.int .u8 0),.d (.int .u8 0),.d (.int .u8 0),.d (.int .u8 0),.d (.int .u8 0),.d (.int .u8 0),.d (.int .u8 0),.d (.int .u8 0),.d (.int .u8 0),.d (.int .u8 0),.d (.int .u8 0),.d (.int .u8 0),.d (.int .u8 0),.d (.int .u8 0),.d (.int .u8 0),.d (.int .u8 0),.d (.int .u8 0),.d (.int .u8 0),.d (.int .u8 0),.d (.int .u8 0),.d (.int .u8 0),.d (.int .u8 0),.d (.int .u8 0),.d (.int .u8 0),.d (.int .u8 0),.d (.int .u8 0),.d (.int .u8 0),.d (.int .u8 0),.d (.int .u8 0),.d (.int .u8 0),.d (.int .u8 0),.d (.int .u8 0),.d (.int .u8 0),.d (.int .u8 0),.d (.int .u8 0),.d (.int .u8 0),.d (.int .u8 0),.d (.int .u8 0),.d (.int .u8 0),.d (.int .u8 0),.d (.int .u8 0),.d (.int .u8 0),.d (.int .u8 0),.d (.int .u8 0),.d (.int .u8 0),.d (.int .u8 0),.d (.int .u8 0),.d (.int .u8 0),.d (.int .u8 0),.d (.int .u8 0),.d (.int .u8 0),.d (.int .u8 0),.d (.int .u8 0),.d (.int .u8 0),.d (.int .u8 0),.d (.int .u8 0),.d (.int .u8 0),.d (.int .u8 0),.d (.int .u8 0),.d (.int .u8 0),.d (.int .u8 0),.d (.int .u8 0),.d (.int .u8 0),.d (.int .u8 0),.d (.int .u8 0),.d (.int .u8 0),.d (.int .u8 0),.d (.int .u8 0),.d (.int .u8 0),.d (.int .u8 0),.d (.int .u8 0),.d (.int .u8 0),.d (.int .u8 0),.d (.int .u8 0)] parts).map mkAgg := buildV_array (by kernel_rfl) Tryz.underlying402 (by kernel_rfl)
attribute [simp] Tryz.underlying403
@[simp] theorem sz403 : sizeOf? Tryz.prog 403 = some 2 := by kernel_rfl
@[simp] theorem ag403 : agg? Tryz.prog 403 = some true := by kernel_rfl
@[simp] theorem bv403 (parts : List (Nat × V)) : buildV Tryz.prog 403 parts = (fillV (fun i => [(0,1),(1,1)][i]?) [.d (.int .u8 0),.d (.int .u8 0)] parts).map mkAgg := buildV_struct (by kernel_rfl) (by kernel_rfl)
@[simp] theorem fo403_0 : fieldOff? Tryz.prog 403 0 = some (0,5) := by kernel_rfl
@[simp] theorem fo403_1 : fieldOff? Tryz.prog 403 1 = some (1,5) := by kernel_rfl
@[simp] theorem fs403 : flatStruct Tryz.prog 403 = some [(0,0),(1,0)] := by kernel_rfl
attribute [simp] Tryz.underlying404
@[simp] theorem sz404 : sizeOf? Tryz.prog 404 = some 2 := by kernel_rfl
@[simp] theorem ag404 : agg? Tryz.prog 404 = some true := by kernel_rfl
@[simp] theorem zs404 : zeroVs? Tryz.prog 404 = some [.d (.int .u8 0),.d (.int .u8 0)] := by kernel_rfl
@[simp] theorem al404 (h : List Am.Obj) : allocV Tryz.prog h 404 = some (.ptr h.length 0,h ++ [.box [.d (.int .u8 0),.d (.int .u8 0)]]) := allocV_of zs404
@[simp] theorem bv404 (parts : List (Nat × V)) : buildV Tryz.prog 404 parts = (fillV (fun i => [(0,1),(1,1)][i]?) [.d (.int .u8 0),.d (.int .u8 0)] parts).map mkAgg := buildV_struct (by kernel_rfl) (by kernel_rfl)
@[simp] theorem fo404_0 : fieldOff? Tryz.prog 404 0 = some (0,5) := by kernel_rfl
@[simp] theorem fo404_1 : fieldOff? Tryz.prog 404 1 = some (1,5) := by kernel_rfl
@[simp] theorem fs404 : flatStruct Tryz.prog 404 = some [(0,0),(1,0)] := by kernel_rfl
attribute [simp] Tryz.underlying405
@[simp] theorem sz405 : sizeOf? Tryz.prog 405 = some 32 := by kernel_rfl
@[simp] theorem ag405 : agg? Tryz.prog 405 = some true := by kernel_rfl
@[simp] theorem bv405 (parts : List (Nat × V)) : buildV Tryz.prog 405 parts = (fillV (fun i => some (i * 2,2)) [.d (.int .u8 0),.d (.int .u8 0),.d (.int .u8 0),.d (.int .u8 0),.d (.int .u8 0),.d (.int .u8 0),.d (.int .u8 0),.d (.int .u8 0),.d (.int .u8 0),.d (.int .u8 0),.d (.int .u8 0),.d (.int .u8 0),.d (.int .u8 0),.d (.int .u8 0),.d (.int .u8 0),.d (.int .u8 0),.d (.int .u8 0),.d (.int .u8 0),.d (.int .u8 0),.d (.int .u8 0),.d (.int .u8 0),.d (.int .u8 0),.d (.int .u8 0),.d (.int .u8 0),.d (.int .u8 0),.d (.int .u8 0),.d (.int .u8 0),.d (.int .u8 0),.d (.int .u8 0),.d (.int .u8 0),.d (.int .u8 0),.d (.int .u8 0)] parts).map mkAgg := buildV_array (by kernel_rfl) Tryz.underlying405 (by kernel_rfl)
attribute [simp] Tryz.underlying406
@[simp] theorem sz406 : sizeOf? Tryz.prog 406 = some 1 := by kernel_rfl
@[simp] theorem ag406 : agg? Tryz.prog 406 = some false := by kernel_rfl
attribute [simp] Tryz.underlying408
@[simp] theorem sz408 : sizeOf? Tryz.prog 408 = some 1 := by kernel_rfl
@[simp] theorem ag408 : agg? Tryz.prog 408 = some false := by kernel_rfl
attribute [simp] Tryz.underlying410
@[simp] theorem sz410 : sizeOf? Tryz.prog 410 = some 3 := by kernel_rfl
@[simp] theorem ag410 : agg? Tryz.prog 410 = some true := by kernel_rfl
@[simp] theorem bv410 (parts : List (Nat × V)) : buildV Tryz.prog 410 parts = (fillV (fun i => [(0,1),(1,1),(2,1)][i]?) [.d (.str ⟨#[]⟩),.d (.str ⟨#[]⟩),.d .nilI] parts).map mkAgg := buildV_struct (by kernel_rfl) (by kernel_rfl)
@[simp] theorem fo410_0 : fieldOff? Tryz.prog 410 0 = some (0,9) := by kernel_rfl
@[simp] theorem fo410_1 : fieldOff? Tryz.prog 410 1 = some (1,9) := by kernel_rfl
@[simp] theorem fo410_2 : fieldOff? Tryz.prog 410 2 = some (2,149) := by kernel_rfl
attribute [simp] Tryz.underlying411
@[simp] theorem sz411 : sizeOf? Tryz.prog 411 = some 3 := by kernel_rfl
@[simp] theorem ag411 : agg? Tryz.prog 411 = some true := by kernel_rfl
@[simp] theorem zs411 : zeroVs? Tryz.prog 411 = some [.d (.str ⟨#[]⟩),.d (.str ⟨#[]⟩),.d .nilI] := by kernel_rfl
@[simp] theorem bv411 (parts : List (Nat × V)) : buildV Tryz.prog 411 parts = (fillV (fun i => [(0,1),(1,1),(2,1)][i]?) [.d (.str ⟨#[]⟩),.d (.str ⟨#[]⟩),.d .nilI] parts).map mkAgg := buildV_struct (by kernel_rfl) (by kernel_rfl)
@[simp] theorem fo411_0 : fieldOff? Tryz.prog 411 0 = some (0,9) := by kernel_rfl
@[simp] theorem fo411_1 : fieldOff? Tryz.prog 411 1 = some (1,9) := by kernel_rfl
@[simp] theorem fo411_2 : fieldOff? Tryz.prog 411 2 = some (2,149) := by kernel_rfl
attribute [simp] Tryz.underlying416
@[simp] theorem sz416 : sizeOf? Tryz.prog 416 = some 1 := by kernel_rfl
@[simp] theorem ag416 : agg? Tryz.prog 416 = some false := by kernel_rfl
attribute [simp] Tryz.underlying418
@[simp] theorem sz418 : sizeOf? Tryz.prog 418 = some 1 := by kernel_rfl
@[simp] theorem ag418 : agg? Tryz.prog 418 = some false := by kernel_rfl
attribute [simp] Tryz.underlying419
@[simp] theorem sz419 : sizeOf? Tryz.prog 419 = some 2 := by kernel_rfl
@[simp] theorem ag419 : agg? Tryz.prog 419 = some true := by kernel_rfl
@[simp] theorem bv419 (parts : List (Nat × V)) : buildV Tryz.prog 419 parts = (fillV (fun i => [(0,1),(1,1)][i]?) [.nilS,.d (.int .i64 0)] parts).map mkAgg := buildV_struct (by kernel_rfl) (by kernel_rfl)
@[simp] theorem fo419_0 : fieldOff? Tryz.prog 419 0 = some (0,98) := by kernel_rfl
@[simp] theorem fo419_1 : fieldOff? Tryz.prog 419 1 = some (1,44) := by kernel_rfl
attribute [simp] Tryz.underlying420
@[simp] theorem sz420 : sizeOf? Tryz.prog 420 = some 2 := by kernel_rfl
@[simp] theorem ag420 : agg? Tryz.prog 420 = some true := by kernel_rfl
@[simp] theorem zs420 : zeroVs? Tryz.prog 420 = some [.nilS,.d (.int .i64 0)] := by kernel_rfl
@[simp] theorem bv420 (parts : List (Nat × V)) : buildV Tryz.prog 420 parts = (fillV (fun i => [(0,1),(1,1)][i]?) [.nilS,.d (.int .i64 0)] parts).map mkAgg := buildV_struct (by kernel_rfl) (by kernel_rfl)
@[simp] theorem fo420_0 : fieldOff? Tryz.prog 420 0 = some (0,98) := by kernel_rfl
@[simp] theorem fo420_1 : fieldOff? Tryz.prog 420 1 = some (1,44) := by kernel_rfl
attribute [simp] Tryz.underlying424
@[simp] theorem sz424 : sizeOf? Tryz.prog 424 = some 1 := by kernel_rfl
@[simp] theorem ag424 : agg? Tryz.prog 424 = some false := by kernel_rfl
attribute [simp] Tryz.underlying425
@[simp] theorem sz425 : sizeOf? Tryz.prog 425 = some 1 := by kernel_rfl
@[simp] theorem ag425 : agg? Tryz.prog 425 = some false := by kernel_rfl
attribute [simp] Tryz.underlying432
@[simp] theorem sz432 : sizeOf? Tryz.prog 432 = some 1 := by kernel_rfl
@[simp] theorem ag432 : agg? Tryz.prog 432 = some false := by kernel_rfl
@[simp] theorem es432 : elemSize Tryz.prog 432 = 1 := by kernel_rfl
attribute [simp] Tryz.underlying433
@[simp] theorem sz433 : sizeOf? Tryz.prog 433 = some 1 := by kernel_rfl
@[simp] theorem ag433 : agg? Tryz.prog 433 = some false := by kernel_rfl
@[simp] theorem es433 : elemSize Tryz.prog 433 = 1 := by kernel_rfl
attribute [simp] Tryz.underlying441
@[simp] theorem sz441 : sizeOf? Tryz.prog 441 = some 1 := by kernel_rfl
@[simp] theorem ag441 : agg? Tryz.prog 441 = some false := by kernel_rfl
@[simp] theorem es441 : elemSize Tryz.prog 441 = 1 := by kernel_rfl
attribute [simp] Tryz.underlying442
@[simp] theorem sz442 : sizeOf? Tryz.prog 442 = some 1 := by kernel_rfl
@[simp] theorem ag442 : agg? Tryz.prog 442 = some false := by kernel_rfl
attribute [simp] Tryz.underlying444
@[simp] theorem sz444 : sizeOf? Tryz.prog 444 = some 1 := by kernel_rfl
@[simp] theorem ag444 : agg? Tryz.prog 444 = some false := by kernel_rfl
@[simp] theorem es444 : elemSize Tryz.prog 444 = 1 := by kernel_rfl
attribute [simp] Tryz.underlying456
@[simp] theorem sz456 : sizeOf? Tryz.prog 456 = some 1 := by kernel_rfl
@[simp] theorem ag456 : agg? Tryz.prog 456 = some false := by kernel_rfl
attribute [simp] Tryz.underlying458
@[simp] theorem sz458 : sizeOf? Tryz.prog 458 = some 1 := by kernel_rfl
@[simp] theorem ag458 : agg? Tryz.prog 458 = some false := by kernel_rfl
@[simp] theorem es458 : elemSize Tryz.prog 458 = 1 := by kernel_rfl
attribute [simp] Tryz.underlying459
@[simp] theorem sz459 : sizeOf? Tryz.prog 459 = some 5 := by kernel_rfl
@[simp] theorem ag459 : agg? Tryz.prog 459 = some true := by kernel_rfl
@[simp] theorem bv459 (parts : List (Nat × V)) : buildV Tryz.prog 459 parts = (fillV (fun i => [(0,2),(2,1),(3,1),(4,1)][i]?) [.d (.int .u32 0),.nilS,.nilS,.d (.int .i64 0),.nilS] parts).map mkAgg := buildV_struct (by kernel_rfl) (by kernel_rfl)
@[simp] theorem fo459_0 : fieldOff? Tryz.prog 459 0 = some (0,80) := by kernel_rfl
@[simp] theorem fo459_1 : fieldOff? Tryz.prog 459 1 = some (2,131) := by kernel_rfl
@[simp] theorem fo459_2 : fieldOff? Tryz.prog 459 2 = some (3,3) := by kernel_rfl
@[simp] theorem fo459_3 : fieldOff? Tryz.prog 459 3 = some (4,458) := by kernel_rfl
attribute [simp] Tryz.underlying460
@[simp] theorem sz460 : sizeOf? Tryz.prog 460 = some 5 := by kernel_rfl
@[simp] theorem ag460 : agg? Tryz.prog 460 = some true := by kernel_rfl
@[simp] theorem bv460 (parts : List (Nat × V)) : buildV Tryz.prog 460 parts = (fillV (fun i => [(0,2),(2,1),(3,1),(4,1)][i]?) [.d (.int .u32 0),.nilS,.nilS,.d (.int .i64 0),.nilS] parts).map mkAgg := buildV_struct (by kernel_rfl) (by kernel_rfl)
@[simp] theorem fo460_0 : fieldOff? Tryz.prog 460 0 = some (0,80) := by kernel_rfl
@[simp] theorem fo460_1 : fieldOff? Tryz.prog 460 1 = some (2,131) := by kernel_rfl
@[simp] theorem fo460_2 : fieldOff? Tryz.prog 460 2 = some (3,3) := by kernel_rfl
@[simp] theorem fo460_3 : fieldOff? Tryz.prog 460 3 = some (4,458) := by kernel_rfl
attribute [simp] Tryz.underlying463
@[simp] theorem sz463 : sizeOf? Tryz.prog 463 = some 2 := by kernel_rfl
@[simp] theorem ag463 : agg? Tryz.prog 463 = some true := by kernel_rfl
@[simp] theorem bv463 (parts : List (Nat × V)) : buildV Tryz.prog 463 parts = (fillV (fun i => [(0,1),(1,1)][i]?) [.d (.int .u8 0),.nilS] parts).map mkAgg := buildV_struct (by kernel_rfl) (by kernel_rfl)
@[simp] theorem fo463_0 : fieldOff? Tryz.prog 463 0 = some (0,38) := by kernel_rfl
@[simp] theorem fo463_1 : fieldOff? Tryz.prog 463 1 = some (1,35) := by kernel_rfl
attribute [simp] Tryz.underlying464
@[simp] theorem sz464 : sizeOf? Tryz.prog 464 = some 2 := by kernel_rfl
@[simp] theorem ag464 : agg? Tryz.prog 464 = some true := by kernel_rfl
@[simp] theorem bv464 (parts : List (Nat × V)) : buildV Tryz.prog 464 parts = (fillV (fun i => [(0,1),(1,1)][i]?) [.d (.int .u8 0),.nilS] parts).map mkAgg := buildV_struct (by kernel_rfl) (by kernel_rfl)
@[simp] theorem fo464_0 : fieldOff? Tryz.prog 464 0 = some (0,38) := by kernel_rfl
@[simp] theorem fo464_1 : fieldOff? Tryz.prog 464 1 = some (1,35) := by kernel_rfl
attribute [simp] Tryz.underlying470
@[simp] theorem sz470 : sizeOf? Tryz.prog 470 = some 32 := by kernel_rfl
@[simp] theorem ag470 : agg? Tryz.prog 470 = some true := by kernel_rfl
@[simp] theorem bv470 (parts : List (Nat × V)) : buildV Tryz.prog 470 parts = (fillV (fun i => some (i * 1,1)) [.d (.int .u8 0),.d (.int .u8 0),.d (.int .u8 0),.d (.int .u8 0),.d (.int .u8 0),.d (.int .u8 0),.d (.int .u8 0),.d (.int .u8 0),.d (.int .u8 0),.d (.int .u8 0),.d (.int .u8 0),.d (.int .u8 0),.d (.int .u8 0),.d (.int .u8 0),.d (.int .u8 0),.d (.int .u8 0),.d (.int .u8 0),.d (.int .u8 0),.d (.int .u8 0),.d (.int .u8 0),.d (.int .u8 0),.d (.int .u8 0),.d (.int .u8 0),.d (.int .u8 0),.d (.int .u8 0),.d (.int .u8 0),.d (.int .u8 0),.d (.int .u8 0),.d (.int .u8 0),.d (.int .u8 0),.d (.int .u8 0),.d (.int .u8 0)] parts).map mkAgg := buildV_array (by kernel_rfl) Tryz.underlying470 (by kernel_rfl)
attribute [simp] Tryz.underlying471
@[simp] theorem sz471 : sizeOf? Tryz.prog 471 = some 64 := by kernel_rfl
@[simp] theorem ag471 : agg? Tryz.prog 471 = some true := by kernel_rfl
@[simp] theorem bv471 (parts : List (Nat × V)) : buildV Tryz.prog 471 parts = (fillV (fun i => some (i * 1,1)) [.d (.int .u8 0),.d (.int .u8 0),.d (.int .u8 0),.d (.int .u8 0),.d (.int .u8 0),.d (.int .u8 0),.d (.int .u8 0),.d (.int .u8 0),.d (.int .u8 0),.d (.int .u8 0),.d (.int .u8 0),.d (.int .u8 0),.d (.int .u8 0),.d (.int .u8 0),.d (.int .u8 0),.d (.int .u8 0),.d (.int .u8 0),.d (.int .u8 0),.d (.int .u8 0),.d (.int .u8 0),.d (.int .u8 0),.d (.int .u8 0),.d (.int .u8 0),.d (.int .u8 0),.d (.int .u8 0),.d (.int .u8 0),.d (.int .u8 0),.d (.int .u8 0),.d (.int .u8 0),.d (.int .u8 0),.d (.int .u8 0),.d (.int .u8 0),.d (.int .u8 0),.d (.int .u8 0),.d (.int .u8 0),.d (.int .u8 0),.d (.int .u8 0),.d (.int .u8 0),.d (.int .u8 0),.d (.int .u8 0),.d (.int .u8 0),.d (.int .u8 0),.d (.int .u8 0),.d (.int .u8 0),.d (.int .u8 0),.d (.int .u8 0),.d (.int .u8 0),.d (.int .u8 0),.d (.int .u8 0),.d (.int .u8 0),.d (.int .u8 0),.d (.int .u8 0),.d (.int .u8 0),.d (.int .u8 0),.d (.int .u8 0),.d (.int .u8 0),.d (.int .u8 0),.d (.int .u8 0),.d (.int .u8 0),.d (.int .u8 0),.d (.int .u8 0),.d (.int .u8 0),.d (.int .u8 0),.d (.int .u8 0)] parts).map mkAgg := buildV_array (by kernel_rfl) Tryz.underlying471 (by kernel_rfl)
attribute [simp] Tryz.underlying473
@[simp] theorem sz473 : sizeOf? Tryz.prog 473 = some 1 := by kernel_rfl
@[simp] theorem ag473 : agg? Tryz.prog 473 = some false := by kernel_rfl
attribute [simp] Tryz.underlying474
@[simp] theorem sz474 : sizeOf? Tryz.prog 474 = some 1 := by kernel_rfl
@[simp] theorem ag474 : agg? Tryz.prog 474 = some true := by kernel_rfl
@[simp] theorem bv474 (parts : List (Nat × V)) : buildV Tryz.prog 474 parts = (fillV (fun i => [(0,1)][i]?) [.d (.str ⟨#[]⟩)] parts).map mkAgg := buildV_struct (by kernel_rfl) (by kernel_rfl)
@[simp] theorem fo474_0 : fieldOff? Tryz.prog 474 0 = some (0,9) := by kernel_rfl
@[simp] theorem fs474 : flatStruct Tryz.prog 474 = some [(0,2)] := by kernel_rfl
attribute [simp] Tryz.underlying475
@[simp] theorem sz475 : sizeOf? Tryz.prog 475 = some 1 := by kernel_rfl
@[simp] theorem ag475 : agg? Tryz.prog 475 = some true := by kernel_rfl
@[simp] theorem zs475 : zeroVs? Tryz.prog 475 = some [.d (.str ⟨#[]⟩)] := by kernel_rfl
@[simp] theorem bv475 (parts : List (Nat × V)) : buildV Tryz.prog 475 parts = (fillV (fun i => [(0,1)][i]?) [.d (.str ⟨#[]⟩)] parts).map mkAgg := buildV_struct (by kernel_rfl) (by kernel_rfl)
@[simp] theorem fo475_0 : fieldOff? Tryz.prog 475 0 = some (0,9) := by kernel_rfl
@[simp] theorem fs475 : flatStruct Tryz.prog 475 = some [(0,2)] := by kernel_rfl
attribute [simp] Tryz.underlying481
@[simp] theorem sz481 : sizeOf? Tryz.prog 481 = some 1 := by kernel_rfl
@[simp] theorem ag481 : agg? Tryz.prog 481 = some false := by kernel_rfl
@[simp] theorem zs481 : zeroVs? Tryz.prog 481 = some [.d (.int .u64 0)] := by kernel_rfl
@[simp] theorem al481 (h : List Am.Obj) : allocV Tryz.prog h 481 = some (.ptr h.length 0,h ++ [.box [.d (.int .u64 0)]]) := allocV_of zs481
attribute [simp] Tryz.underlying488
@[simp] theorem sz488 : sizeOf? Tryz.prog 488 = some 1 := by kernel_rfl
@[simp] theorem ag488 : agg? Tryz.prog 488 = some false := by kernel_rfl
attribute [simp] Tryz.underlying489
@[simp] theorem sz489 : sizeOf? Tryz.prog 489 = some 1 := by kernel_rfl
@[simp] theorem ag489 : agg? Tryz.prog 489 = some false := by kernel_rfl
attribute [simp] Tryz.underlying493
@[simp] theorem sz493 : sizeOf? Tryz.prog 493 = some 256 := by kernel_rfl
@[simp] theorem ag493 : agg? Tryz.prog 493 = some true := by kernel_rfl
@[simp] theorem bv493 (parts : List (Nat × V)) : buildV Tryz.prog 493 parts = (fillV (fun i => some (i * 1,1)) [.d (.bool false),.d (.bool false),.d (.bool false),.d (.bool false),.d (.bool false),.d (.bool false),.d (.bool false),.d (.bool false),.d (.bool false),.d (.bool false),.d (.bool false),.d (.bool false),.d (.bool false),.d (.bool false),.d (.bool false),.d (.bool false),.d (.bool false),.d (.bool false),.d (.bool false),.d (.bool false),.d (.bool false),.d (.bool false),.d (.bool false),.d (.bool false),.d (.bool false),.d (.bool false),.d (.bool false),.d (.bool false),.d (.bool false),.d (.bool false),.d (.bool false),.d (.bool false),.d (.bool false),.d (.bool false),.d (.bool false),.d (.bool false),.d (.bool false),.d (.bool false),.d (.bool false),.d (.bool false),.d (.bool false),.d (.bool false),.d (.bool false),.d (.bool false),.d (.bool false),.d (.bool false),.d (.bool false),.d (.bool false),.d (.bool false),.d (.bool false),.d (.bool false),.d (.bool false),.d (.bool false),.d (.bool false),.d (.bool false),.d (.bool false),.d (.bool false),.d (.bool false),.d (.bool false),.d (.bool false),.d (.bool false),.d (.bool false),.d (.bool false),.d (.bool false),.d (.bool false),.d (.bool false),.d (.bool false),.d (.bool false),.d (.bool false),.d (.bool false),.d (.bool false),.d (.bool false),.d (.bool false),.d (.bool false),.d (.bool false),.d (.bool false),.d (.bool false),.d (.bool false),.d (.bool false),.d (.bool false),.d (.bool false),.d (.bool false),.d (.bool false),.d (.bool false),.d (.bool false),.d (.bool false),.d (.bool false),.d (.bool false),.d (.bool false),.d (.bool false),.d (.bool false),.d (.bool false),.d (.bool false),.d (.bool false),.d (.bool false),.d (.bool false),.d (.bool false),.d (.bool false),.d (.bool false),.d (.bool false),.d (.bool false),.d (.bool false),.d (.bool false),.d (.bool false),.d (.bool false),.d (.bool false),.d (.bool false),.d (.bool false),.d (.bool false),.d (.bool false),.d (.bool false),.d (.bool false),.d (.bool false),.d (.bool false),.d (.bool false),.d (.bool false),.d (.bool false),.d (.bool false),.d (.bool false),.d (.bool false),.d (.bool false),.d (.bool false),.d (.bool false),.d (.bool false),.d (.bool false),.d (.bool false),.d (.bool false),.d (.bool false),.d (.bool false),.d (.bool false),.d (.bool false),.d (.bool false),.d (.bool false),.d (.bool false),.d (.bool false),.d (.bool false),.d (.bool false),.d (.bool false),.d (.bool false),.d (.bool false),.d (.bool false),.d (.bool false),.d (.bool false),.d (.bool false),.d (.bool false),.d (.bool false),.d (.bool false),.d (.bool false),.d (.bool false),.d (.bool false),.d (.bool false),.d (.bool false),.d (.bool false),.d (.bool false),.d (.bool false),.d (.bool false),.d (.bool false),.d (.bool false),.d (.bool false),.d (.bool false),.d (.bool false),.d (.bool false),.d (.bool false),.d (.bool false),.d (.bool false),.d (.bool false),.d (.bool false),.d (.bool false),.d (.bool false),.d (.bool false),.d (.bool false),.d (.bool false),.d (.bool false),.d (.bool false),.d (.bool false),.d (.bool false),.d (.bool false),.d (.bool false),.d (.bool false),.d (.bool false),.d (.bool false),.d (.bool false),.d (.bool false),.d (.bool false),.d (.bool false),.d (.bool false),.d (.bool false),.d (.bool false),.d (.bool false),.d (.bool false),.d (.bool false),.d (.bool false),.d (.bool false),.d (.bool false),.d (.bool false),.d (.bool false),.d (.bool false),.d (.bool false),.d (.bool false),.d (.bool false),.d (.bool false),.d (.bool false),.d (.bool false),.d (.bool false),.d (.bool false),.d (.bool false),.d (.bool false),.d (.bool false),.d (.bool false),.d (.bool false),.d (.bool false),.d (.bool false),.d (.bool false),.d (.bool false),.d (.bool false),.d (.bool false),.d (.bool false),.d (.bool false),.d (.bool false),.d (.bool false),.d (.bool false),.d (.bool false),.d (.bool false),.d (.bool false),.d (.bool false),.d (.bool false),.d (.bool false),.d (.bool false),.d (.bool false),.d (.bool false),.d (.bool false),.d (.bool false),.d (.bool false),.d (.bool false),.d (.bool false),.d (.bool false),.d (.bool false),.d (.bool false),.d (.bool false),.d (.bool false),.d (.bool false),.d (.bool false),.d (.bool false),.d (.bool false),.d (.bool false),.d (.bool false),.d (.bool false),.d (.bool false),.d (.bool false),.d (.bool false),.d (.bool false),.d (.bool false),.d (.bool false),.d (.bool false),.d (.bool false),.d (.bool false)] parts).map mkAgg := buildV_array (by kernel_rfl) Tryz.underlying493 (by kernel_rfl)
attribute [simp] Tryz.underlying494
@[simp] theorem sz494 : sizeOf? Tryz.prog 494 = some 256 := by kernel_rfl
@[simp] theorem ag494 : agg? Tryz.prog 494 = some true := by kernel_rfl
@[simp] theorem bv494 (parts : List (Nat × V)) : buildV Tryz.prog 494 parts = (fillV (fun i => some (i * 1,1)) [.d (.bool false),.d (.bool false),.d (.bool false),.d (.bool false),.d (.bool false),.d (.bool false),.d (.bool false),.d (.bool false),.d (.bool false),.d (.bool false),.d (.bool false),.d (.bool false),.d (.bool false),.d (.bool false),.d (.bool false),.d (.bool false),.d (.bool false),.d (.bool false),.d (.bool false),.d (.bool false),.d (.bool false),.d (.bool false),.d (.bool false),.d (.bool false),.d (.bool false),.d (.bool false),.d (.bool false),.d (.bool false),.d (.bool false),.d (.bool false),.d (.bool false),.d (.bool false),.d (.bool false),.d (.bool false),.d (.bool false),.d (.bool false),.d (.bool false),.d (.bool false),.d (.bool false),.d (.bool false),.d (.bool false),.d (.bool false),.d (.bool false),.d (.bool false),.d (.bool false),.d (.bool false),.d (.bool false),.d (.bool false),.d (.bool false),.d (.bool false),.d (.bool false),.d (.bool false),.d (.bool false),.d (.bool false),.d (.bool false),.d (.bool false),.d (.bool false),.d (.bool false),.d (.bool false),.d (.bool false),.d (.bool false),.d (.bool false),.d (.bool false),.d (.bool false),.d (.bool false),.d (.bool false),.d (.bool false),.d (.bool false),.d (.bool false),.d (.bool false),.d (.bool false),.d (.bool false),.d (.bool false),.d (.bool false),.d (.bool false),.d (.bool false),.d (.bool false),.d (.bool false),.d (.bool false),.d (.bool false),.d (.bool false),.d (.bool false),.d (.bool false),.d (.bool false),.d (.bool false),.d (.bool false),.d (.bool false),.d (.bool false),.d (.bool false),.d (.bool false),.d (.bool false),.d (.bool false),.d (.bool false),.d (.bool false),.d (.bool false),.d (.bool false),.d (.bool false),.d (.bool false),.d (.bool false),.d (.bool false),.d (.bool false),.d (.bool false),.d (.bool false),.d (.bool false),.d (.bool false),.d (.bool false),.d (.bool false),.d (.bool false),.d (.bool false),.d (.bool false),.d (.bool false),.d (.bool false),.d (.bool false),.d (.bool false),.d (.bool false),.d (.bool false),.d (.bool false),.d (.bool false),.d (.bool false),.d (.bool false),.d (.bool false),.d (.bool false),.d (.bool false),.d (.bool false),.d (.bool false),.d (.bool false),.d (.bool false),.d (.bool false),.d (.bool false),.d (.bool false),.d (.bool false),.d (.bool false),.d (.bool false),.d (.bool false),.d (.bool false),.d (.bool false),.d (.bool false),.d (.bool false),.d (.bool false),.d (.bool false),.d (.bool false),.d (.bool false),.d (.bool false),.d (.bool false),.d (.bool false),.d (.bool false),.d (.bool false),.d (.bool false),.d (.bool false),.d (.bool false),.d (.bool false),.d (.bool false),.d (.bool false),.d (.bool false),.d (.bool false),.d (.bool false),.d (.bool false),.d (.bool false),.d (.bool false),.d (.bool false),.d (.bool false),.d (.bool false),.d (.bool false),.d (.bool false),.d (.bool false),.d (.bool false),.d (.bool false),.d (.bool false),.d (.bool false),.d (.bool false),.d (.bool false),.d (.bool false),.d (.bool false),.d (.bool false),.d (.bool false),.d (.bool false),.d (.bool false),.d (.bool false),.d (.bool false),.d (.bool false),.d (.bool false),.d (.bool false),.d (.bool false),.d (.bool false),.d (.bool false),.d (.bool false),.d (.bool false),.d (.bool false),.d (.bool false),.d (.bool false),.d (.bool false),.d (.bool false),.d (.bool false),.d (.bool false),.d (.bool false),.d (.bool false),.d (.bool false),.d (.bool false),.d (.bool false),.d (.bool false),.d (.bool false),.d (.bool false),.d (.bool false),.d (.bool false),.d (.bool false),.d (.bool false),.d (.bool false),.d (.bool false),.d (.bool false),.d (.bool false),.d (.bool false),.d (.bool false),.d (.bool false),.d (.bool false),.d (.bool false),.d (.bool false),.d (.bool false),.d (.bool false),.d (.bool false),.d (.bool false),.d (.bool false),.d (.bool false),.d (.bool false),.d (.bool false),.d (.bool false),.d (.bool false),.d (.bool false),.d (.bool false),.d (.bool false),.d (.bool false),.d (.bool false),.d (.bool false),.d (.bool false),.d (.bool false),.d (.bool false),.d (.bool false),.d (.bool false),.d (.bool false),.d (.bool false),.d (.bool false),.d (.bool false),.d (.bool false),.d (.bool false),.d (.bool false),.d (.bool false),.d (.bool false),.d (.bool false),.d (.bool false),.d (.bool false),.d (.bool false),.d (.bool false),.d (.bool false),.d (.bool false),.d (.bool false),.d (.bool false),.d (.bool false)] parts).map mkAgg := buildV_array (by kernel_rfl) Tryz.underlying494 (by kernel_rfl)
attribute [simp] Tryz.underlying495
@[simp] theorem sz495 : sizeOf? Tryz.prog 495 = some 1 := by kernel_rfl
@[simp] theorem ag495 : agg? Tryz.prog 495 = some false := by kernel_rfl
attribute [simp] Tryz.underlying498
@[simp] theorem sz498 : sizeOf? Tryz.prog 498 = some 1 := by kernel_rfl
@[simp] theorem ag498 : agg? Tryz.prog 498 = some false := by kernel_rfl
attribute [simp] Tryz.underlying499
@[simp] theorem sz499 : sizeOf? Tryz.prog 499 = some 1 := by kernel_rfl
@[simp] theorem ag499 : agg? Tryz.prog 499 = some false := by kernel_rfl
attribute [simp] Tryz.underlying500
@[simp] theorem sz500 : sizeOf? Tryz.prog 500 = some 2 := by kernel_rfl
@[simp] theorem ag500 : agg? Tryz.prog 500 = some true := by kernel_rfl
@[simp] theorem bv500 (parts : List (Nat × V)) : buildV Tryz.prog 500 parts = (fillV (fun i => [(0,1),(1,1)][i]?) [.nilS,.d (.bool false)] parts).map mkAgg := buildV_struct (by kernel_rfl) (by kernel_rfl)
@[simp] theorem fo500_0 : fieldOff? Tryz.prog 500 0 = some (0,98) := by kernel_rfl
@[simp] theorem fo500_1 : fieldOff? Tryz.prog 500 1 = some (1,4) := by kernel_rfl
attribute [simp] Tryz.underlying501
@[simp] theorem sz501 : sizeOf? Tryz.prog 501 = some 2 := by kernel_rfl
@[simp] theorem ag501 : agg? Tryz.prog 501 = some true := by kernel_rfl
@[simp] theorem bv501 (parts : List (Nat × V)) : buildV Tryz.prog 501 parts = (fillV (fun i => [(0,1),(1,1)][i]?) [.nilS,.d (.bool false)] parts).map mkAgg := buildV_struct (by kernel_rfl) (by kernel_rfl)
@[simp] theorem fo501_0 : fieldOff? Tryz.prog 501 0 = some (0,98) := by kernel_rfl
@[simp] theorem fo501_1 : fieldOff? Tryz.prog 501 1 = some (1,4) := by kernel_rfl
attribute [simp] Tryz.underlying505
@[simp] theorem sz505 : sizeOf? Tryz.prog 505 = some 1 := by kernel_rfl
@[simp] theorem ag505 : agg? Tryz.prog 505 = some false := by kernel_rfl
attribute [simp] Tryz.underlying506
@[simp] theorem sz506 : sizeOf? Tryz.prog 506 = some 2 := by kernel_rfl
@[simp] theorem ag506 : agg? Tryz.prog 506 = some true := by kernel_rfl
@[simp] theorem bv506 (parts : List (Nat × V)) : buildV Tryz.prog 506 parts = (fillV (fun i => [(0,1),(1,1)][i]?) [.nilS,.d (.bool false)] parts).map mkAgg := buildV_struct (by kernel_rfl) (by kernel_rfl)
@[simp] theorem fo506_0 : fieldOff? Tryz.prog 506 0 = some (0,98) := by kernel_rfl
@[simp] theorem fo506_1 : fieldOff? Tryz.prog 506 1 = some (1,4) := by kernel_rfl
attribute [simp] Tryz.underlying507
@[simp] theorem sz507 : sizeOf? Tryz.prog 507 = some 2 := by kernel_rfl
@[simp] theorem ag507 : agg? Tryz.prog 507 = some true := by kernel_rfl
@[simp] theorem bv507 (parts : List (Nat × V)) : buildV Tryz.prog 507 parts = (fillV (fun i => [(0,1),(1,1)][i]?) [.nilS,.d (.bool false)] parts).map mkAgg := buildV_struct (by kernel_rfl) (by kernel_rfl)
@[simp] theorem fo507_0 : fieldOff? Tryz.prog 507 0 = some (0,98) := by kernel_rfl
@[simp] theorem fo507_1 : fieldOff? Tryz.prog 507 1 = some (1,4) := by kernel_rfl
attribute [simp] Tryz.underlying512
@[simp] theorem sz512 : sizeOf? Tryz.prog 512 = some 1 := by kernel_rfl
@[simp] theorem ag512 : agg? Tryz.prog 512 = some false := by kernel_rfl
attribute [simp] Tryz.underlying513
@[simp] theorem sz513 : sizeOf? Tryz.prog 513 = some 1 := by kernel_rfl
@[simp] theorem ag513 : agg? Tryz.prog 513 = some false := by kernel_rfl
attribute [simp] Tryz.underlying516
@[simp] theorem sz516 : sizeOf? Tryz.prog 516 = some 5 := by kernel_rfl
@[simp] theorem ag516 : agg? Tryz.prog 516 = some true := by kernel_rfl
@[simp] theorem bv516 (parts : List (Nat × V)) : buildV Tryz.prog 516 parts = (fillV (fun i => some (i * 1,1)) [.d .nilF,.d .nilF,.d .nilF,.d .nilF,.d .nilF] parts).map mkAgg := buildV_array (by kernel_rfl) Tryz.underlying516 (by kernel_rfl)
attribute [simp] Tryz.underlying517
@[simp] theorem sz517 : sizeOf? Tryz.prog 517 = some 16 := by kernel_rfl
@[simp] theorem ag517 : agg? Tryz.prog 517 = some true := by kernel_rfl
@[simp] theorem bv517 (parts : List (Nat × V)) : buildV Tryz.prog 517 parts = (fillV (fun i => some (i * 1,1)) [.d (.int .u32 0),.d (.int .u32 0),.d (.int .u32 0),.d (.int .u32 0),.d (.int .u32 0),.d (.int .u32 0),.d (.int .u32 0),.d (.int .u32 0),.d (.int .u32 0),.d (.int .u32 0),.d (.int .u32 0),.d (.int .u32 0),.d (.int .u32 0),.d (.int .u32 0),.d (.int .u32 0),.d (.int .u32 0)] parts).map mkAgg := buildV_array (by kernel_rfl) Tryz.underlying517 (by kernel_rfl)
attribute [simp] Tryz.underlying528
@[simp] theorem sz528 : sizeOf? Tryz.prog 528 = some 1 := by kernel_rfl
@[simp] theorem ag528 : agg? Tryz.prog 528 = some false := by kernel_rfl
attribute [simp] Tryz.underlying531
@[simp] theorem sz531 : sizeOf? Tryz.prog 531 = some 1 := by kernel_rfl
@[simp] theorem ag531 : agg? Tryz.prog 531 = some false := by kernel_rfl
attribute [simp] Tryz.underlying536
@[simp] theorem sz536 : sizeOf? Tryz.prog 536 = some 1 := by kernel_rfl
@[simp] theorem ag536 : agg? Tryz.prog 536 = some false := by kernel_rfl
attribute [simp] Tryz.underlying538
@[simp] theorem sz538 : sizeOf? Tryz.prog 538 = some 1 := by kernel_rfl
@[simp] theorem ag538 : agg? Tryz.prog 538 = some false := by kernel_rfl
attribute [simp] Tryz.underlying543
@[simp] theorem sz543 : sizeOf? Tryz.prog 543 = some 1 := by kernel_rfl
@[simp] theorem ag543 : agg? Tryz.prog 543 = some false := by kernel_rfl
attribute [simp] Tryz.underlying545
@[simp] theorem sz545 : sizeOf? Tryz.prog 545 = some 1 := by kernel_rfl
@[simp] theorem ag545 : agg? Tryz.prog 545 = some false := by kernel_rfl
attribute [simp] Tryz.underlying546
@[simp] theorem sz546 : sizeOf? Tryz.prog 546 = some 2 := by kernel_rfl
@[simp] theorem ag546 : agg? Tryz.prog 546 = some true := by kernel_rfl
@[simp] theorem bv546 (parts : List (Nat × V)) : buildV Tryz.prog 546 parts = (fillV (fun i => [(0,1),(1,1)][i]?) [.nilS,.d (.int .i64 0)] parts).map mkAgg := buildV_struct (by kernel_rfl) (by kernel_rfl)
@[simp] theorem fo546_0 : fieldOff? Tryz.prog 546 0 = some (0,98) := by kernel_rfl
@[simp] theorem fo546_1 : fieldOff? Tryz.prog 546 1 = some (1,44) := by kernel_rfl
attribute [simp] Tryz.underlying547
@[simp] theorem sz547 : sizeOf? Tryz.prog 547 = some 2 := by kernel_rfl
@[simp] theorem ag547 : agg? Tryz.prog 547 = some true := by kernel_rfl
@[simp] theorem bv547 (parts : List (Nat × V)) : buildV Tryz.prog 547 parts = (fillV (fun i => [(0,1),(1,1)][i]?) [.nilS,.d (.int .i64 0)] parts).map mkAgg := buildV_struct (by kernel_rfl) (by kernel_rfl)
@[simp] theorem fo547_0 : fieldOff? Tryz.prog 547 0 = some (0,98) := by kernel_rfl
@[simp] theorem fo547_1 : fieldOff? Tryz.prog 547 1 = some (1,44) := by kernel_rfl
attribute [simp] Tryz.underlying551
@[simp] theorem sz551 : sizeOf? Tryz.prog 551 = some 1 := by kernel_rfl
@[simp] theorem ag551 : agg? Tryz.prog 551 = some false := by kernel_rfl
def K : Keeps := fun f b => match f,b with
 | 3,0 => some [(1,0),(5,0),(6,0),(8,0)]
 | 4,0 => some [(3,0),(4,0),(5,3),(6,0)]
 | 4,2 => some [(3,0),(4,0),(5,3),(6,0),(7,0),(8,0)]
 | 6,0 => some [(1,0),(5,0),(11,0)]
 | 7,0 => some [(1,0),(20,0),(21,0),(22,0)]
 | 11,0 => some [(0,0),(3,3),(4,0)]
 | 12,0 => some [(3,1),(11,0),(12,0),(13,0)]
 | 13,0 => some [(0,0),(3,1),(4,0)]
 | 14,0 => some [(0,0),(3,0),(4,0)]
 | 16,0 => some [(2,0),(3,0),(5,0)]
 | 17,1 => some [(0,0),(2,0),(4,0),(5,0)]
 | 18,0 => some [(0,0),(3,1),(4,0),(5,0)]
 | 20,2 => some [(0,0),(2,0),(5,0),(12,0)]
 | 21,0 => some [(2,0),(3,0),(5,0)]
 | 22,0 => some [(0,0),(3,0),(4,0)]
 | 24,1 => some [(2,0),(5,0),(34,0),(35,0),(36,0)]
 | 25,0 => some [(0,0),(5,0),(16,0),(17,0),(18,0)]
 | 26,1 => some [(0,0),(2,0),(11,0),(88,0),(89,0),(90,0)]
 | 28,2 => some [(0,0),(92,0),(93,0)]
 | 30,0 => some [(0,0),(1,0),(6,1),(7,0)]
 | 31,0 => some [(4,0),(6,0),(32,0),(33,0),(34,0)]
 | 35,2 => some [(10,0),(12,1),(13,0)]
 | 35,4 => some [(16,0),(18,1),(19,0)]
 | 38,1 => some [(0,0),(1,0),(5,0),(39,0),(40,0),(41,0)]
 | 38,3 => some [(1,0),(8,0),(63,0),(64,0),(65,0)]
 | 41,0 => some [(0,0),(5,1),(6,1),(7,0),(8,0)]
 | 42,0 => some [(0,0),(1,0),(6,0),(7,0)]
 | 43,0 => some [(0,0),(1,0),(2,0),(3,0),(9,0),(10,0)]
 | 46,0 => some [(0,0),(6,0)]
 | 53,0 => some [(0,0),(1,0),(9,0),(10,0),(11,0)]
 | 62,0 => some [(0,0),(1,0)]
 | 63,0 => some [(7,1),(24,0),(25,0),(26,0)]
 | 66,0 => some [(5,1),(21,0),(22,0),(23,0)]
 | 76,1 => some [(0,0),(3,0),(53,0)]
 | 86,0 => some [(0,0),(6,0),(7,0),(8,0),(9,0)]
 | 87,0 => some [(0,0),(1,0),(6,0),(7,0)]
 | 88,0 => some [(0,0),(1,0),(5,0)]
 | 94,0 => some [(0,0),(3,1),(11,0),(12,0),(13,0)]
 | 101,1 => some [(0,0),(3,0),(4,1),(59,0),(60,0),(61,0)]
 | 107,0 => some [(0,0),(2,6),(3,0),(4,0)]
 | 107,2 => some [(0,0),(4,0),(8,1),(43,0),(44,0),(45,0)]
 | 107,4 => some [(0,0),(4,0),(8,1),(13,0),(43,0),(44,0),(45,0)]
 | 107,6 => some [(0,0),(4,0),(8,1),(14,6),(18,0),(127,0),(128,0)]
 | 107,8 => some [(0,0),(4,0),(8,1),(14,6),(18,0),(19,0),(20,1),(127,0),(128,0),(131,0),(132,0),(133,0)]
 | 111,0 => some [(0,0),(8,0),(23,0),(24,0),(25,0)]
 | 112,0 => some [(3,1),(17,0),(18,0),(19,0)]
 | 114,0 => some [(1,0),(2,0),(3,0),(4,0),(8,0),(9,0),(10,0),(55,0),(56,0),(57,0)]
 | 114,2 => some [(1,0),(2,0),(3,0),(4,0),(9,0),(10,0)]
 | 121,0 => some [(1,0),(3,0),(22,0),(23,0),(24,0)]
 | 123,0 => some [(2,0),(6,1),(11,0),(12,0),(13,0)]
 | 127,0 => some [(0,0),(1,0),(3,0),(6,0),(11,0),(14,0),(17,1),(59,0),(60,0),(61,0)]
 | 127,2 => some [(0,0),(6,0),(14,0),(17,1),(24,0),(25,0),(26,1),(104,0),(105,0),(106,0)]
 | 127,4 => some [(0,0),(6,0),(14,0),(17,1),(24,0),(25,0),(26,1),(30,0),(104,0),(105,0),(106,0),(121,0),(122,0),(123,0)]
 | 127,6 => some [(17,1),(25,0),(26,1),(144,0),(145,0),(146,0)]
 | 131,0 => some [(0,0),(1,0),(4,0)]
 | 132,0 => some [(0,0),(1,0),(3,0),(4,0),(10,1),(11,0),(12,0),(13,0),(14,0),(15,0),(16,0)]
 | 132,2 => some [(0,0),(1,0),(3,0),(4,0),(10,1),(11,0),(12,0),(13,0),(17,0)]
 | 135,0 => some [(2,0),(4,0)]
 | 138,1 => some [(0,0),(1,0),(5,0),(6,0),(7,0),(8,0),(9,0),(10,0)]
 | 141,0 => some [(5,0),(6,0),(47,0),(48,0),(49,0)]
 | 152,0 => some [(0,0),(2,0),(6,0),(7,0),(8,0)]
 | 152,2 => some [(0,0),(2,0),(6,0),(7,0),(12,0)]
 | 153,0 => some [(2,0),(3,0),(4,0),(11,0),(12,0),(13,0)]
 | 155,0 => some [(0,0),(1,0),(12,0),(13,0)]
 | 160,0 => some [(1,0),(2,0),(3,0),(6,0),(7,0),(35,0),(36,0),(37,0)]
 | 160,2 => some [(3,0),(6,0),(7,0),(12,0),(13,0)]
 | 160,4 => some [(3,0),(6,0),(7,0),(12,0),(13,0),(14,0),(67,0),(68,0),(69,0)]
 | 161,0 => some [(0,0),(1,0),(2,0),(10,0),(33,0),(34,0),(35,0)]
 | 162,0 => some [(2,0),(3,0),(4,0),(5,0),(6,0),(18,0),(19,0),(20,0)]
 | 163,0 => some [(0,0),(1,0),(17,0),(18,0),(19,0)]
 | 164,0 => some [(0,0),(1,0),(10,0)]
 | 166,0 => some [(4,0),(6,0),(15,0),(16,0),(17,0)]
 | 167,0 => some [(0,0),(4,0),(6,0),(9,0),(11,0),(12,0),(68,0),(69,0)]
 | 167,2 => some [(4,0),(6,0),(9,0),(11,0),(12,0),(14,0),(93,0),(94,0),(95,0)]
 | 168,0 => some [(4,0),(5,0),(21,0),(22,0),(23,0)]
 | 173,0 => some [(2,0),(3,0),(4,0),(7,0),(8,1),(16,0),(17,0),(18,0)]
 | 176,0 => some [(3,0),(6,0),(7,0),(8,0)]
 | 177,0 => some [(5,0),(8,0),(9,0),(11,0),(12,0),(39,0),(40,0),(41,0)]
 | 179,0 => some [(1,0),(5,10),(12,0),(13,0)]
 | 179,2 => some [(1,0),(5,10),(6,0),(7,1),(12,0),(13,0),(16,0),(17,0),(18,0)]
 | 180,0 => some [(0,0),(1,0),(2,0),(6,0),(8,0),(12,0),(13,0),(14,0)]
 | 182,0 => some [(19,0)]
 | 186,0 => some [(1,0),(16,0),(17,0),(18,0)]
 | 192,0 => some [(4,0),(6,0),(7,0),(9,0),(10,7),(17,0),(18,0),(19,0)]
 | 193,0 => some [(1,0),(7,0),(11,0),(12,0),(40,0),(41,0),(42,0)]
 | 194,0 => some [(2,0),(3,0),(7,0),(17,0),(18,0),(19,0)]
 | 195,1 => some [(2,0),(4,0),(7,0),(20,0),(21,0),(22,0)]
 | 195,3 => some [(2,0),(4,0),(10,0),(37,0),(38,0),(39,0)]
 | 198,0 => some [(0,0),(5,1),(12,0),(13,0),(14,0)]
 | 210,0 => some [(0,0),(1,0),(5,0),(6,0),(7,0),(8,0),(9,0)]
 | 210,2 => some [(0,0),(1,0),(5,0),(6,0),(7,0),(8,0),(10,0)]
 | 218,0 => some [(0,0),(5,0)]
 | 219,0 => some [(1,0),(4,0),(25,0),(26,0),(27,0)]
 | 219,2 => some [(4,0),(44,0),(45,0),(46,0)]
 | 219,4 => some [(4,0),(8,0),(44,0),(45,0),(46,0),(67,0),(68,0),(69,0)]
 | 219,6 => some [(4,0),(44,0),(45,0),(46,0),(79,0),(80,0),(81,0)]
 | 224,0 => some [(2,0),(5,0),(6,0),(7,0)]
 | 225,0 => some [(0,0),(2,0),(3,0),(4,0)]
 | 226,0 => some [(0,0),(1,0),(12,0),(13,0)]
 | 228,0 => some [(1,0),(2,0),(3,0),(12,0),(13,0),(14,0)]
 | 228,2 => some [(2,0),(3,0),(31,0),(32,0),(33,0)]
 | 229,0 => some [(0,0),(1,0),(5,0),(6,0)]
 | 231,0 => some [(0,0),(1,0),(7,0),(8,0)]
 | 234,0 => some [(0,0),(5,0)]
 | 235,0 => some [(0,0),(1,0),(2,0),(3,0),(4,0),(10,0),(11,0)]
 | 242,0 => some [(3,0),(18,0),(19,0),(20,0)]
 | 243,0 => some [(0,0),(3,1)]
 | 244,0 => some [(1,0),(5,1),(8,0),(9,0),(10,0)]
 | 245,0 => some [(0,0),(1,0),(26,0),(27,0),(28,0)]
 | 245,2 => some [(0,0),(8,0),(9,1),(10,1),(11,1),(47,0),(48,0),(49,0)]
 | 251,0 => some [(0,0),(1,0),(7,0)]
 | 252,0 => some [(6,0)]
 | 253,0 => some [(0,0),(1,0),(5,0)]
 | 253,2 => some [(0,0),(1,0),(5,0),(6,0),(7,0)]
 | 257,0 => some [(0,0),(6,1),(13,0),(14,0),(15,0)]
 | 261,0 => some [(0,0),(1,0),(5,0),(6,0)]
 | 265,0 => some [(1,0),(25,0),(26,0),(27,0)]
 | 266,0 => some [(0,0),(37,0),(38,0),(39,0)]
 | 267,0 => some [(1,0),(3,0),(28,0),(29,0),(30,0)]
 | 267,2 => some [(1,0),(6,0),(68,0),(69,0),(70,0)]
 | 268,0 => some [(0,0),(4,0),(19,0),(20,0),(21,0)]
 | 268,2 => some [(0,0),(4,0),(7,0),(19,0),(20,0),(21,0),(36,0),(37,0),(38,0)]
 | 268,4 => some [(0,0),(4,0),(19,0),(20,0),(21,0),(45,0),(46,0),(47,0)]
 | 269,0 => some [(0,0),(1,0),(5,0),(6,0)]
 | 271,0 => some [(0,0),(1,0),(6,0),(7,0),(8,0)]
 | 276,0 => some [(0,0),(1,0),(2,0),(4,0)]
 | 278,0 => some [(0,0),(1,0),(7,0),(8,0)]
 | 279,0 => some [(0,0),(1,0),(7,0),(8,0)]
 | 281,0 => some [(1,0),(2,0),(23,0),(24,0),(25,0)]
 | 282,1 => some [(3,0),(44,0),(45,0),(46,0)]
 | 284,0 => some [(0,0),(1,0),(7,0),(8,0)]
 | 285,0 => some [(2,0),(4,1),(7,0),(8,0),(9,0)]
 | 287,1 => some [(2,0),(4,0),(6,0),(7,0),(9,0),(26,0),(27,0),(28,0)]
 | 288,0 => some [(3,0),(4,0),(7,10),(14,0),(15,0),(16,0)]
 | 291,0 => some [(2,0),(3,0),(6,0)]
 | 291,2 => some [(2,0),(3,0),(6,0),(9,0),(10,0),(75,0),(76,0)]
 | 297,0 => some [(0,0),(1,0),(5,0),(6,0)]
 | 304,0 => some [(0,0),(1,0),(2,0),(6,0),(7,0),(8,0)]
 | 304,2 => some [(0,0),(1,0),(2,0),(6,0)]
 | 304,4 => some [(0,0),(1,0),(2,0),(6,0),(7,0),(8,0)]
 | 308,0 => some [(0,0),(4,0),(5,0)]
 | 308,2 => some [(4,0),(6,0),(7,0),(8,0)]
 | 309,3 => some [(1,0),(8,0),(9,0),(10,0),(11,0),(12,0),(13,0),(99,0),(100,0),(101,0)]
 | 312,0 => some [(2,0),(4,1)]
 | 313,0 => some [(0,0),(1,0),(2,0),(3,0),(8,0),(9,0)]
 | 315,0 => some [(14,0)]
 | 316,0 => some [(5,0),(8,0),(9,0),(10,0)]
 | 319,0 => some [(0,0),(1,0),(7,0),(8,0)]
 | 320,0 => some [(0,0),(1,0),(2,0),(3,0),(8,0)]
 | 320,2 => some [(0,0),(1,0),(2,0),(3,0),(8,0),(9,0)]
 | 321,0 => some [(0,0),(3,0),(8,0),(9,0),(10,0),(11,0)]
 | 321,2 => some [(0,0),(3,0),(8,0),(9,0),(12,0)]
 | 322,0 => some [(0,0),(1,0),(8,0),(9,0),(10,0),(11,0)]
 | 324,0 => some [(0,0),(8,0),(9,0)]
 | 325,0 => some [(0,0),(1,0),(2,0),(3,0),(9,0),(10,0)]
 | 325,2 => some [(0,0),(1,0),(2,0),(3,0),(9,0),(10,0)]
 | 325,4 => some [(0,0),(1,0),(2,0),(3,0),(9,0),(10,0),(11,0)]
 | 325,6 => some [(0,0),(1,0),(2,0),(3,0),(9,0),(10,0),(12,0)]
 | 326,0 => some [(0,0),(1,0),(4,0),(11,0),(12,0)]
 | 326,2 => some [(0,0),(1,0),(4,0),(11,0),(12,0)]
 | 326,4 => some [(0,0),(1,0),(4,0),(11,0),(12,0)]
 | 327,0 => some [(0,0),(1,0),(4,0),(12,0),(13,0)]
 | 327,2 => some [(0,0),(1,0),(4,0),(12,0),(13,0)]
 | 327,4 => some [(0,0),(1,0),(4,0),(12,0),(13,0)]
 | 327,6 => some [(0,0),(1,0),(4,0),(12,0),(13,0)]
 | 327,8 => some [(0,0),(1,0),(4,0),(12,0),(13,0)]
 | 335,0 => some [(3,0),(11,0),(12,0),(13,0)]
 | 336,0 => some [(0,0),(4,1),(11,0)]
 | 337,0 => some [(0,0),(3,0),(4,0),(5,1),(20,0),(21,0),(22,0)]
 | 341,0 => some [(3,0),(5,0)]
 | 343,0 => some [(0,0),(6,0),(7,6),(8,0)]
 | 344,0 => some [(3,0),(4,6),(10,0),(11,0),(12,0)]
 | 344,2 => some [(3,0),(4,6),(10,0),(11,0),(12,0),(16,0),(17,0),(18,0)]
 | 345,0 => some [(0,0),(1,0),(7,0),(8,0)]
 | 346,0 => some [(0,0),(1,0),(7,0),(8,0)]
 | 347,0 => some [(14,0)]
 | 351,0 => some [(0,0),(8,0),(9,0),(10,0)]
 | 354,0 => some [(0,0),(1,0),(7,0),(8,0)]
 | 359,0 => some [(2,0),(3,0),(4,0),(6,0),(7,0),(10,0)]
 | 359,2 => some [(2,0),(3,0),(4,0),(6,0),(7,0),(8,0),(10,0),(13,0)]
 | 361,0 => some [(0,0),(6,0),(9,0),(10,0),(11,0)]
 | 361,2 => some [(0,0),(6,0),(9,0),(10,0),(11,0),(12,0),(13,0),(117,0),(118,0),(119,0)]
 | 361,4 => some [(0,0),(6,0),(9,0),(10,0),(11,0),(12,0),(13,0),(117,0),(118,0),(119,0),(154,0),(155,0),(156,0)]
 | 367,0 => some [(0,0),(1,0),(7,0),(8,0)]
 | 368,0 => some [(3,1),(6,0),(7,0),(8,0)]
 | 370,0 => some [(5,0),(6,0),(21,0)]
 | 370,2 => some [(5,0),(6,0),(8,0),(9,0),(21,0),(38,0),(39,0),(40,0)]
 | 371,0 => some [(0,0),(1,0),(2,0),(3,0),(8,0)]
 | 371,2 => some [(0,0),(1,0),(2,0),(3,0),(8,0),(9,0)]
 | 372,0 => some [(0,0),(1,0),(4,0),(10,0),(11,0)]
 | 372,2 => some [(0,0),(10,0),(13,0)]
 | 372,4 => some [(0,0),(2,0),(4,0),(14,0),(15,0)]
 | 372,6 => some [(0,0),(14,0),(17,0)]
 | 372,8 => some [(0,0),(1,0),(2,0),(3,0),(4,0),(18,0),(19,0),(20,0),(21,0),(22,0)]
 | 374,0 => some [(0,0),(3,0),(4,0),(5,0)]
 | 375,0 => some [(0,0),(1,0),(2,0),(6,0)]
 | 375,2 => some [(0,0),(1,0),(2,0),(6,0),(7,0)]
 | 376,0 => some [(0,0),(6,0),(7,0),(8,0),(9,0)]
 | 376,2 => some [(0,0),(6,0),(7,0),(10,0)]
 | 377,0 => some [(0,0),(1,0),(6,0),(7,0),(8,0),(9,0)]
 | 379,0 => some [(0,0),(6,0),(7,0)]
 | 380,0 => some [(0,0),(1,0),(2,0),(7,0),(8,0)]
 | 380,2 => some [(0,0),(1,0),(2,0),(7,0),(8,0)]
 | 380,4 => some [(0,0),(1,0),(2,0),(7,0),(8,0),(9,0)]
 | 380,6 => some [(0,0),(1,0),(2,0),(7,0),(8,0),(10,0)]
 | 381,0 => some [(0,0),(1,0),(9,0),(10,0)]
 | 381,2 => some [(0,0),(1,0),(9,0),(10,0)]
 | 381,4 => some [(0,0),(1,0),(9,0),(10,0)]
 | 382,0 => some [(0,0),(1,0),(10,0),(11,0)]
 | 382,2 => some [(0,0),(1,0),(10,0),(11,0)]
 | 382,4 => some [(0,0),(1,0),(10,0),(11,0)]
 | 382,6 => some [(0,0),(1,0),(10,0),(11,0)]
 | 382,8 => some [(0,0),(1,0),(10,0),(11,0)]
 | 383,0 => some [(0,0),(2,0),(3,0),(4,0),(10,0)]
 | 388,0 => some [(0,0),(1,0),(7,0),(8,0)]
 | 389,0 => some [(1,0),(6,0),(36,0),(37,0),(38,0)]
 | 389,2 => some [(1,0),(6,0),(7,0),(8,0),(9,0),(36,0),(37,0),(38,0)]
 | 391,0 => some [(0,0),(5,1),(6,1),(9,0),(10,0),(11,0)]
 | 393,0 => some [(0,0),(3,0)]
 | 393,2 => some [(0,0),(3,0),(4,0),(5,0)]
 | 395,0 => some [(0,0),(9,0),(10,0),(11,0)]
 | 396,0 => some [(0,0),(1,0)]
 | 397,0 => some [(0,0),(1,0)]
 | 398,0 => some [(0,0),(2,0),(4,0)]
 | 399,0 => some [(0,0),(1,0)]
 | 400,0 => some [(0,0),(1,0)]
 | 401,0 => some [(0,0),(1,0)]
 | 402,0 => some [(0,0),(1,0)]
 | 404,0 => some [(0,0),(2,0),(3,0),(4,0)]
 | 408,0 => some [(14,0)]
 | 409,0 => some [(0,0),(5,0)]
 | 411,0 => some [(0,0),(1,0),(4,0)]
 | 413,0 => some [(0,0),(2,0),(4,0),(10,0),(11,0)]
 | 414,0 => some [(0,0),(2,0),(3,0),(8,0)]
 | 418,0 => some [(3,0),(6,0),(7,0),(8,0)]
 | 419,0 => some [(3,1),(6,0),(7,0),(8,0)]
 | 420,0 => some [(3,1),(4,0),(7,0),(8,0),(9,0)]
 | 421,0 => some [(0,0),(3,1),(4,0)]
 | 421,2 => some [(0,0),(3,1),(4,0),(5,0)]
 | 422,0 => some [(0,0),(3,0),(4,0),(18,0),(19,0),(20,0)]
 | 422,2 => some [(3,0),(4,0),(7,0),(47,0),(48,0),(49,0)]
 | 423,0 => some [(3,0),(4,0),(16,0),(17,0),(18,0)]
 | 426,0 => some [(0,0),(4,0),(5,0),(6,0)]
 | 432,0 => some [(0,0),(1,0),(2,0),(9,0),(12,0),(56,0),(57,0),(58,0)]
 | 432,2 => some [(1000015,0),(17,0),(79,0),(80,0),(81,0)]
 | 433,0 => some [(0,0),(1,0),(2,0),(3,0),(10,0)]
 | 436,0 => some [(0,0),(1,0),(6,0),(7,0),(8,0)]
 | 438,0 => some [(0,0),(3,0),(4,0)]
 | 443,0 => some [(7,0),(8,0)]
 | 444,0 => some [(0,0),(2,0),(9,0),(56,0),(57,0)]
 | 444,2 => some [(0,0),(2,0),(9,0),(10,0),(11,0),(56,0),(57,0)]
 | 445,1 => some [(8,1),(10,0),(30,0),(31,0),(32,0)]
 | 445,3 => some [(8,1),(14,0),(52,0),(53,0),(54,0)]
 | 445,5 => some [(8,1),(18,0),(73,0),(74,0),(75,0)]
 | 448,0 => some [(0,0),(3,0)]
 | 448,2 => some [(0,0),(3,0),(4,0),(5,0)]
 | 454,2 => some [(0,0),(1,0),(6,0),(7,1),(8,0)]
 | 455,0 => some [(12,0),(15,1),(85,0),(86,0),(87,0)]
 | 456,0 => some [(0,0),(1,0),(2,0),(3,0),(8,0),(9,0)]
 | 460,0 => some [(0,0),(1,0),(5,1)]
 | 461,0 => some [(0,0),(1,0),(5,0),(6,1)]
 | 461,2 => some [(0,0),(5,0),(6,1),(9,1),(104,0),(105,0),(106,0)]
 | 462,0 => some [(5,0),(7,1),(36,0),(37,0),(38,0)]
 | 464,0 => some [(0,0),(11,1),(45,0),(46,0),(47,0)]
 | 465,0 => some [(0,0),(1,0),(2,0),(6,0)]
 | 465,2 => some [(0,0),(1,0),(2,0),(6,0),(7,0)]
 | 466,0 => some [(0,0),(6,0),(7,0),(8,0),(9,0)]
 | 466,2 => some [(0,0),(6,0),(7,0),(10,0)]
 | 467,0 => some [(0,0),(1,0),(6,0),(7,0),(8,0),(9,0)]
 | 469,0 => some [(0,0),(6,0),(7,0)]
 | 470,0 => some [(0,0),(1,0),(2,0),(7,0),(8,0)]
 | 470,2 => some [(0,0),(1,0),(2,0),(7,0),(8,0)]
 | 470,4 => some [(0,0),(1,0),(2,0),(7,0),(8,0),(9,0)]
 | 470,6 => some [(0,0),(1,0),(2,0),(7,0),(8,0),(10,0)]
 | 471,0 => some [(0,0),(1,0),(9,0),(10,0)]
 | 471,2 => some [(0,0),(1,0),(9,0),(10,0)]
 | 471,4 => some [(0,0),(1,0),(9,0),(10,0)]
 | 472,0 => some [(0,0),(1,0),(10,0),(11,0)]
 | 472,2 => some [(0,0),(1,0),(10,0),(11,0)]
 | 472,4 => some [(0,0),(1,0),(10,0),(11,0)]
 | 472,6 => some [(0,0),(1,0),(10,0),(11,0)]
 | 472,8 => some [(0,0),(1,0),(10,0),(11,0)]
 | 474,0 => some [(7,0),(8,0)]
 | 476,0 => some [(0,0),(2,0),(3,0),(8,0)]
 | _,_ => none
def halfD : List D := [.int .u32 0,.int .u32 498536548,.int .u32 997073096,.int .u32 651767980,.int .u32 1994146192,.int .u32 1802195444,.int .u32 1303535960,.int .u32 1342533948,.int .u32 3988292384,.int .u32 4027552580,.int .u32 3604390888,.int .u32 3412177804,.int .u32 2607071920,.int .u32 2262029012,.int .u32 2685067896,.int .u32 3183342108]
def powD : List D := [.int .u64 1,.int .u64 10,.int .u64 100,.int .u64 1000,.int .u64 10000,.int .u64 100000,.int .u64 1000000,.int .u64 10000000,.int .u64 100000000,.int .u64 1000000000,.int .u64 10000000000,.int .u64 100000000000,.int .u64 1000000000000,.int .u64 10000000000000,.int .u64 100000000000000,.int .u64 1000000000000000,.int .u64 10000000000000000,.int .u64 100000000000000000,.int .u64 1000000000000000000,.int .u64 10000000000000000000]
def G : Nat → Option (List D) := fun g => if g < 1000 then (match g with | 0 => some powD | 1 => some [.num] | 4 => some [.err] | 5 => some [.err] | 8 => some halfD | 900 => some [] | _ => none) else if ([1000143,1000157,1000196,1000217,1000229,1000235,1000246,1000252,1000253,1000261,1000269,1000297] ++ [1000304,1000313,1000314,1000320,1000321,1000322,1000323,1000324,1000325,1000326,1000327,1000338] ++ [1000371,1000372,1000375,1000376,1000377,1000378,1000379,1000380,1000381,1000382,1000383,1000386] ++ [1000387,1000391,1000393,1000413,1000414,1000415,1000416,1000417,1000433,1000434,1000443,1000447] ++ [1000448,1000456,1000465,1000466,1000467,1000468,1000469,1000470,1000471,1000472,1000474,1000476] ++ [1000477,1000478,1000479,2000075,2000122,2000126,2000170,2000221,2000256,2000289,2000446,2000217] ++ [2000447,2000023,2000037,2000038,2000050,2000092,2000107,2000143,4900217,4800447,3000224,3000362] ++ [3000390,3000412,3000296,3000298,3000299,3000291,4000296,4000298,4000299,5000276,4500291,4700224] ++ [4700412,4720122,4720233,4300023,4300037,4300038,4300050,4300092,4310037,4320037,4310038,4320050] ++ [4310092,4330092,4100218,4100234,4100409,4130218,4130409,4110107,4120143]).contains g then some [] else none
@[simp] theorem G_0 : G 0 = some powD := rfl
@[simp] theorem G_1 : G 1 = some [.num] := rfl
@[simp] theorem G_4 : G 4 = some [.err] := rfl
@[simp] theorem G_5 : G 5 = some [.err] := rfl
@[simp] theorem G_8 : G 8 = some halfD := rfl
@[simp] theorem G_900 : G 900 = some [] := rfl
@[simp] theorem br_2 : byRef G 2 = false := by decide +kernel
@[simp] theorem ln_2 : lone G 2 = false := by decide +kernel
@[simp] theorem th_2 : thaws G 2 = false := by decide +kernel
@[simp] theorem br_3 : byRef G 3 = false := by decide +kernel
@[simp] theorem ln_3 : lone G 3 = false := by decide +kernel
@[simp] theorem th_3 : thaws G 3 = false := by decide +kernel
@[simp] theorem br_4 : byRef G 4 = false := by decide +kernel
@[simp] theorem ln_4 : lone G 4 = false := by decide +kernel
@[simp] theorem th_4 : thaws G 4 = false := by decide +kernel
@[simp] theorem br_5 : byRef G 5 = false := by decide +kernel
theorem sp_5 : splits G 5 = false := by decide +kernel
@[simp] theorem ln_5 : lone G 5 = false := by decide +kernel
@[simp] theorem th_5 : thaws G 5 = false := by decide +kernel
@[simp] theorem br_6 : byRef G 6 = false := by decide +kernel
@[simp] theorem ln_6 : lone G 6 = false := by decide +kernel
@[simp] theorem th_6 : thaws G 6 = false := by decide +kernel
@[simp] theorem br_7 : byRef G 7 = false := by decide +kernel
@[simp] theorem ln_7 : lone G 7 = false := by decide +kernel
@[simp] theorem th_7 : thaws G 7 = false := by decide +kernel
@[simp] theorem br_8 : byRef G 8 = false := by decide +kernel
@[simp] theorem ln_8 : lone G 8 = false := by decide +kernel
@[simp] theorem th_8 : thaws G 8 = false := by decide +kernel
@[simp] theorem br_9 : byRef G 9 = false := by decide +kernel
@[simp] theorem ln_9 : lone G 9 = false := by decide +kernel
@[simp] theorem th_9 : thaws G 9 = false := by decide +kernel
@[simp] theorem br_10 : byRef G 10 = false := by decide +kernel
@[simp] theorem ln_10 : lone G 10 = false := by decide +kernel
@[simp] theorem th_10 : thaws G 10 = false := by decide +kernel
@[simp] theorem br_11 : byRef G 11 = false := by decide +kernel
@[simp] theorem ln_11 : lone G 11 = false := by decide +kernel
@[simp] theorem th_11 : thaws G 11 = false := by decide +kernel
@[simp] theorem br_12 : byRef G 12 = false := by decide +kernel
@[simp] theorem ln_12 : lone G 12 = false := by decide +kernel
@[simp] theorem th_12 : thaws G 12 = false := by decide +kernel
@[simp] theorem br_13 : byRef G 13 = false := by decide +kernel
@[simp] theorem ln_13 : lone G 13 = false := by decide +kernel
@[simp] theorem th_13 : thaws G 13 = false := by decide +kernel
@[simp] theorem br_14 : byRef G 14 = false := by decide +kernel
@[simp] theorem ln_14 : lone G 14 = false := by decide +kernel
@[simp] theorem th_14 : thaws G 14 = false := by decide +kernel
@[simp] theorem br_15 : byRef G 15 = false := by decide +kernel
theorem sp_15 : splits G 15 = false := by decide +kernel
@[simp] theorem ln_15 : lone G 15 = false := by decide +kernel
@[simp] theorem th_15 : thaws G 15 = false := by decide +kernel
@[simp] theorem br_16 : byRef G 16 = false := by decide +kernel
theorem sp_16 : splits G 16 = false := by decide +kernel
@[simp] theorem ln_16 : lone G 16 = false := by decide +kernel
@[simp] theorem th_16 : thaws G 16 = false := by decide +kernel
@[simp] theorem br_17 : byRef G 17 = false := by decide +kernel
theorem sp_17 : splits G 17 = false := by decide +kernel
@[simp] theorem ln_17 : lone G 17 = false := by decide +kernel
@[simp] theorem th_17 : thaws G 17 = false := by decide +kernel
@[simp] theorem br_18 : byRef G 18 = false := by decide +kernel
theorem sp_18 : splits G 18 = false := by decide +kernel
@[simp] theorem ln_18 : lone G 18 = false := by decide +kernel
@[simp] theorem th_18 : thaws G 18 = false := by decide +kernel
@[simp] theorem br_19 : byRef G 19 = false := by decide +kernel
theorem sp_19 : splits G 19 = false := by decide +kernel
@[simp] theorem ln_19 : lone G 19 = false := by decide +kernel
@[simp] theorem th_19 : thaws G 19 = false := by decide +kernel
@[simp] theorem br_20 : byRef G 20 = false := by decide +kernel
theorem sp_20 : splits G 20 = false := by decide +kernel
@[simp] theorem ln_20 : lone G 20 = false := by decide +kernel
@[simp] theorem th_20 : thaws G 20 = false := by decide +kernel
@[simp] theorem br_21 : byRef G 21 = false := by decide +kernel
theorem sp_21 : splits G 21 = false := by decide +kernel
@[simp] theorem ln_21 : lone G 21 = false := by decide +kernel
@[simp] theorem th_21 : thaws G 21 = false := by decide +kernel
@[simp] theorem br_22 : byRef G 22 = false := by decide +kernel
theorem sp_22 : splits G 22 = false := by decide +kernel
@[simp] theorem ln_22 : lone G 22 = false := by decide +kernel
@[simp] theorem th_22 : thaws G 22 = false := by decide +kernel
@[simp] theorem br_23 : byRef G 23 = false := by decide +kernel
theorem so_23 : sorts G 23 = 3 := by decide +kernel
@[simp] theorem ln_23 : lone G 23 = false := by decide +kernel
@[simp] theorem th_23 : thaws G 23 = false := by decide +kernel
@[simp] theorem br_24 : byRef G 24 = false := by decide +kernel
theorem sp_24 : splits G 24 = false := by decide +kernel
@[simp] theorem ln_24 : lone G 24 = false := by decide +kernel
@[simp] theorem th_24 : thaws G 24 = false := by decide +kernel
@[simp] theorem br_25 : byRef G 25 = false := by decide +kernel
@[simp] theorem ln_25 : lone G 25 = false := by decide +kernel
@[simp] theorem th_25 : thaws G 25 = false := by decide +kernel
@[simp] theorem br_26 : byRef G 26 = false := by decide +kernel
theorem sp_26 : splits G 26 = false := by decide +kernel
@[simp] theorem ln_26 : lone G 26 = false := by decide +kernel
@[simp] theorem th_26 : thaws G 26 = false := by decide +kernel
@[simp] theorem br_27 : byRef G 27 = false := by decide +kernel
@[simp] theorem ln_27 : lone G 27 = false := by decide +kernel
@[simp] theorem th_27 : thaws G 27 = false := by decide +kernel
@[simp] theorem br_28 : byRef G 28 = false := by decide +kernel
@[simp] theorem ln_28 : lone G 28 = false := by decide +kernel
@[simp] theorem th_28 : thaws G 28 = false := by decide +kernel
@[simp] theorem br_29 : byRef G 29 = false := by decide +kernel
@[simp] theorem ln_29 : lone G 29 = false := by decide +kernel
@[simp] theorem th_29 : thaws G 29 = false := by decide +kernel
@[simp] theorem br_30 : byRef G 30 = false := by decide +kernel
@[simp] theorem ln_30 : lone G 30 = false := by decide +kernel
@[simp] theorem th_30 : thaws G 30 = false := by decide +kernel
@[simp] theorem br_31 : byRef G 31 = false := by decide +kernel
@[simp] theorem ln_31 : lone G 31 = false := by decide +kernel
@[simp] theorem th_31 : thaws G 31 = false := by decide +kernel
@[simp] theorem br_32 : byRef G 32 = false := by decide +kernel
@[simp] theorem ln_32 : lone G 32 = false := by decide +kernel
@[simp] theorem th_32 : thaws G 32 = false := by decide +kernel
@[simp] theorem br_33 : byRef G 33 = false := by decide +kernel
@[simp] theorem ln_33 : lone G 33 = false := by decide +kernel
@[simp] theorem th_33 : thaws G 33 = false := by decide +kernel
@[simp] theorem br_34 : byRef G 34 = false := by decide +kernel
@[simp] theorem ln_34 : lone G 34 = false := by decide +kernel
@[simp] theorem th_34 : thaws G 34 = false := by decide +kernel
@[simp] theorem br_35 : byRef G 35 = false := by decide +kernel
@[simp] theorem ln_35 : lone G 35 = false := by decide +kernel
@[simp] theorem th_35 : thaws G 35 = false := by decide +kernel
@[simp] theorem br_36 : byRef G 36 = false := by decide +kernel
@[simp] theorem ln_36 : lone G 36 = false := by decide +kernel
@[simp] theorem th_36 : thaws G 36 = false := by decide +kernel
@[simp] theorem br_37 : byRef G 37 = false := by decide +kernel
theorem so_37 : sorts G 37 = 6 := by decide +kernel
@[simp] theorem ln_37 : lone G 37 = false := by decide +kernel
@[simp] theorem th_37 : thaws G 37 = false := by decide +kernel
@[simp] theorem br_38 : byRef G 38 = false := by decide +kernel
theorem so_38 : sorts G 38 = 4 := by decide +kernel
@[simp] theorem ln_38 : lone G 38 = false := by decide +kernel
@[simp] theorem th_38 : thaws G 38 = false := by decide +kernel
@[simp] theorem br_39 : byRef G 39 = false := by decide +kernel
@[simp] theorem ln_39 : lone G 39 = false := by decide +kernel
@[simp] theorem th_39 : thaws G 39 = false := by decide +kernel
@[simp] theorem br_40 : byRef G 40 = false := by decide +kernel
theorem sp_40 : splits G 40 = false := by decide +kernel
@[simp] theorem ln_40 : lone G 40 = false := by decide +kernel
@[simp] theorem th_40 : thaws G 40 = false := by decide +kernel
@[simp] theorem br_41 : byRef G 41 = false := by decide +kernel
theorem sp_41 : splits G 41 = false := by decide +kernel
@[simp] theorem ln_41 : lone G 41 = false := by decide +kernel
@[simp] theorem th_41 : thaws G 41 = false := by decide +kernel
@[simp] theorem br_42 : byRef G 42 = false := by decide +kernel
theorem sp_42 : splits G 42 = false := by decide +kernel
@[simp] theorem ln_42 : lone G 42 = false := by decide +kernel
@[simp] theorem th_42 : thaws G 42 = false := by decide +kernel
@[simp] theorem br_43 : byRef G 43 = false := by decide +kernel
@[simp] theorem ln_43 : lone G 43 = false := by decide +kernel
@[simp] theorem th_43 : thaws G 43 = false := by decide +kernel
@[simp] theorem br_44 : byRef G 44 = false := by decide +kernel
theorem sp_44 : splits G 44 = false := by decide +kernel
@[simp] theorem ln_44 : lone G 44 = false := by decide +kernel
@[simp] theorem th_44 : thaws G 44 = false := by decide +kernel
@[simp] theorem br_45 : byRef G 45 = false := by decide +kernel
theorem sp_45 : splits G 45 = false := by decide +kernel
@[simp] theorem ln_45 : lone G 45 = false := by decide +kernel
@[simp] theorem th_45 : thaws G 45 = false := by decide +kernel
@[simp] theorem br_46 : byRef G 46 = false := by decide +kernel
theorem sp_46 : splits G 46 = false := by decide +kernel
@[simp] theorem ln_46 : lone G 46 = false := by decide +kernel
@[simp] theorem th_46 : thaws G 46 = false := by decide +kernel
@[simp] theorem br_47 : byRef G 47 = false := by decide +kernel
theorem sp_47 : splits G 47 = false := by decide +kernel
@[simp] theorem ln_47 : lone G 47 = false := by decide +kernel
@[simp] theorem th_47 : thaws G 47 = false := by decide +kernel
@[simp] theorem br_48 : byRef G 48 = false := by decide +kernel
theorem sp_48 : splits G 48 = false := by decide +kernel
@[simp] theorem ln_48 : lone G 48 = false := by decide +kernel
@[simp] theorem th_48 : thaws G 48 = false := by decide +kernel
@[simp] theorem br_49 : byRef G 49 = false := by decide +kernel
theorem sp_49 : splits G 49 = false := by decide +kernel
@[simp] theorem ln_49 : lone G 49 = false := by decide +kernel
@[simp] theorem th_49 : thaws G 49 = false := by decide +kernel
@[simp] theorem br_50 : byRef G 50 = false := by decide +kernel
theorem so_50 : sorts G 50 = 5 := by decide +kernel
@[simp] theorem ln_50 : lone G 50 = false := by decide +kernel
@[simp] theorem th_50 : thaws G 50 = false := by decide +kernel
@[simp] theorem ln_51 : lone G 51 = false := by decide +kernel
@[simp] theorem ln_52 : lone G 52 = false := by decide +kernel
@[simp] theorem ln_53 : lone G 53 = false := by decide +kernel
@[simp] theorem ln_54 : lone G 54 = false := by decide +kernel
@[simp] theorem ln_55 : lone G 55 = false := by decide +kernel
@[simp] theorem ln_56 : lone G 56 = false := by decide +kernel
@[simp] theorem ln_57 : lone G 57 = false := by decide +kernel
@[simp] theorem ln_58 : lone G 58 = false := by decide +kernel
@[simp] theorem ln_59 : lone G 59 = false := by decide +kernel
@[simp] theorem ln_60 : lone G 60 = false := by decide +kernel
@[simp] theorem ln_61 : lone G 61 = false := by decide +kernel
@[simp] theorem ln_62 : lone G 62 = false := by decide +kernel
@[simp] theorem ln_63 : lone G 63 = false := by decide +kernel
@[simp] theorem ln_64 : lone G 64 = false := by decide +kernel
@[simp] theorem ln_65 : lone G 65 = false := by decide +kernel
@[simp] theorem ln_66 : lone G 66 = false := by decide +kernel
@[simp] theorem ln_67 : lone G 67 = false := by decide +kernel
@[simp] theorem ln_68 : lone G 68 = false := by decide +kernel
@[simp] theorem ln_69 : lone G 69 = false := by decide +kernel
@[simp] theorem ln_70 : lone G 70 = false := by decide +kernel
@[simp] theorem ln_71 : lone G 71 = false := by decide +kernel
@[simp] theorem ln_72 : lone G 72 = false := by decide +kernel
@[simp] theorem ln_73 : lone G 73 = false := by decide +kernel
@[simp] theorem ln_74 : lone G 74 = false := by decide +kernel
@[simp] theorem ln_75 : lone G 75 = false := by decide +kernel
@[simp] theorem ln_76 : lone G 76 = false := by decide +kernel
@[simp] theorem ln_77 : lone G 77 = false := by decide +kernel
@[simp] theorem ln_78 : lone G 78 = false := by decide +kernel
@[simp] theorem ln_79 : lone G 79 = false := by decide +kernel
@[simp] theorem ln_80 : lone G 80 = false := by decide +kernel
@[simp] theorem ln_81 : lone G 81 = false := by decide +kernel
@[simp] theorem br_82 : byRef G 82 = false := by decide +kernel
@[simp] theorem ln_82 : lone G 82 = false := by decide +kernel
@[simp] theorem th_82 : thaws G 82 = false := by decide +kernel
@[simp] theorem br_83 : byRef G 83 = false := by decide +kernel
@[simp] theorem ln_83 : lone G 83 = false := by decide +kernel
@[simp] theorem th_83 : thaws G 83 = false := by decide +kernel
@[simp] theorem br_84 : byRef G 84 = false := by decide +kernel
@[simp] theorem ln_84 : lone G 84 = false := by decide +kernel
@[simp] theorem th_84 : thaws G 84 = false := by decide +kernel
@[simp] theorem br_85 : byRef G 85 = false := by decide +kernel
@[simp] theorem ln_85 : lone G 85 = false := by decide +kernel
@[simp] theorem th_85 : thaws G 85 = false := by decide +kernel
@[simp] theorem br_86 : byRef G 86 = false := by decide +kernel
theorem sp_86 : splits G 86 = false := by decide +kernel
@[simp] theorem ln_86 : lone G 86 = false := by decide +kernel
@[simp] theorem th_86 : thaws G 86 = false := by decide +kernel
@[simp] theorem br_87 : byRef G 87 = false := by decide +kernel
@[simp] theorem ln_87 : lone G 87 = false := by decide +kernel
@[simp] theorem th_87 : thaws G 87 = false := by decide +kernel
@[simp] theorem br_88 : byRef G 88 = false := by decide +kernel
@[simp] theorem ln_88 : lone G 88 = false := by decide +kernel
@[simp] theorem th_88 : thaws G 88 = false := by decide +kernel
@[simp] theorem br_89 : byRef G 89 = false := by decide +kernel
@[simp] theorem ln_89 : lone G 89 = false := by decide +kernel
@[simp] theorem th_89 : thaws G 89 = false := by decide +kernel
@[simp] theorem br_90 : byRef G 90 = false := by decide +kernel
theorem sp_90 : splits G 90 = false := by decide +kernel
@[simp] theorem ln_90 : lone G 90 = false := by decide +kernel
@[simp] theorem th_90 : thaws G 90 = false := by decide +kernel
@[simp] theorem br_91 : byRef G 91 = false := by decide +kernel
theorem sp_91 : splits G 91 = false := by decide +kernel
@[simp] theorem ln_91 : lone G 91 = false := by decide +kernel
@[simp] theorem th_91 : thaws G 91 = false := by decide +kernel
@[simp] theorem br_92 : byRef G 92 = false := by decide +kernel
theorem so_92 : sorts G 92 = 8 := by decide +kernel
@[simp] theorem ln_92 : lone G 92 = false := by decide +kernel
@[simp] theorem th_92 : thaws G 92 = false := by decide +kernel
@[simp] theorem br_93 : byRef G 93 = false := by decide +kernel
@[simp] theorem ln_93 : lone G 93 = false := by decide +kernel
@[simp] theorem th_93 : thaws G 93 = false := by decide +kernel
@[simp] theorem ln_94 : lone G 94 = false := by decide +kernel
@[simp] theorem ln_95 : lone G 95 = false := by decide +kernel
@[simp] theorem ln_96 : lone G 96 = false := by decide +kernel
@[simp] theorem ln_97 : lone G 97 = false := by decide +kernel
@[simp] theorem ln_98 : lone G 98 = false := by decide +kernel
@[simp] theorem ln_99 : lone G 99 = false := by decide +kernel
@[simp] theorem ln_100 : lone G 100 = false := by decide +kernel
@[simp] theorem ln_101 : lone G 101 = false := by decide +kernel
@[simp] theorem ln_102 : lone G 102 = false := by decide +kernel
@[simp] theorem ln_103 : lone G 103 = false := by decide +kernel
@[simp] theorem ln_104 : lone G 104 = false := by decide +kernel
@[simp] theorem ln_105 : lone G 105 = false := by decide +kernel
@[simp] theorem ln_106 : lone G 106 = false := by decide +kernel
theorem so_107 : sorts G 107 = 101 := by decide +kernel
@[simp] theorem ln_107 : lone G 107 = false := by decide +kernel
@[simp] theorem ln_108 : lone G 108 = false := by decide +kernel
@[simp] theorem ln_109 : lone G 109 = false := by decide +kernel
@[simp] theorem ln_110 : lone G 110 = false := by decide +kernel
@[simp] theorem ln_111 : lone G 111 = false := by decide +kernel
@[simp] theorem ln_112 : lone G 112 = false := by decide +kernel
@[simp] theorem ln_113 : lone G 113 = false := by decide +kernel
@[simp] theorem ln_114 : lone G 114 = false := by decide +kernel
@[simp] theorem ln_115 : lone G 115 = false := by decide +kernel
@[simp] theorem ln_116 : lone G 116 = false := by decide +kernel
@[simp] theorem ln_117 : lone G 117 = false := by decide +kernel
@[simp] theorem ln_118 : lone G 118 = false := by decide +kernel
@[simp] theorem ln_119 : lone G 119 = false := by decide +kernel
@[simp] theorem ln_120 : lone G 120 = false := by decide +kernel
@[simp] theorem ln_121 : lone G 121 = false := by decide +kernel
@[simp] theorem ln_122 : lone G 122 = true := by decide +kernel
@[simp] theorem ln_123 : lone G 123 = false := by decide +kernel
@[simp] theorem ln_124 : lone G 124 = false := by decide +kernel
@[simp] theorem ln_125 : lone G 125 = false := by decide +kernel
@[simp] theorem ln_126 : lone G 126 = false := by decide +kernel
@[simp] theorem ln_127 : lone G 127 = false := by decide +kernel
@[simp] theorem ln_128 : lone G 128 = false := by decide +kernel
@[simp] theorem br_129 : byRef G 129 = false := by decide +kernel
@[simp] theorem ln_129 : lone G 129 = false := by decide +kernel
@[simp] theorem th_129 : thaws G 129 = false := by decide +kernel
@[simp] theorem br_130 : byRef G 130 = false := by decide +kernel
@[simp] theorem ln_130 : lone G 130 = false := by decide +kernel
@[simp] theorem th_130 : thaws G 130 = false := by decide +kernel
@[simp] theorem br_131 : byRef G 131 = false := by decide +kernel
@[simp] theorem ln_131 : lone G 131 = false := by decide +kernel
@[simp] theorem th_131 : thaws G 131 = false := by decide +kernel
@[simp] theorem br_132 : byRef G 132 = false := by decide +kernel
@[simp] theorem ln_132 : lone G 132 = false := by decide +kernel
@[simp] theorem th_132 : thaws G 132 = false := by decide +kernel
@[simp] theorem br_133 : byRef G 133 = false := by decide +kernel
@[simp] theorem ln_133 : lone G 133 = false := by decide +kernel
@[simp] theorem th_133 : thaws G 133 = false := by decide +kernel
@[simp] theorem br_134 : byRef G 134 = false := by decide +kernel
@[simp] theorem ln_134 : lone G 134 = false := by decide +kernel
@[simp] theorem th_134 : thaws G 134 = false := by decide +kernel
@[simp] theorem br_135 : byRef G 135 = false := by decide +kernel
@[simp] theorem ln_135 : lone G 135 = false := by decide +kernel
@[simp] theorem th_135 : thaws G 135 = false := by decide +kernel
@[simp] theorem br_136 : byRef G 136 = false := by decide +kernel
@[simp] theorem ln_136 : lone G 136 = false := by decide +kernel
@[simp] theorem th_136 : thaws G 136 = false := by decide +kernel
@[simp] theorem br_138 : byRef G 138 = false := by decide +kernel
@[simp] theorem ln_138 : lone G 138 = false := by decide +kernel
@[simp] theorem th_138 : thaws G 138 = false := by decide +kernel
@[simp] theorem br_139 : byRef G 139 = false := by decide +kernel
theorem sp_139 : splits G 139 = false := by decide +kernel
@[simp] theorem ln_139 : lone G 139 = false := by decide +kernel
@[simp] theorem th_139 : thaws G 139 = false := by decide +kernel
@[simp] theorem br_140 : byRef G 140 = false := by decide +kernel
theorem sp_140 : splits G 140 = false := by decide +kernel
@[simp] theorem ln_140 : lone G 140 = false := by decide +kernel
@[simp] theorem th_140 : thaws G 140 = false := by decide +kernel
@[simp] theorem br_141 : byRef G 141 = false := by decide +kernel
@[simp] theorem ln_141 : lone G 141 = false := by decide +kernel
@[simp] theorem th_141 : thaws G 141 = false := by decide +kernel
@[simp] theorem br_142 : byRef G 142 = false := by decide +kernel
@[simp] theorem ln_142 : lone G 142 = false := by decide +kernel
@[simp] theorem th_142 : thaws G 142 = false := by decide +kernel
@[simp] theorem br_143 : byRef G 143 = true := by decide +kernel
theorem so_143 : sorts G 143 = 100 := by decide +kernel
@[simp] theorem ln_143 : lone G 143 = false := by decide +kernel
@[simp] theorem th_143 : thaws G 143 = false := by decide +kernel
@[simp] theorem ln_144 : lone G 144 = false := by decide +kernel
@[simp] theorem ln_145 : lone G 145 = false := by decide +kernel
@[simp] theorem br_146 : byRef G 146 = false := by decide +kernel
@[simp] theorem ln_146 : lone G 146 = false := by decide +kernel
@[simp] theorem th_146 : thaws G 146 = false := by decide +kernel
@[simp] theorem ln_147 : lone G 147 = false := by decide +kernel
@[simp] theorem ln_148 : lone G 148 = false := by decide +kernel
@[simp] theorem ln_149 : lone G 149 = false := by decide +kernel
@[simp] theorem ln_150 : lone G 150 = false := by decide +kernel
@[simp] theorem ln_151 : lone G 151 = false := by decide +kernel
@[simp] theorem ln_152 : lone G 152 = false := by decide +kernel
@[simp] theorem ln_153 : lone G 153 = false := by decide +kernel
@[simp] theorem ln_154 : lone G 154 = false := by decide +kernel
@[simp] theorem ln_155 : lone G 155 = false := by decide +kernel
@[simp] theorem br_156 : byRef G 156 = false := by decide +kernel
@[simp] theorem ln_156 : lone G 156 = false := by decide +kernel
@[simp] theorem th_156 : thaws G 156 = false := by decide +kernel
@[simp] theorem ln_157 : lone G 157 = false := by decide +kernel
@[simp] theorem ln_158 : lone G 158 = false := by decide +kernel
@[simp] theorem ln_159 : lone G 159 = false := by decide +kernel
@[simp] theorem ln_160 : lone G 160 = false := by decide +kernel
@[simp] theorem ln_161 : lone G 161 = false := by decide +kernel
@[simp] theorem ln_162 : lone G 162 = false := by decide +kernel
@[simp] theorem ln_163 : lone G 163 = false := by decide +kernel
@[simp] theorem ln_164 : lone G 164 = false := by decide +kernel
@[simp] theorem br_165 : byRef G 165 = false := by decide +kernel
@[simp] theorem ln_165 : lone G 165 = false := by decide +kernel
@[simp] theorem th_165 : thaws G 165 = false := by decide +kernel
@[simp] theorem br_166 : byRef G 166 = false := by decide +kernel
@[simp] theorem ln_166 : lone G 166 = false := by decide +kernel
@[simp] theorem th_166 : thaws G 166 = false := by decide +kernel
@[simp] theorem ln_167 : lone G 167 = false := by decide +kernel
@[simp] theorem ln_168 : lone G 168 = false := by decide +kernel
@[simp] theorem br_169 : byRef G 169 = false := by decide +kernel
@[simp] theorem ln_169 : lone G 169 = false := by decide +kernel
@[simp] theorem th_169 : thaws G 169 = false := by decide +kernel
@[simp] theorem ln_170 : lone G 170 = false := by decide +kernel
@[simp] theorem br_171 : byRef G 171 = false := by decide +kernel
@[simp] theorem ln_171 : lone G 171 = false := by decide +kernel
@[simp] theorem th_171 : thaws G 171 = false := by decide +kernel
@[simp] theorem br_172 : byRef G 172 = false := by decide +kernel
@[simp] theorem ln_172 : lone G 172 = false := by decide +kernel
@[simp] theorem th_172 : thaws G 172 = false := by decide +kernel
@[simp] theorem br_173 : byRef G 173 = false := by decide +kernel
@[simp] theorem ln_173 : lone G 173 = false := by decide +kernel
@[simp] theorem th_173 : thaws G 173 = false := by decide +kernel
@[simp] theorem ln_174 : lone G 174 = false := by decide +kernel
@[simp] theorem ln_175 : lone G 175 = false := by decide +kernel
@[simp] theorem ln_176 : lone G 176 = false := by decide +kernel
@[simp] theorem ln_177 : lone G 177 = false := by decide +kernel
@[simp] theorem ln_178 : lone G 178 = false := by decide +kernel
@[simp] theorem ln_179 : lone G 179 = false := by decide +kernel
@[simp] theorem ln_180 : lone G 180 = false := by decide +kernel
@[simp] theorem ln_181 : lone G 181 = false := by decide +kernel
@[simp] theorem ln_182 : lone G 182 = false := by decide +kernel
@[simp] theorem ln_183 : lone G 183 = false := by decide +kernel
@[simp] theorem ln_184 : lone G 184 = false := by decide +kernel
@[simp] theorem ln_185 : lone G 185 = false := by decide +kernel
@[simp] theorem ln_186 : lone G 186 = false := by decide +kernel
@[simp] theorem ln_187 : lone G 187 = false := by decide +kernel
@[simp] theorem ln_188 : lone G 188 = false := by decide +kernel
@[simp] theorem ln_189 : lone G 189 = false := by decide +kernel
@[simp] theorem ln_190 : lone G 190 = false := by decide +kernel
@[simp] theorem ln_191 : lone G 191 = false := by decide +kernel
@[simp] theorem ln_192 : lone G 192 = false := by decide +kernel
@[simp] theorem ln_193 : lone G 193 = false := by decide +kernel
@[simp] theorem ln_194 : lone G 194 = false := by decide +kernel
@[simp] theorem br_195 : byRef G 195 = false := by decide +kernel
@[simp] theorem ln_195 : lone G 195 = false := by decide +kernel
@[simp] theorem th_195 : thaws G 195 = false := by decide +kernel
@[simp] theorem ln_196 : lone G 196 = false := by decide +kernel
@[simp] theorem br_197 : byRef G 197 = false := by decide +kernel
@[simp] theorem ln_197 : lone G 197 = false := by decide +kernel
@[simp] theorem th_197 : thaws G 197 = false := by decide +kernel
@[simp] theorem ln_198 : lone G 198 = false := by decide +kernel
@[simp] theorem br_199 : byRef G 199 = false := by decide +kernel
@[simp] theorem ln_199 : lone G 199 = false := by decide +kernel
@[simp] theorem th_199 : thaws G 199 = false := by decide +kernel
@[simp] theorem br_200 : byRef G 200 = false := by decide +kernel
@[simp] theorem ln_200 : lone G 200 = false := by decide +kernel
@[simp] theorem th_200 : thaws G 200 = false := by decide +kernel
@[simp] theorem br_201 : byRef G 201 = false := by decide +kernel
@[simp] theorem ln_201 : lone G 201 = false := by decide +kernel
@[simp] theorem th_201 : thaws G 201 = false := by decide +kernel
@[simp] theorem br_202 : byRef G 202 = false := by decide +kernel
@[simp] theorem ln_202 : lone G 202 = false := by decide +kernel
@[simp] theorem th_202 : thaws G 202 = false := by decide +kernel
@[simp] theorem br_203 : byRef G 203 = false := by decide +kernel
@[simp] theorem ln_203 : lone G 203 = false := by decide +kernel
@[simp] theorem th_203 : thaws G 203 = false := by decide +kernel
@[simp] theorem br_206 : byRef G 206 = false := by decide +kernel
@[simp] theorem ln_206 : lone G 206 = false := by decide +kernel
@[simp] theorem th_206 : thaws G 206 = false := by decide +kernel
@[simp] theorem br_207 : byRef G 207 = false := by decide +kernel
@[simp] theorem ln_207 : lone G 207 = false := by decide +kernel
@[simp] theorem th_207 : thaws G 207 = false := by decide +kernel
@[simp] theorem br_209 : byRef G 209 = false := by decide +kernel
@[simp] theorem ln_209 : lone G 209 = false := by decide +kernel
@[simp] theorem th_209 : thaws G 209 = false := by decide +kernel
@[simp] theorem br_210 : byRef G 210 = false := by decide +kernel
@[simp] theorem ln_210 : lone G 210 = false := by decide +kernel
@[simp] theorem th_210 : thaws G 210 = false := by decide +kernel
@[simp] theorem br_211 : byRef G 211 = false := by decide +kernel
@[simp] theorem ln_211 : lone G 211 = false := by decide +kernel
@[simp] theorem th_211 : thaws G 211 = false := by decide +kernel
@[simp] theorem br_212 : byRef G 212 = false := by decide +kernel
@[simp] theorem ln_212 : lone G 212 = false := by decide +kernel
@[simp] theorem th_212 : thaws G 212 = false := by decide +kernel
@[simp] theorem br_213 : byRef G 213 = false := by decide +kernel
@[simp] theorem ln_213 : lone G 213 = false := by decide +kernel
@[simp] theorem th_213 : thaws G 213 = false := by decide +kernel
@[simp] theorem br_214 : byRef G 214 = false := by decide +kernel
@[simp] theorem ln_214 : lone G 214 = false := by decide +kernel
@[simp] theorem th_214 : thaws G 214 = false := by decide +kernel
@[simp] theorem br_215 : byRef G 215 = false := by decide +kernel
@[simp] theorem ln_215 : lone G 215 = false := by decide +kernel
@[simp] theorem th_215 : thaws G 215 = false := by decide +kernel
@[simp] theorem br_216 : byRef G 216 = false := by decide +kernel
@[simp] theorem ln_216 : lone G 216 = false := by decide +kernel
@[simp] theorem th_216 : thaws G 216 = false := by decide +kernel
@[simp] theorem br_217 : byRef G 217 = true := by decide +kernel
theorem so_217 : sorts G 217 = 2 := by decide +kernel
@[simp] theorem ln_217 : lone G 217 = false := by decide +kernel
@[simp] theorem th_217 : thaws G 217 = false := by decide +kernel
@[simp] theorem br_218 : byRef G 218 = false := by decide +kernel
@[simp] theorem ln_218 : lone G 218 = false := by decide +kernel
@[simp] theorem th_218 : thaws G 218 = false := by decide +kernel
@[simp] theorem br_219 : byRef G 219 = false := by decide +kernel
@[simp] theorem ln_219 : lone G 219 = false := by decide +kernel
@[simp] theorem th_219 : thaws G 219 = false := by decide +kernel
@[simp] theorem ln_220 : lone G 220 = false := by decide +kernel
@[simp] theorem br_221 : byRef G 221 = false := by decide +kernel
@[simp] theorem ln_221 : lone G 221 = false := by decide +kernel
@[simp] theorem th_221 : thaws G 221 = false := by decide +kernel
@[simp] theorem ln_222 : lone G 222 = false := by decide +kernel
@[simp] theorem ln_223 : lone G 223 = false := by decide +kernel
@[simp] theorem br_224 : byRef G 224 = false := by decide +kernel
@[simp] theorem ln_224 : lone G 224 = false := by decide +kernel
@[simp] theorem th_224 : thaws G 224 = true := by decide +kernel
@[simp] theorem br_225 : byRef G 225 = false := by decide +kernel
@[simp] theorem ln_225 : lone G 225 = false := by decide +kernel
@[simp] theorem th_225 : thaws G 225 = false := by decide +kernel
@[simp] theorem ln_226 : lone G 226 = false := by decide +kernel
@[simp] theorem ln_227 : lone G 227 = false := by decide +kernel
@[simp] theorem ln_228 : lone G 228 = false := by decide +kernel
@[simp] theorem ln_229 : lone G 229 = false := by decide +kernel
@[simp] theorem ln_230 : lone G 230 = false := by decide +kernel
@[simp] theorem ln_231 : lone G 231 = false := by decide +kernel
@[simp] theorem ln_232 : lone G 232 = false := by decide +kernel
@[simp] theorem ln_233 : lone G 233 = true := by decide +kernel
@[simp] theorem br_234 : byRef G 234 = false := by decide +kernel
@[simp] theorem ln_234 : lone G 234 = false := by decide +kernel
@[simp] theorem th_234 : thaws G 234 = false := by decide +kernel
@[simp] theorem ln_235 : lone G 235 = false := by decide +kernel
@[simp] theorem br_236 : byRef G 236 = false := by decide +kernel
@[simp] theorem ln_236 : lone G 236 = false := by decide +kernel
@[simp] theorem th_236 : thaws G 236 = false := by decide +kernel
@[simp] theorem ln_237 : lone G 237 = false := by decide +kernel
@[simp] theorem ln_238 : lone G 238 = false := by decide +kernel
@[simp] theorem ln_239 : lone G 239 = false := by decide +kernel
@[simp] theorem br_240 : byRef G 240 = false := by decide +kernel
@[simp] theorem ln_240 : lone G 240 = false := by decide +kernel
@[simp] theorem th_240 : thaws G 240 = false := by decide +kernel
@[simp] theorem br_241 : byRef G 241 = false := by decide +kernel
@[simp] theorem ln_241 : lone G 241 = false := by decide +kernel
@[simp] theorem th_241 : thaws G 241 = false := by decide +kernel
@[simp] theorem ln_242 : lone G 242 = false := by decide +kernel
@[simp] theorem br_243 : byRef G 243 = false := by decide +kernel
@[simp] theorem ln_243 : lone G 243 = false := by decide +kernel
@[simp] theorem th_243 : thaws G 243 = false := by decide +kernel
@[simp] theorem br_244 : byRef G 244 = false := by decide +kernel
@[simp] theorem ln_244 : lone G 244 = false := by decide +kernel
@[simp] theorem th_244 : thaws G 244 = false := by decide +kernel
@[simp] theorem br_245 : byRef G 245 = false := by decide +kernel
@[simp] theorem ln_245 : lone G 245 = false := by decide +kernel
@[simp] theorem th_245 : thaws G 245 = false := by decide +kernel
@[simp] theorem br_246 : byRef G 246 = true := by decide +kernel
@[simp] theorem ln_246 : lone G 246 = false := by decide +kernel
@[simp] theorem th_246 : thaws G 246 = false := by decide +kernel
@[simp] theorem br_247 : byRef G 247 = false := by decide +kernel
@[simp] theorem ln_247 : lone G 247 = false := by decide +kernel
@[simp] theorem th_247 : thaws G 247 = false := by decide +kernel
@[simp] theorem ln_248 : lone G 248 = false := by decide +kernel
@[simp] theorem ln_249 : lone G 249 = false := by decide +kernel
@[simp] theorem ln_250 : lone G 250 = false := by decide +kernel
@[simp] theorem ln_251 : lone G 251 = false := by decide +kernel
@[simp] theorem ln_252 : lone G 252 = false := by decide +kernel
@[simp] theorem ln_253 : lone G 253 = false := by decide +kernel
@[simp] theorem ln_254 : lone G 254 = false := by decide +kernel
@[simp] theorem ln_255 : lone G 255 = false := by decide +kernel
@[simp] theorem ln_256 : lone G 256 = false := by decide +kernel
@[simp] theorem ln_257 : lone G 257 = false := by decide +kernel
@[simp] theorem ln_258 : lone G 258 = false := by decide +kernel
@[simp] theorem ln_259 : lone G 259 = false := by decide +kernel
@[simp] theorem br_260 : byRef G 260 = false := by decide +kernel
@[simp] theorem ln_260 : lone G 260 = false := by decide +kernel
@[simp] theorem th_260 : thaws G 260 = false := by decide +kernel
@[simp] theorem ln_261 : lone G 261 = false := by decide +kernel
@[simp] theorem ln_262 : lone G 262 = false := by decide +kernel
@[simp] theorem ln_263 : lone G 263 = false := by decide +kernel
@[simp] theorem ln_264 : lone G 264 = false := by decide +kernel
@[simp] theorem ln_265 : lone G 265 = false := by decide +kernel
@[simp] theorem br_266 : byRef G 266 = false := by decide +kernel
@[simp] theorem ln_266 : lone G 266 = false := by decide +kernel
@[simp] theorem th_266 : thaws G 266 = false := by decide +kernel
@[simp] theorem br_267 : byRef G 267 = false := by decide +kernel
@[simp] theorem ln_267 : lone G 267 = false := by decide +kernel
@[simp] theorem th_267 : thaws G 267 = false := by decide +kernel
@[simp] theorem br_268 : byRef G 268 = false := by decide +kernel
@[simp] theorem ln_268 : lone G 268 = false := by decide +kernel
@[simp] theorem th_268 : thaws G 268 = false := by decide +kernel
@[simp] theorem ln_269 : lone G 269 = false := by decide +kernel
@[simp] theorem ln_270 : lone G 270 = false := by decide +kernel
@[simp] theorem ln_271 : lone G 271 = false := by decide +kernel
@[simp] theorem ln_272 : lone G 272 = false := by decide +kernel
@[simp] theorem ln_273 : lone G 273 = false := by decide +kernel
@[simp] theorem ln_274 : lone G 274 = false := by decide +kernel
@[simp] theorem ln_275 : lone G 275 = false := by decide +kernel
@[simp] theorem br_276 : byRef G 276 = false := by decide +kernel
@[simp] theorem ln_276 : lone G 276 = false := by decide +kernel
@[simp] theorem th_276 : thaws G 276 = false := by decide +kernel
@[simp] theorem br_277 : byRef G 277 = false := by decide +kernel
@[simp] theorem ln_277 : lone G 277 = false := by decide +kernel
@[simp] theorem th_277 : thaws G 277 = false := by decide +kernel
@[simp] theorem ln_278 : lone G 278 = false := by decide +kernel
@[simp] theorem br_279 : byRef G 279 = false := by decide +kernel
@[simp] theorem ln_279 : lone G 279 = false := by decide +kernel
@[simp] theorem th_279 : thaws G 279 = false := by decide +kernel
@[simp] theorem br_280 : byRef G 280 = false := by decide +kernel
@[simp] theorem ln_280 : lone G 280 = false := by decide +kernel
@[simp] theorem th_280 : thaws G 280 = false := by decide +kernel
@[simp] theorem br_281 : byRef G 281 = false := by decide +kernel
@[simp] theorem ln_281 : lone G 281 = false := by decide +kernel
@[simp] theorem th_281 : thaws G 281 = false := by decide +kernel
@[simp] theorem br_282 : byRef G 282 = false := by decide +kernel
@[simp] theorem ln_282 : lone G 282 = false := by decide +kernel
@[simp] theorem th_282 : thaws G 282 = false := by decide +kernel
@[simp] theorem br_283 : byRef G 283 = false := by decide +kernel
@[simp] theorem ln_283 : lone G 283 = false := by decide +kernel
@[simp] theorem th_283 : thaws G 283 = false := by decide +kernel
@[simp] theorem br_284 : byRef G 284 = false := by decide +kernel
@[simp] theorem ln_284 : lone G 284 = false := by decide +kernel
@[simp] theorem th_284 : thaws G 284 = false := by decide +kernel
@[simp] theorem br_285 : byRef G 285 = false := by decide +kernel
@[simp] theorem ln_285 : lone G 285 = false := by decide +kernel
@[simp] theorem th_285 : thaws G 285 = false := by decide +kernel
@[simp] theorem br_286 : byRef G 286 = false := by decide +kernel
@[simp] theorem ln_286 : lone G 286 = false := by decide +kernel
@[simp] theorem th_286 : thaws G 286 = false := by decide +kernel
@[simp] theorem br_287 : byRef G 287 = false := by decide +kernel
@[simp] theorem ln_287 : lone G 287 = false := by decide +kernel
@[simp] theorem th_287 : thaws G 287 = false := by decide +kernel
@[simp] theorem ln_288 : lone G 288 = false := by decide +kernel
@[simp] theorem ln_289 : lone G 289 = false := by decide +kernel
@[simp] theorem ln_290 : lone G 290 = false := by decide +kernel
@[simp] theorem ln_291 : lone G 291 = false := by decide +kernel
@[simp] theorem ln_292 : lone G 292 = false := by decide +kernel
@[simp] theorem ln_293 : lone G 293 = false := by decide +kernel
@[simp] theorem ln_294 : lone G 294 = false := by decide +kernel
@[simp] theorem ln_295 : lone G 295 = false := by decide +kernel
@[simp] theorem ln_296 : lone G 296 = false := by decide +kernel
@[simp] theorem ln_297 : lone G 297 = false := by decide +kernel
@[simp] theorem ln_298 : lone G 298 = false := by decide +kernel
@[simp] theorem ln_299 : lone G 299 = false := by decide +kernel
@[simp] theorem ln_300 : lone G 300 = false := by decide +kernel
@[simp] theorem ln_301 : lone G 301 = false := by decide +kernel
@[simp] theorem ln_302 : lone G 302 = false := by decide +kernel
@[simp] theorem ln_303 : lone G 303 = false := by decide +kernel
@[simp] theorem ln_304 : lone G 304 = false := by decide +kernel
@[simp] theorem br_305 : byRef G 305 = false := by decide +kernel
@[simp] theorem ln_305 : lone G 305 = false := by decide +kernel
@[simp] theorem th_305 : thaws G 305 = false := by decide +kernel
@[simp] theorem br_306 : byRef G 306 = false := by decide +kernel
@[simp] theorem ln_306 : lone G 306 = false := by decide +kernel
@[simp] theorem th_306 : thaws G 306 = false := by decide +kernel
@[simp] theorem br_308 : byRef G 308 = false := by decide +kernel
@[simp] theorem ln_308 : lone G 308 = false := by decide +kernel
@[simp] theorem th_308 : thaws G 308 = false := by decide +kernel
@[simp] theorem br_309 : byRef G 309 = false := by decide +kernel
@[simp] theorem ln_309 : lone G 309 = false := by decide +kernel
@[simp] theorem th_309 : thaws G 309 = false := by decide +kernel
@[simp] theorem br_310 : byRef G 310 = false := by decide +kernel
@[simp] theorem ln_310 : lone G 310 = false := by decide +kernel
@[simp] theorem th_310 : thaws G 310 = false := by decide +kernel
@[simp] theorem br_311 : byRef G 311 = false := by decide +kernel
@[simp] theorem ln_311 : lone G 311 = false := by decide +kernel
@[simp] theorem th_311 : thaws G 311 = false := by decide +kernel
@[simp] theorem br_312 : byRef G 312 = false := by decide +kernel
@[simp] theorem ln_312 : lone G 312 = false := by decide +kernel
@[simp] theorem th_312 : thaws G 312 = false := by decide +kernel
@[simp] theorem br_313 : byRef G 313 = true := by decide +kernel
@[simp] theorem ln_313 : lone G 313 = false := by decide +kernel
@[simp] theorem th_313 : thaws G 313 = false := by decide +kernel
@[simp] theorem br_314 : byRef G 314 = true := by decide +kernel
@[simp] theorem ln_314 : lone G 314 = false := by decide +kernel
@[simp] theorem th_314 : thaws G 314 = false := by decide +kernel
@[simp] theorem ln_315 : lone G 315 = false := by decide +kernel
@[simp] theorem br_316 : byRef G 316 = false := by decide +kernel
@[simp] theorem ln_316 : lone G 316 = false := by decide +kernel
@[simp] theorem th_316 : thaws G 316 = false := by decide +kernel
@[simp] theorem br_317 : byRef G 317 = false := by decide +kernel
@[simp] theorem ln_317 : lone G 317 = false := by decide +kernel
@[simp] theorem th_317 : thaws G 317 = false := by decide +kernel
@[simp] theorem br_318 : byRef G 318 = false := by decide +kernel
@[simp] theorem ln_318 : lone G 318 = false := by decide +kernel
@[simp] theorem th_318 : thaws G 318 = false := by decide +kernel
@[simp] theorem br_319 : byRef G 319 = false := by decide +kernel
@[simp] theorem ln_319 : lone G 319 = false := by decide +kernel
@[simp] theorem th_319 : thaws G 319 = false := by decide +kernel
@[simp] theorem br_320 : byRef G 320 = true := by decide +kernel
@[simp] theorem ln_320 : lone G 320 = false := by decide +kernel
@[simp] theorem th_320 : thaws G 320 = false := by decide +kernel
@[simp] theorem br_321 : byRef G 321 = true := by decide +kernel
@[simp] theorem ln_321 : lone G 321 = false := by decide +kernel
@[simp] theorem th_321 : thaws G 321 = false := by decide +kernel
@[simp] theorem br_322 : byRef G 322 = true := by decide +kernel
@[simp] theorem ln_322 : lone G 322 = false := by decide +kernel
@[simp] theorem th_322 : thaws G 322 = false := by decide +kernel
@[simp] theorem ln_323 : lone G 323 = false := by decide +kernel
@[simp] theorem ln_324 : lone G 324 = false := by decide +kernel
@[simp] theorem ln_325 : lone G 325 = false := by decide +kernel
@[simp] theorem ln_326 : lone G 326 = false := by decide +kernel
@[simp] theorem ln_327 : lone G 327 = false := by decide +kernel
@[simp] theorem br_328 : byRef G 328 = false := by decide +kernel
@[simp] theorem ln_328 : lone G 328 = false := by decide +kernel
@[simp] theorem th_328 : thaws G 328 = false := by decide +kernel
@[simp] theorem ln_329 : lone G 329 = false := by decide +kernel
@[simp] theorem br_330 : byRef G 330 = false := by decide +kernel
@[simp] theorem ln_330 : lone G 330 = false := by decide +kernel
@[simp] theorem th_330 : thaws G 330 = false := by decide +kernel
@[simp] theorem ln_331 : lone G 331 = false := by decide +kernel
@[simp] theorem br_332 : byRef G 332 = false := by decide +kernel
@[simp] theorem ln_332 : lone G 332 = false := by decide +kernel
@[simp] theorem th_332 : thaws G 332 = false := by decide +kernel
@[simp] theorem ln_333 : lone G 333 = false := by decide +kernel
@[simp] theorem ln_334 : lone G 334 = false := by decide +kernel
@[simp] theorem ln_335 : lone G 335 = false := by decide +kernel
@[simp] theorem ln_336 : lone G 336 = false := by decide +kernel
@[simp] theorem br_337 : byRef G 337 = false := by decide +kernel
@[simp] theorem ln_337 : lone G 337 = false := by decide +kernel
@[simp] theorem th_337 : thaws G 337 = false := by decide +kernel
@[simp] theorem br_338 : byRef G 338 = true := by decide +kernel
@[simp] theorem ln_338 : lone G 338 = false := by decide +kernel
@[simp] theorem th_338 : thaws G 338 = false := by decide +kernel
@[simp] theorem ln_339 : lone G 339 = false := by decide +kernel
@[simp] theorem ln_340 : lone G 340 = false := by decide +kernel
@[simp] theorem ln_341 : lone G 341 = false := by decide +kernel
@[simp] theorem ln_342 : lone G 342 = false := by decide +kernel
@[simp] theorem ln_343 : lone G 343 = false := by decide +kernel
@[simp] theorem ln_344 : lone G 344 = false := by decide +kernel
@[simp] theorem ln_345 : lone G 345 = false := by decide +kernel
@[simp] theorem ln_346 : lone G 346 = false := by decide +kernel
@[simp] theorem ln_347 : lone G 347 = false := by decide +kernel
@[simp] theorem ln_348 : lone G 348 = false := by decide +kernel
@[simp] theorem ln_349 : lone G 349 = false := by decide +kernel
@[simp] theorem ln_350 : lone G 350 = false := by decide +kernel
@[simp] theorem ln_351 : lone G 351 = false := by decide +kernel
@[simp] theorem ln_352 : lone G 352 = false := by decide +kernel
@[simp] theorem ln_353 : lone G 353 = false := by decide +kernel
@[simp] theorem ln_354 : lone G 354 = false := by decide +kernel
@[simp] theorem br_355 : byRef G 355 = false := by decide +kernel
@[simp] theorem ln_355 : lone G 355 = false := by decide +kernel
@[simp] theorem th_355 : thaws G 355 = false := by decide +kernel
@[simp] theorem ln_356 : lone G 356 = false := by decide +kernel
@[simp] theorem ln_357 : lone G 357 = false := by decide +kernel
@[simp] theorem ln_358 : lone G 358 = false := by decide +kernel
@[simp] theorem ln_359 : lone G 359 = false := by decide +kernel
@[simp] theorem ln_360 : lone G 360 = false := by decide +kernel
@[simp] theorem ln_361 : lone G 361 = false := by decide +kernel
@[simp] theorem ln_362 : lone G 362 = false := by decide +kernel
@[simp] theorem ln_363 : lone G 363 = false := by decide +kernel
@[simp] theorem ln_364 : lone G 364 = false := by decide +kernel
@[simp] theorem ln_365 : lone G 365 = false := by decide +kernel
@[simp] theorem ln_366 : lone G 366 = false := by decide +kernel
@[simp] theorem ln_367 : lone G 367 = false := by decide +kernel
@[simp] theorem ln_368 : lone G 368 = false := by decide +kernel
@[simp] theorem ln_369 : lone G 369 = false := by decide +kernel
@[simp] theorem ln_370 : lone G 370 = false := by decide +kernel
@[simp] theorem ln_371 : lone G 371 = false := by decide +kernel
@[simp] theorem ln_372 : lone G 372 = false := by decide +kernel
@[simp] theorem br_373 : byRef G 373 = false := by decide +kernel
@[simp] theorem ln_373 : lone G 373 = false := by decide +kernel
@[simp] theorem th_373 : thaws G 373 = false := by decide +kernel
@[simp] theorem br_374 : byRef G 374 = false := by decide +kernel
@[simp] theorem ln_374 : lone G 374 = false := by decide +kernel
@[simp] theorem th_374 : thaws G 374 = false := by decide +kernel
@[simp] theorem br_375 : byRef G 375 = true := by decide +kernel
@[simp] theorem ln_375 : lone G 375 = false := by decide +kernel
@[simp] theorem th_375 : thaws G 375 = false := by decide +kernel
@[simp] theorem br_376 : byRef G 376 = true := by decide +kernel
@[simp] theorem ln_376 : lone G 376 = false := by decide +kernel
@[simp] theorem th_376 : thaws G 376 = false := by decide +kernel
@[simp] theorem br_377 : byRef G 377 = true := by decide +kernel
@[simp] theorem ln_377 : lone G 377 = false := by decide +kernel
@[simp] theorem th_377 : thaws G 377 = false := by decide +kernel
@[simp] theorem br_378 : byRef G 378 = true := by decide +kernel
@[simp] theorem ln_378 : lone G 378 = false := by decide +kernel
@[simp] theorem th_378 : thaws G 378 = false := by decide +kernel
@[simp] theorem br_379 : byRef G 379 = true := by decide +kernel
@[simp] theorem ln_379 : lone G 379 = false := by decide +kernel
@[simp] theorem th_379 : thaws G 379 = false := by decide +kernel
@[simp] theorem br_380 : byRef G 380 = true := by decide +kernel
@[simp] theorem ln_380 : lone G 380 = false := by decide +kernel
@[simp] theorem th_380 : thaws G 380 = false := by decide +kernel
@[simp] theorem br_381 : byRef G 381 = true := by decide +kernel
@[simp] theorem ln_381 : lone G 381 = false := by decide +kernel
@[simp] theorem th_381 : thaws G 381 = false := by decide +kernel
@[simp] theorem br_382 : byRef G 382 = true := by decide +kernel
@[simp] theorem ln_382 : lone G 382 = false := by decide +kernel
@[simp] theorem th_382 : thaws G 382 = false := by decide +kernel
@[simp] theorem ln_383 : lone G 383 = false := by decide +kernel
@[simp] theorem br_384 : byRef G 384 = false := by decide +kernel
@[simp] theorem ln_384 : lone G 384 = false := by decide +kernel
@[simp] theorem th_384 : thaws G 384 = false := by decide +kernel
@[simp] theorem br_385 : byRef G 385 = false := by decide +kernel
@[simp] theorem ln_385 : lone G 385 = false := by decide +kernel
@[simp] theorem th_385 : thaws G 385 = false := by decide +kernel
@[simp] theorem ln_386 : lone G 386 = false := by decide +kernel
@[simp] theorem ln_387 : lone G 387 = false := by decide +kernel
@[simp] theorem ln_388 : lone G 388 = false := by decide +kernel
@[simp] theorem ln_389 : lone G 389 = false := by decide +kernel
@[simp] theorem ln_390 : lone G 390 = false := by decide +kernel
@[simp] theorem ln_391 : lone G 391 = false := by decide +kernel
@[simp] theorem ln_392 : lone G 392 = false := by decide +kernel
@[simp] theorem ln_393 : lone G 393 = false := by decide +kernel
@[simp] theorem ln_394 : lone G 394 = false := by decide +kernel
@[simp] theorem ln_395 : lone G 395 = false := by decide +kernel
@[simp] theorem ln_396 : lone G 396 = false := by decide +kernel
@[simp] theorem ln_397 : lone G 397 = false := by decide +kernel
@[simp] theorem ln_398 : lone G 398 = false := by decide +kernel
@[simp] theorem ln_399 : lone G 399 = false := by decide +kernel
@[simp] theorem ln_400 : lone G 400 = false := by decide +kernel
@[simp] theorem ln_401 : lone G 401 = false := by decide +kernel
@[simp] theorem ln_402 : lone G 402 = false := by decide +kernel
@[simp] theorem ln_403 : lone G 403 = false := by decide +kernel
@[simp] theorem ln_404 : lone G 404 = false := by decide +kernel
@[simp] theorem ln_405 : lone G 405 = false := by decide +kernel
@[simp] theorem ln_406 : lone G 406 = false := by decide +kernel
@[simp] theorem ln_407 : lone G 407 = false := by decide +kernel
@[simp] theorem ln_408 : lone G 408 = false := by decide +kernel
@[simp] theorem br_409 : byRef G 409 = false := by decide +kernel
@[simp] theorem ln_409 : lone G 409 = false := by decide +kernel
@[simp] theorem th_409 : thaws G 409 = false := by decide +kernel
@[simp] theorem ln_410 : lone G 410 = false := by decide +kernel
@[simp] theorem ln_411 : lone G 411 = false := by decide +kernel
@[simp] theorem ln_412 : lone G 412 = false := by decide +kernel
@[simp] theorem ln_413 : lone G 413 = false := by decide +kernel
@[simp] theorem br_414 : byRef G 414 = true := by decide +kernel
@[simp] theorem ln_414 : lone G 414 = false := by decide +kernel
@[simp] theorem th_414 : thaws G 414 = false := by decide +kernel
@[simp] theorem br_415 : byRef G 415 = true := by decide +kernel
@[simp] theorem ln_415 : lone G 415 = false := by decide +kernel
@[simp] theorem th_415 : thaws G 415 = false := by decide +kernel
@[simp] theorem br_416 : byRef G 416 = true := by decide +kernel
@[simp] theorem ln_416 : lone G 416 = false := by decide +kernel
@[simp] theorem th_416 : thaws G 416 = false := by decide +kernel
@[simp] theorem ln_417 : lone G 417 = false := by decide +kernel
@[simp] theorem ln_418 : lone G 418 = false := by decide +kernel
@[simp] theorem ln_419 : lone G 419 = false := by decide +kernel
@[simp] theorem ln_420 : lone G 420 = false := by decide +kernel
@[simp] theorem ln_421 : lone G 421 = false := by decide +kernel
@[simp] theorem ln_422 : lone G 422 = false := by decide +kernel
@[simp] theorem ln_423 : lone G 423 = false := by decide +kernel
@[simp] theorem ln_424 : lone G 424 = false := by decide +kernel
@[simp] theorem ln_425 : lone G 425 = false := by decide +kernel
@[simp] theorem ln_426 : lone G 426 = false := by decide +kernel
@[simp] theorem ln_427 : lone G 427 = false := by decide +kernel
@[simp] theorem ln_428 : lone G 428 = false := by decide +kernel
@[simp] theorem ln_429 : lone G 429 = false := by decide +kernel
@[simp] theorem ln_430 : lone G 430 = false := by decide +kernel
@[simp] theorem ln_431 : lone G 431 = false := by decide +kernel
@[simp] theorem ln_432 : lone G 432 = false := by decide +kernel
@[simp] theorem ln_433 : lone G 433 = false := by decide +kernel
@[simp] theorem br_434 : byRef G 434 = true := by decide +kernel
@[simp] theorem ln_434 : lone G 434 = false := by decide +kernel
@[simp] theorem th_434 : thaws G 434 = false := by decide +kernel
@[simp] theorem ln_435 : lone G 435 = false := by decide +kernel
@[simp] theorem ln_436 : lone G 436 = false := by decide +kernel
@[simp] theorem ln_437 : lone G 437 = false := by decide +kernel
@[simp] theorem ln_438 : lone G 438 = false := by decide +kernel
@[simp] theorem ln_439 : lone G 439 = false := by decide +kernel
@[simp] theorem ln_440 : lone G 440 = false := by decide +kernel
@[simp] theorem ln_441 : lone G 441 = false := by decide +kernel
@[simp] theorem ln_442 : lone G 442 = false := by decide +kernel
@[simp] theorem ln_443 : lone G 443 = false := by decide +kernel
@[simp] theorem ln_444 : lone G 444 = false := by decide +kernel
@[simp] theorem ln_445 : lone G 445 = false := by decide +kernel
@[simp] theorem ln_446 : lone G 446 = false := by decide +kernel
@[simp] theorem br_447 : byRef G 447 = true := by decide +kernel
theorem so_447 : sorts G 447 = 1 := by decide +kernel
@[simp] theorem ln_447 : lone G 447 = false := by decide +kernel
@[simp] theorem th_447 : thaws G 447 = false := by decide +kernel
@[simp] theorem ln_448 : lone G 448 = false := by decide +kernel
@[simp] theorem br_449 : byRef G 449 = false := by decide +kernel
@[simp] theorem ln_449 : lone G 449 = false := by decide +kernel
@[simp] theorem th_449 : thaws G 449 = false := by decide +kernel
@[simp] theorem ln_450 : lone G 450 = false := by decide +kernel
@[simp] theorem ln_451 : lone G 451 = false := by decide +kernel
@[simp] theorem ln_452 : lone G 452 = false := by decide +kernel
@[simp] theorem ln_453 : lone G 453 = false := by decide +kernel
@[simp] theorem ln_454 : lone G 454 = false := by decide +kernel
@[simp] theorem ln_455 : lone G 455 = false := by decide +kernel
@[simp] theorem br_456 : byRef G 456 = true := by decide +kernel
@[simp] theorem ln_456 : lone G 456 = false := by decide +kernel
@[simp] theorem th_456 : thaws G 456 = false := by decide +kernel
@[simp] theorem ln_457 : lone G 457 = false := by decide +kernel
@[simp] theorem ln_458 : lone G 458 = false := by decide +kernel
@[simp] theorem ln_459 : lone G 459 = false := by decide +kernel
@[simp] theorem ln_460 : lone G 460 = false := by decide +kernel
@[simp] theorem ln_461 : lone G 461 = false := by decide +kernel
@[simp] theorem ln_462 : lone G 462 = false := by decide +kernel
@[simp] theorem ln_463 : lone G 463 = false := by decide +kernel
@[simp] theorem ln_464 : lone G 464 = false := by decide +kernel
@[simp] theorem br_465 : byRef G 465 = true := by decide +kernel
@[simp] theorem ln_465 : lone G 465 = false := by decide +kernel
@[simp] theorem th_465 : thaws G 465 = false := by decide +kernel
@[simp] theorem br_466 : byRef G 466 = true := by decide +kernel
@[simp] theorem ln_466 : lone G 466 = false := by decide +kernel
@[simp] theorem th_466 : thaws G 466 = false := by decide +kernel
@[simp] theorem br_467 : byRef G 467 = true := by decide +kernel
@[simp] theorem ln_467 : lone G 467 = false := by decide +kernel
@[simp] theorem th_467 : thaws G 467 = false := by decide +kernel
@[simp] theorem br_468 : byRef G 468 = true := by decide +kernel
@[simp] theorem ln_468 : lone G 468 = false := by decide +kernel
@[simp] theorem th_468 : thaws G 468 = false := by decide +kernel
@[simp] theorem br_469 : byRef G 469 = true := by decide +kernel
@[simp] theorem ln_469 : lone G 469 = false := by decide +kernel
@[simp] theorem th_469 : thaws G 469 = false := by decide +kernel
@[simp] theorem br_470 : byRef G 470 = true := by decide +kernel
@[simp] theorem ln_470 : lone G 470 = false := by decide +kernel
@[simp] theorem th_470 : thaws G 470 = false := by decide +kernel
@[simp] theorem br_471 : byRef G 471 = true := by decide +kernel
@[simp] theorem ln_471 : lone G 471 = false := by decide +kernel
@[simp] theorem th_471 : thaws G 471 = false := by decide +kernel
@[simp] theorem br_472 : byRef G 472 = true := by decide +kernel
@[simp] theorem ln_472 : lone G 472 = false := by decide +kernel
@[simp] theorem th_472 : thaws G 472 = false := by decide +kernel
@[simp] theorem ln_473 : lone G 473 = false := by decide +kernel
@[simp] theorem ln_474 : lone G 474 = false := by decide +kernel
@[simp] theorem ln_475 : lone G 475 = false := by decide +kernel
@[simp] theorem br_476 : byRef G 476 = true := by decide +kernel
@[simp] theorem ln_476 : lone G 476 = false := by decide +kernel
@[simp] theorem th_476 : thaws G 476 = false := by decide +kernel
@[simp] theorem br_477 : byRef G 477 = true := by decide +kernel
@[simp] theorem ln_477 : lone G 477 = false := by decide +kernel
@[simp] theorem th_477 : thaws G 477 = false := by decide +kernel
@[simp] theorem br_478 : byRef G 478 = true := by decide +kernel
@[simp] theorem ln_478 : lone G 478 = false := by decide +kernel
@[simp] theorem th_478 : thaws G 478 = false := by decide +kernel
@[simp] theorem br_479 : byRef G 479 = true := by decide +kernel
@[simp] theorem ln_479 : lone G 479 = false := by decide +kernel
@[simp] theorem th_479 : thaws G 479 = false := by decide +kernel
@[simp] theorem ln_513 : lone G 513 = false := by decide +kernel
@[simp] theorem kp_224 : keeps G 224 = false := by decide +kernel
@[simp] theorem co_224 : cools G 224 = false := by decide +kernel
@[simp] theorem ci_224 : chills G 224 = true := by decide +kernel
@[simp] theorem co_362 : cools G 362 = false := by decide +kernel
@[simp] theorem ci_362 : chills G 362 = false := by decide +kernel
@[simp] theorem co_390 : cools G 390 = false := by decide +kernel
@[simp] theorem ci_390 : chills G 390 = false := by decide +kernel
@[simp] theorem co_412 : cools G 412 = false := by decide +kernel
@[simp] theorem ci_412 : chills G 412 = true := by decide +kernel
@[simp] theorem co_291 : cools G 291 = true := by decide +kernel
@[simp] theorem ch_276 : chunks G 276 = true := by decide +kernel
theorem G_in {g : Nat} (h : (G g).isSome = true) (h0 : 1000 ≤ g) : g ∈ ([1000143,1000157,1000196,1000217,1000229,1000235,1000246,1000252,1000253,1000261,1000269,1000297] ++ [1000304,1000313,1000314,1000320,1000321,1000322,1000323,1000324,1000325,1000326,1000327,1000338] ++ [1000371,1000372,1000375,1000376,1000377,1000378,1000379,1000380,1000381,1000382,1000383,1000386] ++ [1000387,1000391,1000393,1000413,1000414,1000415,1000416,1000417,1000433,1000434,1000443,1000447] ++ [1000448,1000456,1000465,1000466,1000467,1000468,1000469,1000470,1000471,1000472,1000474,1000476] ++ [1000477,1000478,1000479,2000075,2000122,2000126,2000170,2000221,2000256,2000289,2000446,2000217] ++ [2000447,2000023,2000037,2000038,2000050,2000092,2000107,2000143,4900217,4800447,3000224,3000362] ++ [3000390,3000412,3000296,3000298,3000299,3000291,4000296,4000298,4000299,5000276,4500291,4700224] ++ [4700412,4720122,4720233,4300023,4300037,4300038,4300050,4300092,4310037,4320037,4310038,4320050] ++ [4310092,4330092,4100218,4100234,4100409,4130218,4130409,4110107,4120143] : List Nat) := by
 unfold G at h
 rw [if_neg (show ¬ g < 1000 by omega)] at h
 split at h
 ·rename_i h2
  simpa only [List.contains_eq_mem,decide_eq_true_eq] using h2
 ·simp at h
theorem flag_of {L : List Nat} {o g : Nat} (h : o + g ∈ L) : g ∈ (L.filter fun x => decide (o ≤ x)).map fun x => x - o := List.mem_map.2 ⟨o + g,List.mem_filter.2 ⟨h,decide_eq_true (Nat.le_add_right _ _)⟩,Nat.add_sub_cancel_left ..⟩
theorem chunks_are {g : Nat} (h : chunks G g = true) : g = 276 := by
 have e := flag_of (G_in h (by omega))
 rw [show (List.filter (fun x => decide (5000000 ≤ x)) ([1000143,1000157,1000196,1000217,1000229,1000235,1000246,1000252,1000253,1000261,1000269,1000297] ++ [1000304,1000313,1000314,1000320,1000321,1000322,1000323,1000324,1000325,1000326,1000327,1000338] ++ [1000371,1000372,1000375,1000376,1000377,1000378,1000379,1000380,1000381,1000382,1000383,1000386] ++ [1000387,1000391,1000393,1000413,1000414,1000415,1000416,1000417,1000433,1000434,1000443,1000447] ++ [1000448,1000456,1000465,1000466,1000467,1000468,1000469,1000470,1000471,1000472,1000474,1000476] ++ [1000477,1000478,1000479,2000075,2000122,2000126,2000170,2000221,2000256,2000289,2000446,2000217] ++ [2000447,2000023,2000037,2000038,2000050,2000092,2000107,2000143,4900217,4800447,3000224,3000362] ++ [3000390,3000412,3000296,3000298,3000299,3000291,4000296,4000298,4000299,5000276,4500291,4700224] ++ [4700412,4720122,4720233,4300023,4300037,4300038,4300050,4300092,4310037,4320037,4310038,4320050] ++ [4310092,4330092,4100218,4100234,4100409,4130218,4130409,4110107,4120143] : List Nat)).map (fun x => x - 5000000) = [276] by decide +kernel] at e
 simp only [List.mem_cons,List.not_mem_nil,or_false] at e
 rcases e with rfl <;> first | decide | exact absurd h (by decide +kernel)
theorem keys_are {g : Nat} (h : keysF G g = true) : g = 218 ∨ g = 234 ∨ g = 409 := by
 have e := flag_of (G_in (Bool.and_eq_true_iff.1 h).2 (by omega))
 rw [show (List.filter (fun x => decide (4100000 ≤ x)) ([1000143,1000157,1000196,1000217,1000229,1000235,1000246,1000252,1000253,1000261,1000269,1000297] ++ [1000304,1000313,1000314,1000320,1000321,1000322,1000323,1000324,1000325,1000326,1000327,1000338] ++ [1000371,1000372,1000375,1000376,1000377,1000378,1000379,1000380,1000381,1000382,1000383,1000386] ++ [1000387,1000391,1000393,1000413,1000414,1000415,1000416,1000417,1000433,1000434,1000443,1000447] ++ [1000448,1000456,1000465,1000466,1000467,1000468,1000469,1000470,1000471,1000472,1000474,1000476] ++ [1000477,1000478,1000479,2000075,2000122,2000126,2000170,2000221,2000256,2000289,2000446,2000217] ++ [2000447,2000023,2000037,2000038,2000050,2000092,2000107,2000143,4900217,4800447,3000224,3000362] ++ [3000390,3000412,3000296,3000298,3000299,3000291,4000296,4000298,4000299,5000276,4500291,4700224] ++ [4700412,4720122,4720233,4300023,4300037,4300038,4300050,4300092,4310037,4320037,4310038,4320050] ++ [4310092,4330092,4100218,4100234,4100409,4130218,4130409,4110107,4120143] : List Nat)).map (fun x => x - 4100000) = [800217,700447,900276,400291,600224,600412,620122,620233,200023,200037,200038,200050,200092,210037,220037,210038,220050,210092,230092,218,234,409,30218,30409,10107,20143] by decide +kernel] at e
 simp only [List.mem_cons,List.not_mem_nil,or_false] at e
 rcases e with rfl | rfl | rfl | rfl | rfl | rfl | rfl | rfl | rfl | rfl | rfl | rfl | rfl | rfl | rfl | rfl | rfl | rfl | rfl | rfl | rfl | rfl | rfl | rfl | rfl | rfl <;> first | decide | exact absurd h (by decide +kernel)
theorem texts_are {g : Nat} (h : textsF G g = true) : g = 218 ∨ g = 409 := by
 have e := flag_of (G_in (Bool.and_eq_true_iff.1 h).2 (by omega))
 rw [show (List.filter (fun x => decide (4130000 ≤ x)) ([1000143,1000157,1000196,1000217,1000229,1000235,1000246,1000252,1000253,1000261,1000269,1000297] ++ [1000304,1000313,1000314,1000320,1000321,1000322,1000323,1000324,1000325,1000326,1000327,1000338] ++ [1000371,1000372,1000375,1000376,1000377,1000378,1000379,1000380,1000381,1000382,1000383,1000386] ++ [1000387,1000391,1000393,1000413,1000414,1000415,1000416,1000417,1000433,1000434,1000443,1000447] ++ [1000448,1000456,1000465,1000466,1000467,1000468,1000469,1000470,1000471,1000472,1000474,1000476] ++ [1000477,1000478,1000479,2000075,2000122,2000126,2000170,2000221,2000256,2000289,2000446,2000217] ++ [2000447,2000023,2000037,2000038,2000050,2000092,2000107,2000143,4900217,4800447,3000224,3000362] ++ [3000390,3000412,3000296,3000298,3000299,3000291,4000296,4000298,4000299,5000276,4500291,4700224] ++ [4700412,4720122,4720233,4300023,4300037,4300038,4300050,4300092,4310037,4320037,4310038,4320050] ++ [4310092,4330092,4100218,4100234,4100409,4130218,4130409,4110107,4120143] : List Nat)).map (fun x => x - 4130000) = [770217,670447,870276,370291,570224,570412,590122,590233,170023,170037,170038,170050,170092,180037,190037,180038,190050,180092,200092,218,409] by decide +kernel] at e
 simp only [List.mem_cons,List.not_mem_nil,or_false] at e
 rcases e with rfl | rfl | rfl | rfl | rfl | rfl | rfl | rfl | rfl | rfl | rfl | rfl | rfl | rfl | rfl | rfl | rfl | rfl | rfl | rfl | rfl <;> first | decide | exact absurd h (by decide +kernel)
theorem sorts_are {g : Nat} (h : sorts G g ≠ 0) : g = 23 ∨ g = 37 ∨ g = 38 ∨ g = 50 ∨ g = 92 ∨ g = 107 ∨ g = 143 ∨ g = 217 ∨ g = 447 := by
 have h1 : splits G g = true := by
  unfold sorts at h
  split at h
  ·assumption
  ·exact absurd rfl h
 have e := flag_of (G_in h1 (by omega))
 rw [show (List.filter (fun x => decide (2000000 ≤ x)) ([1000143,1000157,1000196,1000217,1000229,1000235,1000246,1000252,1000253,1000261,1000269,1000297] ++ [1000304,1000313,1000314,1000320,1000321,1000322,1000323,1000324,1000325,1000326,1000327,1000338] ++ [1000371,1000372,1000375,1000376,1000377,1000378,1000379,1000380,1000381,1000382,1000383,1000386] ++ [1000387,1000391,1000393,1000413,1000414,1000415,1000416,1000417,1000433,1000434,1000443,1000447] ++ [1000448,1000456,1000465,1000466,1000467,1000468,1000469,1000470,1000471,1000472,1000474,1000476] ++ [1000477,1000478,1000479,2000075,2000122,2000126,2000170,2000221,2000256,2000289,2000446,2000217] ++ [2000447,2000023,2000037,2000038,2000050,2000092,2000107,2000143,4900217,4800447,3000224,3000362] ++ [3000390,3000412,3000296,3000298,3000299,3000291,4000296,4000298,4000299,5000276,4500291,4700224] ++ [4700412,4720122,4720233,4300023,4300037,4300038,4300050,4300092,4310037,4320037,4310038,4320050] ++ [4310092,4330092,4100218,4100234,4100409,4130218,4130409,4110107,4120143] : List Nat)).map (fun x => x - 2000000) = [75,122,126,170,221,256,289,446,217,447,23,37,38,50,92,107,143,2900217,2800447,1000224,1000362,1000390,1000412,1000296,1000298,1000299,1000291,2000296,2000298,2000299,3000276,2500291,2700224,2700412,2720122,2720233,2300023,2300037,2300038,2300050,2300092,2310037,2320037,2310038,2320050,2310092,2330092,2100218,2100234,2100409,2130218,2130409,2110107,2120143] by decide +kernel] at e
 simp only [List.mem_cons,List.not_mem_nil,or_false] at e
 rcases e with rfl | rfl | rfl | rfl | rfl | rfl | rfl | rfl | rfl | rfl | rfl | rfl | rfl | rfl | rfl | rfl | rfl | rfl | rfl | rfl | rfl | rfl | rfl | rfl | rfl | rfl | rfl | rfl | rfl | rfl | rfl | rfl | rfl | rfl | rfl | rfl | rfl | rfl | rfl | rfl | rfl | rfl | rfl | rfl | rfl | rfl | rfl | rfl | rfl | rfl | rfl | rfl | rfl | rfl <;> first | decide | exact absurd h (by decide +kernel)
def Hn : Hints := fun f r => match f,r with
 | 7,7 => [4,5,8001]
 | 10,16 => [4,6,7,9,10,14,15]
 | 28,31 => [5]
 | 31,5 => [4]
 | 35,46 => [11,13,15]
 | 59,2 => [5]
 | 60,13 => [22,8000]
 | 61,7 => [9,8000,8005]
 | 61,10 => [3,7]
 | 62,5 => [9,10,7000]
 | 66,8 => [6]
 | 71,4 => [1,3,4]
 | 73,1 => [10]
 | 76,14 => [3]
 | 76,11 => [3,4,6]
 | 83,3 => [8,9]
 | 85,1 => [8,9]
 | 95,0 => [3]
 | 99,1 => [6]
 | 100,18 => [3,4,6]
 | 101,2 => [3]
 | 101,13 => [3]
 | 102,1 => [10]
 | 107,37 => [1]
 | 107,47 => [2,3,7004]
 | 113,1 => [2]
 | 114,26 => [1,4,6,8]
 | 125,11 => [2]
 | 134,0 => [12,13]
 | 146,1 => [4,6]
 | 152,18 => [6,2008,3007]
 | 160,17 => [0]
 | 160,28 => [0,1008]
 | 161,14 => [5]
 | 166,7 => [16,8008]
 | 167,9 => [4,2006,3011]
 | 169,4 => [3,7,2009,3006]
 | 186,9 => [6]
 | 188,5 => [4]
 | 192,7 => [7,8]
 | 212,1 => [3]
 | 213,1 => [3]
 | 224,11 => [11,13,2015,3008]
 | 224,18 => [4,2005,3002]
 | 224,19 => [0]
 | 225,8 => [1,8000]
 | 228,5 => [6]
 | 228,10 => [3]
 | 242,1 => [5,6]
 | 249,13 => [3]
 | 255,4 => [6]
 | 264,0 => [4]
 | 287,12 => [0]
 | 287,17 => [7,8002,8004]
 | 291,20 => [0]
 | 299,1 => [10]
 | 338,6 => [8]
 | 404,5 => [1,8000]
 | 407,4 => [4]
 | 432,31 => [6]
 | 441,9 => [5,7,2009,3005]
 | 459,4 => [8]
 | 473,4 => [8]
 | _,_ => []
@[simp] theorem K_3_0 : K 3 0 = some [(1,0),(5,0),(6,0),(8,0)] := rfl
@[simp] theorem K_4_0 : K 4 0 = some [(3,0),(4,0),(5,3),(6,0)] := rfl
@[simp] theorem K_4_2 : K 4 2 = some [(3,0),(4,0),(5,3),(6,0),(7,0),(8,0)] := rfl
@[simp] theorem K_6_0 : K 6 0 = some [(1,0),(5,0),(11,0)] := rfl
@[simp] theorem K_7_0 : K 7 0 = some [(1,0),(20,0),(21,0),(22,0)] := rfl
@[simp] theorem K_11_0 : K 11 0 = some [(0,0),(3,3),(4,0)] := rfl
@[simp] theorem K_12_0 : K 12 0 = some [(3,1),(11,0),(12,0),(13,0)] := rfl
@[simp] theorem K_13_0 : K 13 0 = some [(0,0),(3,1),(4,0)] := rfl
@[simp] theorem K_14_0 : K 14 0 = some [(0,0),(3,0),(4,0)] := rfl
@[simp] theorem K_16_0 : K 16 0 = some [(2,0),(3,0),(5,0)] := rfl
@[simp] theorem K_17_1 : K 17 1 = some [(0,0),(2,0),(4,0),(5,0)] := rfl
@[simp] theorem K_18_0 : K 18 0 = some [(0,0),(3,1),(4,0),(5,0)] := rfl
@[simp] theorem K_20_2 : K 20 2 = some [(0,0),(2,0),(5,0),(12,0)] := rfl
@[simp] theorem K_21_0 : K 21 0 = some [(2,0),(3,0),(5,0)] := rfl
@[simp] theorem K_22_0 : K 22 0 = some [(0,0),(3,0),(4,0)] := rfl
@[simp] theorem K_24_1 : K 24 1 = some [(2,0),(5,0),(34,0),(35,0),(36,0)] := rfl
@[simp] theorem K_25_0 : K 25 0 = some [(0,0),(5,0),(16,0),(17,0),(18,0)] := rfl
@[simp] theorem K_26_1 : K 26 1 = some [(0,0),(2,0),(11,0),(88,0),(89,0),(90,0)] := rfl
@[simp] theorem K_28_2 : K 28 2 = some [(0,0),(92,0),(93,0)] := rfl
@[simp] theorem K_30_0 : K 30 0 = some [(0,0),(1,0),(6,1),(7,0)] := rfl
@[simp] theorem K_31_0 : K 31 0 = some [(4,0),(6,0),(32,0),(33,0),(34,0)] := rfl
@[simp] theorem K_35_2 : K 35 2 = some [(10,0),(12,1),(13,0)] := rfl
@[simp] theorem K_35_4 : K 35 4 = some [(16,0),(18,1),(19,0)] := rfl
@[simp] theorem K_38_1 : K 38 1 = some [(0,0),(1,0),(5,0),(39,0),(40,0),(41,0)] := rfl
@[simp] theorem K_38_3 : K 38 3 = some [(1,0),(8,0),(63,0),(64,0),(65,0)] := rfl
@[simp] theorem K_41_0 : K 41 0 = some [(0,0),(5,1),(6,1),(7,0),(8,0)] := rfl
@[simp] theorem K_42_0 : K 42 0 = some [(0,0),(1,0),(6,0),(7,0)] := rfl
@[simp] theorem K_43_0 : K 43 0 = some [(0,0),(1,0),(2,0),(3,0),(9,0),(10,0)] := rfl
@[simp] theorem K_46_0 : K 46 0 = some [(0,0),(6,0)] := rfl
@[simp] theorem K_86_0 : K 86 0 = some [(0,0),(6,0),(7,0),(8,0),(9,0)] := rfl
@[simp] theorem K_87_0 : K 87 0 = some [(0,0),(1,0),(6,0),(7,0)] := rfl
@[simp] theorem K_88_0 : K 88 0 = some [(0,0),(1,0),(5,0)] := rfl
@[simp] theorem K_131_0 : K 131 0 = some [(0,0),(1,0),(4,0)] := rfl
@[simp] theorem K_132_0 : K 132 0 = some [(0,0),(1,0),(3,0),(4,0),(10,1),(11,0),(12,0),(13,0),(14,0),(15,0),(16,0)] := rfl
@[simp] theorem K_132_2 : K 132 2 = some [(0,0),(1,0),(3,0),(4,0),(10,1),(11,0),(12,0),(13,0),(17,0)] := rfl
@[simp] theorem K_135_0 : K 135 0 = some [(2,0),(4,0)] := rfl
@[simp] theorem K_138_1 : K 138 1 = some [(0,0),(1,0),(5,0),(6,0),(7,0),(8,0),(9,0),(10,0)] := rfl
@[simp] theorem K_141_0 : K 141 0 = some [(5,0),(6,0),(47,0),(48,0),(49,0)] := rfl
@[simp] theorem K_166_0 : K 166 0 = some [(4,0),(6,0),(15,0),(16,0),(17,0)] := rfl
@[simp] theorem K_173_0 : K 173 0 = some [(2,0),(3,0),(4,0),(7,0),(8,1),(16,0),(17,0),(18,0)] := rfl
@[simp] theorem K_195_1 : K 195 1 = some [(2,0),(4,0),(7,0),(20,0),(21,0),(22,0)] := rfl
@[simp] theorem K_195_3 : K 195 3 = some [(2,0),(4,0),(10,0),(37,0),(38,0),(39,0)] := rfl
@[simp] theorem K_210_0 : K 210 0 = some [(0,0),(1,0),(5,0),(6,0),(7,0),(8,0),(9,0)] := rfl
@[simp] theorem K_210_2 : K 210 2 = some [(0,0),(1,0),(5,0),(6,0),(7,0),(8,0),(10,0)] := rfl
@[simp] theorem K_218_0 : K 218 0 = some [(0,0),(5,0)] := rfl
@[simp] theorem K_219_0 : K 219 0 = some [(1,0),(4,0),(25,0),(26,0),(27,0)] := rfl
@[simp] theorem K_219_2 : K 219 2 = some [(4,0),(44,0),(45,0),(46,0)] := rfl
@[simp] theorem K_219_4 : K 219 4 = some [(4,0),(8,0),(44,0),(45,0),(46,0),(67,0),(68,0),(69,0)] := rfl
@[simp] theorem K_219_6 : K 219 6 = some [(4,0),(44,0),(45,0),(46,0),(79,0),(80,0),(81,0)] := rfl
@[simp] theorem K_224_0 : K 224 0 = some [(2,0),(5,0),(6,0),(7,0)] := rfl
@[simp] theorem K_225_0 : K 225 0 = some [(0,0),(2,0),(3,0),(4,0)] := rfl
@[simp] theorem K_234_0 : K 234 0 = some [(0,0),(5,0)] := rfl
@[simp] theorem K_243_0 : K 243 0 = some [(0,0),(3,1)] := rfl
@[simp] theorem K_244_0 : K 244 0 = some [(1,0),(5,1),(8,0),(9,0),(10,0)] := rfl
@[simp] theorem K_245_0 : K 245 0 = some [(0,0),(1,0),(26,0),(27,0),(28,0)] := rfl
@[simp] theorem K_245_2 : K 245 2 = some [(0,0),(8,0),(9,1),(10,1),(11,1),(47,0),(48,0),(49,0)] := rfl
@[simp] theorem K_266_0 : K 266 0 = some [(0,0),(37,0),(38,0),(39,0)] := rfl
@[simp] theorem K_267_0 : K 267 0 = some [(1,0),(3,0),(28,0),(29,0),(30,0)] := rfl
@[simp] theorem K_267_2 : K 267 2 = some [(1,0),(6,0),(68,0),(69,0),(70,0)] := rfl
@[simp] theorem K_268_0 : K 268 0 = some [(0,0),(4,0),(19,0),(20,0),(21,0)] := rfl
@[simp] theorem K_268_2 : K 268 2 = some [(0,0),(4,0),(7,0),(19,0),(20,0),(21,0),(36,0),(37,0),(38,0)] := rfl
@[simp] theorem K_268_4 : K 268 4 = some [(0,0),(4,0),(19,0),(20,0),(21,0),(45,0),(46,0),(47,0)] := rfl
@[simp] theorem K_276_0 : K 276 0 = some [(0,0),(1,0),(2,0),(4,0)] := rfl
@[simp] theorem K_279_0 : K 279 0 = some [(0,0),(1,0),(7,0),(8,0)] := rfl
@[simp] theorem K_281_0 : K 281 0 = some [(1,0),(2,0),(23,0),(24,0),(25,0)] := rfl
@[simp] theorem K_282_1 : K 282 1 = some [(3,0),(44,0),(45,0),(46,0)] := rfl
@[simp] theorem K_284_0 : K 284 0 = some [(0,0),(1,0),(7,0),(8,0)] := rfl
@[simp] theorem K_285_0 : K 285 0 = some [(2,0),(4,1),(7,0),(8,0),(9,0)] := rfl
@[simp] theorem K_287_1 : K 287 1 = some [(2,0),(4,0),(6,0),(7,0),(9,0),(26,0),(27,0),(28,0)] := rfl
@[simp] theorem K_308_0 : K 308 0 = some [(0,0),(4,0),(5,0)] := rfl
@[simp] theorem K_308_2 : K 308 2 = some [(4,0),(6,0),(7,0),(8,0)] := rfl
@[simp] theorem K_309_3 : K 309 3 = some [(1,0),(8,0),(9,0),(10,0),(11,0),(12,0),(13,0),(99,0),(100,0),(101,0)] := rfl
@[simp] theorem K_312_0 : K 312 0 = some [(2,0),(4,1)] := rfl
@[simp] theorem K_313_0 : K 313 0 = some [(0,0),(1,0),(2,0),(3,0),(8,0),(9,0)] := rfl
@[simp] theorem K_316_0 : K 316 0 = some [(5,0),(8,0),(9,0),(10,0)] := rfl
@[simp] theorem K_319_0 : K 319 0 = some [(0,0),(1,0),(7,0),(8,0)] := rfl
@[simp] theorem K_320_0 : K 320 0 = some [(0,0),(1,0),(2,0),(3,0),(8,0)] := rfl
@[simp] theorem K_320_2 : K 320 2 = some [(0,0),(1,0),(2,0),(3,0),(8,0),(9,0)] := rfl
@[simp] theorem K_321_0 : K 321 0 = some [(0,0),(3,0),(8,0),(9,0),(10,0),(11,0)] := rfl
@[simp] theorem K_321_2 : K 321 2 = some [(0,0),(3,0),(8,0),(9,0),(12,0)] := rfl
@[simp] theorem K_322_0 : K 322 0 = some [(0,0),(1,0),(8,0),(9,0),(10,0),(11,0)] := rfl
@[simp] theorem K_337_0 : K 337 0 = some [(0,0),(3,0),(4,0),(5,1),(20,0),(21,0),(22,0)] := rfl
@[simp] theorem K_374_0 : K 374 0 = some [(0,0),(3,0),(4,0),(5,0)] := rfl
@[simp] theorem K_375_0 : K 375 0 = some [(0,0),(1,0),(2,0),(6,0)] := rfl
@[simp] theorem K_375_2 : K 375 2 = some [(0,0),(1,0),(2,0),(6,0),(7,0)] := rfl
@[simp] theorem K_376_0 : K 376 0 = some [(0,0),(6,0),(7,0),(8,0),(9,0)] := rfl
@[simp] theorem K_376_2 : K 376 2 = some [(0,0),(6,0),(7,0),(10,0)] := rfl
@[simp] theorem K_377_0 : K 377 0 = some [(0,0),(1,0),(6,0),(7,0),(8,0),(9,0)] := rfl
@[simp] theorem K_379_0 : K 379 0 = some [(0,0),(6,0),(7,0)] := rfl
@[simp] theorem K_380_0 : K 380 0 = some [(0,0),(1,0),(2,0),(7,0),(8,0)] := rfl
@[simp] theorem K_380_2 : K 380 2 = some [(0,0),(1,0),(2,0),(7,0),(8,0)] := rfl
@[simp] theorem K_380_4 : K 380 4 = some [(0,0),(1,0),(2,0),(7,0),(8,0),(9,0)] := rfl
@[simp] theorem K_380_6 : K 380 6 = some [(0,0),(1,0),(2,0),(7,0),(8,0),(10,0)] := rfl
@[simp] theorem K_381_0 : K 381 0 = some [(0,0),(1,0),(9,0),(10,0)] := rfl
@[simp] theorem K_381_2 : K 381 2 = some [(0,0),(1,0),(9,0),(10,0)] := rfl
@[simp] theorem K_381_4 : K 381 4 = some [(0,0),(1,0),(9,0),(10,0)] := rfl
@[simp] theorem K_382_0 : K 382 0 = some [(0,0),(1,0),(10,0),(11,0)] := rfl
@[simp] theorem K_382_2 : K 382 2 = some [(0,0),(1,0),(10,0),(11,0)] := rfl
@[simp] theorem K_382_4 : K 382 4 = some [(0,0),(1,0),(10,0),(11,0)] := rfl
@[simp] theorem K_382_6 : K 382 6 = some [(0,0),(1,0),(10,0),(11,0)] := rfl
@[simp] theorem K_382_8 : K 382 8 = some [(0,0),(1,0),(10,0),(11,0)] := rfl
@[simp] theorem K_409_0 : K 409 0 = some [(0,0),(5,0)] := rfl
@[simp] theorem K_414_0 : K 414 0 = some [(0,0),(2,0),(3,0),(8,0)] := rfl
@[simp] theorem K_456_0 : K 456 0 = some [(0,0),(1,0),(2,0),(3,0),(8,0),(9,0)] := rfl
@[simp] theorem K_465_0 : K 465 0 = some [(0,0),(1,0),(2,0),(6,0)] := rfl
@[simp] theorem K_465_2 : K 465 2 = some [(0,0),(1,0),(2,0),(6,0),(7,0)] := rfl
@[simp] theorem K_466_0 : K 466 0 = some [(0,0),(6,0),(7,0),(8,0),(9,0)] := rfl
@[simp] theorem K_466_2 : K 466 2 = some [(0,0),(6,0),(7,0),(10,0)] := rfl
@[simp] theorem K_467_0 : K 467 0 = some [(0,0),(1,0),(6,0),(7,0),(8,0),(9,0)] := rfl
@[simp] theorem K_469_0 : K 469 0 = some [(0,0),(6,0),(7,0)] := rfl
@[simp] theorem K_470_0 : K 470 0 = some [(0,0),(1,0),(2,0),(7,0),(8,0)] := rfl
@[simp] theorem K_470_2 : K 470 2 = some [(0,0),(1,0),(2,0),(7,0),(8,0)] := rfl
@[simp] theorem K_470_4 : K 470 4 = some [(0,0),(1,0),(2,0),(7,0),(8,0),(9,0)] := rfl
@[simp] theorem K_470_6 : K 470 6 = some [(0,0),(1,0),(2,0),(7,0),(8,0),(10,0)] := rfl
@[simp] theorem K_471_0 : K 471 0 = some [(0,0),(1,0),(9,0),(10,0)] := rfl
@[simp] theorem K_471_2 : K 471 2 = some [(0,0),(1,0),(9,0),(10,0)] := rfl
@[simp] theorem K_471_4 : K 471 4 = some [(0,0),(1,0),(9,0),(10,0)] := rfl
@[simp] theorem K_472_0 : K 472 0 = some [(0,0),(1,0),(10,0),(11,0)] := rfl
@[simp] theorem K_472_2 : K 472 2 = some [(0,0),(1,0),(10,0),(11,0)] := rfl
@[simp] theorem K_472_4 : K 472 4 = some [(0,0),(1,0),(10,0),(11,0)] := rfl
@[simp] theorem K_472_6 : K 472 6 = some [(0,0),(1,0),(10,0),(11,0)] := rfl
@[simp] theorem K_472_8 : K 472 8 = some [(0,0),(1,0),(10,0),(11,0)] := rfl
@[simp] theorem K_476_0 : K 476 0 = some [(0,0),(2,0),(3,0),(8,0)] := rfl
@[simp] theorem Hn_7_7 : Hn 7 7 = [4,5,8001] := rfl
@[simp] theorem Hn_9_11 : Hn 9 11 = [] := rfl
@[simp] theorem Hn_9_19 : Hn 9 19 = [] := rfl
@[simp] theorem Hn_9_20 : Hn 9 20 = [] := rfl
@[simp] theorem Hn_10_10 : Hn 10 10 = [] := rfl
@[simp] theorem Hn_10_16 : Hn 10 16 = [4,6,7,9,10,14,15] := rfl
@[simp] theorem Hn_10_25 : Hn 10 25 = [] := rfl
@[simp] theorem Hn_10_26 : Hn 10 26 = [] := rfl
@[simp] theorem Hn_16_6 : Hn 16 6 = [] := rfl
@[simp] theorem Hn_21_6 : Hn 21 6 = [] := rfl
@[simp] theorem Hn_25_13 : Hn 25 13 = [] := rfl
@[simp] theorem Hn_28_3 : Hn 28 3 = [] := rfl
@[simp] theorem Hn_28_6 : Hn 28 6 = [] := rfl
@[simp] theorem Hn_28_9 : Hn 28 9 = [] := rfl
@[simp] theorem Hn_28_13 : Hn 28 13 = [] := rfl
@[simp] theorem Hn_28_16 : Hn 28 16 = [] := rfl
@[simp] theorem Hn_28_31 : Hn 28 31 = [5] := rfl
@[simp] theorem Hn_28_33 : Hn 28 33 = [] := rfl
@[simp] theorem Hn_31_5 : Hn 31 5 = [4] := rfl
@[simp] theorem Hn_31_12 : Hn 31 12 = [] := rfl
@[simp] theorem Hn_35_46 : Hn 35 46 = [11,13,15] := rfl
@[simp] theorem Hn_83_3 : Hn 83 3 = [8,9] := rfl
@[simp] theorem Hn_85_1 : Hn 85 1 = [8,9] := rfl
@[simp] theorem Hn_131_7 : Hn 131 7 = [] := rfl
@[simp] theorem Hn_131_8 : Hn 131 8 = [] := rfl
@[simp] theorem Hn_131_9 : Hn 131 9 = [] := rfl
@[simp] theorem Hn_131_10 : Hn 131 10 = [] := rfl
@[simp] theorem Hn_131_17 : Hn 131 17 = [] := rfl
@[simp] theorem Hn_131_18 : Hn 131 18 = [] := rfl
@[simp] theorem Hn_131_23 : Hn 131 23 = [] := rfl
@[simp] theorem Hn_134_0 : Hn 134 0 = [12,13] := rfl
@[simp] theorem Hn_146_1 : Hn 146 1 = [4,6] := rfl
@[simp] theorem Hn_165_5 : Hn 165 5 = [] := rfl
@[simp] theorem Hn_166_7 : Hn 166 7 = [16,8008] := rfl
@[simp] theorem Hn_169_4 : Hn 169 4 = [3,7,2009,3006] := rfl
@[simp] theorem Hn_195_20 : Hn 195 20 = [] := rfl
@[simp] theorem Hn_195_25 : Hn 195 25 = [] := rfl
@[simp] theorem Hn_197_1 : Hn 197 1 = [] := rfl
@[simp] theorem Hn_212_1 : Hn 212 1 = [3] := rfl
@[simp] theorem Hn_213_1 : Hn 213 1 = [3] := rfl
@[simp] theorem Hn_224_11 : Hn 224 11 = [11,13,2015,3008] := rfl
@[simp] theorem Hn_224_18 : Hn 224 18 = [4,2005,3002] := rfl
@[simp] theorem Hn_224_19 : Hn 224 19 = [0] := rfl
@[simp] theorem Hn_225_8 : Hn 225 8 = [1,8000] := rfl
@[simp] theorem Hn_267_7 : Hn 267 7 = [] := rfl
@[simp] theorem Hn_276_3 : Hn 276 3 = [] := rfl
@[simp] theorem Hn_285_5 : Hn 285 5 = [] := rfl
@[simp] theorem Hn_287_12 : Hn 287 12 = [0] := rfl
@[simp] theorem Hn_287_17 : Hn 287 17 = [7,8002,8004] := rfl
@[simp] theorem Hn_287_23 : Hn 287 23 = [] := rfl
@[simp] theorem Hn_313_17 : Hn 313 17 = [] := rfl
@[simp] theorem Hn_320_4 : Hn 320 4 = [] := rfl
@[simp] theorem Hn_320_6 : Hn 320 6 = [] := rfl
@[simp] theorem Hn_321_10 : Hn 321 10 = [] := rfl
@[simp] theorem Hn_322_10 : Hn 322 10 = [] := rfl
@[simp] theorem Hn_338_6 : Hn 338 6 = [8] := rfl
@[simp] theorem Hn_375_4 : Hn 375 4 = [] := rfl
@[simp] theorem Hn_375_6 : Hn 375 6 = [] := rfl
@[simp] theorem Hn_376_10 : Hn 376 10 = [] := rfl
@[simp] theorem Hn_377_10 : Hn 377 10 = [] := rfl
@[simp] theorem Hn_379_3 : Hn 379 3 = [] := rfl
@[simp] theorem Hn_380_5 : Hn 380 5 = [] := rfl
@[simp] theorem Hn_380_11 : Hn 380 11 = [] := rfl
@[simp] theorem Hn_380_16 : Hn 380 16 = [] := rfl
@[simp] theorem Hn_380_17 : Hn 380 17 = [] := rfl
@[simp] theorem Hn_380_22 : Hn 380 22 = [] := rfl
@[simp] theorem Hn_380_23 : Hn 380 23 = [] := rfl
@[simp] theorem Hn_381_1 : Hn 381 1 = [] := rfl
@[simp] theorem Hn_381_3 : Hn 381 3 = [] := rfl
@[simp] theorem Hn_381_5 : Hn 381 5 = [] := rfl
@[simp] theorem Hn_381_8 : Hn 381 8 = [] := rfl
@[simp] theorem Hn_382_1 : Hn 382 1 = [] := rfl
@[simp] theorem Hn_382_3 : Hn 382 3 = [] := rfl
@[simp] theorem Hn_382_5 : Hn 382 5 = [] := rfl
@[simp] theorem Hn_382_8 : Hn 382 8 = [] := rfl
@[simp] theorem Hn_382_10 : Hn 382 10 = [] := rfl
@[simp] theorem Hn_382_13 : Hn 382 13 = [] := rfl
@[simp] theorem Hn_382_15 : Hn 382 15 = [] := rfl
@[simp] theorem Hn_382_18 : Hn 382 18 = [] := rfl
@[simp] theorem Hn_382_21 : Hn 382 21 = [] := rfl
@[simp] theorem Hn_385_1 : Hn 385 1 = [] := rfl
@[simp] theorem Hn_385_2 : Hn 385 2 = [] := rfl
@[simp] theorem Hn_385_3 : Hn 385 3 = [] := rfl
@[simp] theorem Hn_414_3 : Hn 414 3 = [] := rfl
@[simp] theorem Hn_414_5 : Hn 414 5 = [] := rfl
@[simp] theorem Hn_414_6 : Hn 414 6 = [] := rfl
@[simp] theorem Hn_434_1 : Hn 434 1 = [] := rfl
@[simp] theorem Hn_456_17 : Hn 456 17 = [] := rfl
@[simp] theorem Hn_465_4 : Hn 465 4 = [] := rfl
@[simp] theorem Hn_465_6 : Hn 465 6 = [] := rfl
@[simp] theorem Hn_466_10 : Hn 466 10 = [] := rfl
@[simp] theorem Hn_467_10 : Hn 467 10 = [] := rfl
@[simp] theorem Hn_469_3 : Hn 469 3 = [] := rfl
@[simp] theorem Hn_470_5 : Hn 470 5 = [] := rfl
@[simp] theorem Hn_470_11 : Hn 470 11 = [] := rfl
@[simp] theorem Hn_470_16 : Hn 470 16 = [] := rfl
@[simp] theorem Hn_470_17 : Hn 470 17 = [] := rfl
@[simp] theorem Hn_470_22 : Hn 470 22 = [] := rfl
@[simp] theorem Hn_470_23 : Hn 470 23 = [] := rfl
@[simp] theorem Hn_471_1 : Hn 471 1 = [] := rfl
@[simp] theorem Hn_471_3 : Hn 471 3 = [] := rfl
@[simp] theorem Hn_471_5 : Hn 471 5 = [] := rfl
@[simp] theorem Hn_471_8 : Hn 471 8 = [] := rfl
@[simp] theorem Hn_472_1 : Hn 472 1 = [] := rfl
@[simp] theorem Hn_472_3 : Hn 472 3 = [] := rfl
@[simp] theorem Hn_472_5 : Hn 472 5 = [] := rfl
@[simp] theorem Hn_472_8 : Hn 472 8 = [] := rfl
@[simp] theorem Hn_472_10 : Hn 472 10 = [] := rfl
@[simp] theorem Hn_472_13 : Hn 472 13 = [] := rfl
@[simp] theorem Hn_472_15 : Hn 472 15 = [] := rfl
@[simp] theorem Hn_472_18 : Hn 472 18 = [] := rfl
@[simp] theorem Hn_472_21 : Hn 472 21 = [] := rfl
@[simp] theorem Hn_476_3 : Hn 476 3 = [] := rfl
@[simp] theorem Hn_476_5 : Hn 476 5 = [] := rfl
@[simp] theorem Hn_476_6 : Hn 476 6 = [] := rfl
@[simp] theorem Hn_479_1 : Hn 479 1 = [] := rfl
noncomputable abbrev R : Run := Runs Tryz.prog G K Hn
end Go.Am.Ab
namespace Go.Am
theorem bits_u8 : IntKind.bits .u8 = 8 := rfl
theorem bits_u32 : IntKind.bits .u32 = 32 := rfl
theorem bits_u64 : IntKind.bits .u64 = 64 := rfl
theorem bits_i64 : IntKind.bits .i64 = 64 := rfl
theorem wrap_mod_u8 (x : Int) : IntKind.u8.wrap x = x % 256 := by simp [IntKind.wrap,IntKind.signed,IntKind.bits]
theorem wrap_mod_u32 (x : Int) : IntKind.u32.wrap x = x % 4294967296 := by simp [IntKind.wrap,IntKind.signed,IntKind.bits]
theorem wrap_mod_u64 (x : Int) : IntKind.u64.wrap x = x % 18446744073709551616 := by simp [IntKind.wrap,IntKind.signed,IntKind.bits]
theorem wrap_mod_i64 (x : Int) : IntKind.i64.wrap x = if x % 18446744073709551616 ≥ 9223372036854775808 then x % 18446744073709551616 - 18446744073709551616 else x % 18446744073709551616 := by
 simp [IntKind.wrap,IntKind.signed,IntKind.bits]
theorem ofInt_nat (n : Nat) (w : Nat) : (BitVec.ofInt w (n : Int)).toNat = n % 2 ^ w := by
 rw [BitVec.toNat_ofInt]
 have : (n : Int) % ((2 ^ w : Nat) : Int) = ((n % 2 ^ w : Nat) : Int) := by rw [Int.natCast_emod]
 rw [this,Int.toNat_natCast]
theorem or_u64 {x y : Nat} (hx : x < 2 ^ 64) (hy : y < 2 ^ 64) : IntKind.u64.wrap (BitVec.ofInt 64 (x : Int) ||| BitVec.ofInt 64 (y : Int)).toNat = ((x ||| y : Nat) : Int) := by
 rw [BitVec.toNat_or,ofInt_nat,ofInt_nat,Nat.mod_eq_of_lt hx,Nat.mod_eq_of_lt hy,wrap_mod_u64]
 have := Nat.or_lt_two_pow hx hy
 omega
theorem and_u64 {x y : Nat} (hx : x < 2 ^ 64) (hy : y < 2 ^ 64) : IntKind.u64.wrap (BitVec.ofInt 64 (x : Int) &&& BitVec.ofInt 64 (y : Int)).toNat = ((x &&& y : Nat) : Int) := by
 rw [BitVec.toNat_and,ofInt_nat,ofInt_nat,Nat.mod_eq_of_lt hx,Nat.mod_eq_of_lt hy,wrap_mod_u64]
 have := Nat.and_lt_two_pow x hy
 omega
theorem xor_u64 {x y : Nat} (hx : x < 2 ^ 64) (hy : y < 2 ^ 64) : IntKind.u64.wrap (BitVec.ofInt 64 (x : Int) ^^^ BitVec.ofInt 64 (y : Int)).toNat = ((x ^^^ y : Nat) : Int) := by
 rw [BitVec.toNat_xor,ofInt_nat,ofInt_nat,Nat.mod_eq_of_lt hx,Nat.mod_eq_of_lt hy,wrap_mod_u64]
 have := Nat.xor_lt_two_pow hx hy
 omega
theorem or_u8 {x y : Nat} (hx : x < 2 ^ 8) (hy : y < 2 ^ 8) : IntKind.u8.wrap (BitVec.ofInt 8 (x : Int) ||| BitVec.ofInt 8 (y : Int)).toNat = ((x ||| y : Nat) : Int) := by
 rw [BitVec.toNat_or,ofInt_nat,ofInt_nat,Nat.mod_eq_of_lt hx,Nat.mod_eq_of_lt hy,wrap_mod_u8]
 have := Nat.or_lt_two_pow hx hy
 omega
theorem and_u8 {x y : Nat} (hx : x < 2 ^ 8) (hy : y < 2 ^ 8) : IntKind.u8.wrap (BitVec.ofInt 8 (x : Int) &&& BitVec.ofInt 8 (y : Int)).toNat = ((x &&& y : Nat) : Int) := by
 rw [BitVec.toNat_and,ofInt_nat,ofInt_nat,Nat.mod_eq_of_lt hx,Nat.mod_eq_of_lt hy,wrap_mod_u8]
 have := Nat.and_lt_two_pow x hy
 omega
theorem or_u32 {x y : Nat} (hx : x < 2 ^ 32) (hy : y < 2 ^ 32) : IntKind.u32.wrap (BitVec.ofInt 32 (x : Int) ||| BitVec.ofInt 32 (y : Int)).toNat = ((x ||| y : Nat) : Int) := by
 rw [BitVec.toNat_or,ofInt_nat,ofInt_nat,Nat.mod_eq_of_lt hx,Nat.mod_eq_of_lt hy,wrap_mod_u32]
 have := Nat.or_lt_two_pow hx hy
 omega
theorem and_u32 {x y : Nat} (hx : x < 2 ^ 32) (hy : y < 2 ^ 32) : IntKind.u32.wrap (BitVec.ofInt 32 (x : Int) &&& BitVec.ofInt 32 (y : Int)).toNat = ((x &&& y : Nat) : Int) := by
 rw [BitVec.toNat_and,ofInt_nat,ofInt_nat,Nat.mod_eq_of_lt hx,Nat.mod_eq_of_lt hy,wrap_mod_u32]
 have := Nat.and_lt_two_pow x hy
 omega
theorem xor_u32 {x y : Nat} (hx : x < 2 ^ 32) (hy : y < 2 ^ 32) : IntKind.u32.wrap (BitVec.ofInt 32 (x : Int) ^^^ BitVec.ofInt 32 (y : Int)).toNat = ((x ^^^ y : Nat) : Int) := by
 rw [BitVec.toNat_xor,ofInt_nat,ofInt_nat,Nat.mod_eq_of_lt hx,Nat.mod_eq_of_lt hy,wrap_mod_u32]
 have := Nat.xor_lt_two_pow hx hy
 omega
theorem intBin_or_u8 {x y : Int} (h1 : 0 ≤ x) (h2 : x < 256) (h3 : 0 ≤ y) (h4 : y < 256) : intBin .or .u8 x y = some (.int .u8 ((x.toNat ||| y.toNat : Nat) : Int)) := by
 obtain ⟨a,rfl⟩ := Int.eq_ofNat_of_zero_le h1
 obtain ⟨b,rfl⟩ := Int.eq_ofNat_of_zero_le h3
 show some (D.int .u8 _) = _
 rw [Int.toNat_natCast,Int.toNat_natCast]
 exact congrArg (fun z => some (D.int .u8 z)) (or_u8 (by omega) (by omega))
attribute [simp] intBin_or_u8
theorem intBin_and_u8 {x y : Int} (h1 : 0 ≤ x) (h2 : x < 256) (h3 : 0 ≤ y) (h4 : y < 256) : intBin .and .u8 x y = some (.int .u8 ((x.toNat &&& y.toNat : Nat) : Int)) := by
 obtain ⟨a,rfl⟩ := Int.eq_ofNat_of_zero_le h1
 obtain ⟨b,rfl⟩ := Int.eq_ofNat_of_zero_le h3
 show some (D.int .u8 _) = _
 rw [Int.toNat_natCast,Int.toNat_natCast]
 exact congrArg (fun z => some (D.int .u8 z)) (and_u8 (by omega) (by omega))
attribute [simp] intBin_and_u8
theorem intBin_or_u32 {x y : Int} (h1 : 0 ≤ x) (h2 : x < 4294967296) (h3 : 0 ≤ y) (h4 : y < 4294967296) : intBin .or .u32 x y = some (.int .u32 ((x.toNat ||| y.toNat : Nat) : Int)) := by
 obtain ⟨a,rfl⟩ := Int.eq_ofNat_of_zero_le h1
 obtain ⟨b,rfl⟩ := Int.eq_ofNat_of_zero_le h3
 show some (D.int .u32 _) = _
 rw [Int.toNat_natCast,Int.toNat_natCast]
 exact congrArg (fun z => some (D.int .u32 z)) (or_u32 (by omega) (by omega))
attribute [simp] intBin_or_u32
theorem intBin_and_u32 {x y : Int} (h1 : 0 ≤ x) (h2 : x < 4294967296) (h3 : 0 ≤ y) (h4 : y < 4294967296) : intBin .and .u32 x y = some (.int .u32 ((x.toNat &&& y.toNat : Nat) : Int)) := by
 obtain ⟨a,rfl⟩ := Int.eq_ofNat_of_zero_le h1
 obtain ⟨b,rfl⟩ := Int.eq_ofNat_of_zero_le h3
 show some (D.int .u32 _) = _
 rw [Int.toNat_natCast,Int.toNat_natCast]
 exact congrArg (fun z => some (D.int .u32 z)) (and_u32 (by omega) (by omega))
attribute [simp] intBin_and_u32
theorem intBin_xor_u32 {x y : Int} (h1 : 0 ≤ x) (h2 : x < 4294967296) (h3 : 0 ≤ y) (h4 : y < 4294967296) : intBin .xor .u32 x y = some (.int .u32 ((x.toNat ^^^ y.toNat : Nat) : Int)) := by
 obtain ⟨a,rfl⟩ := Int.eq_ofNat_of_zero_le h1
 obtain ⟨b,rfl⟩ := Int.eq_ofNat_of_zero_le h3
 show some (D.int .u32 _) = _
 rw [Int.toNat_natCast,Int.toNat_natCast]
 exact congrArg (fun z => some (D.int .u32 z)) (xor_u32 (by omega) (by omega))
attribute [simp] intBin_xor_u32
theorem intBin_or_u64 {x y : Int} (h1 : 0 ≤ x) (h2 : x < 18446744073709551616) (h3 : 0 ≤ y) (h4 : y < 18446744073709551616) : intBin .or .u64 x y = some (.int .u64 ((x.toNat ||| y.toNat : Nat) : Int)) := by
 obtain ⟨a,rfl⟩ := Int.eq_ofNat_of_zero_le h1
 obtain ⟨b,rfl⟩ := Int.eq_ofNat_of_zero_le h3
 show some (D.int .u64 _) = _
 rw [Int.toNat_natCast,Int.toNat_natCast]
 exact congrArg (fun z => some (D.int .u64 z)) (or_u64 (by omega) (by omega))
attribute [simp] intBin_or_u64
theorem intBin_and_u64 {x y : Int} (h1 : 0 ≤ x) (h2 : x < 18446744073709551616) (h3 : 0 ≤ y) (h4 : y < 18446744073709551616) : intBin .and .u64 x y = some (.int .u64 ((x.toNat &&& y.toNat : Nat) : Int)) := by
 obtain ⟨a,rfl⟩ := Int.eq_ofNat_of_zero_le h1
 obtain ⟨b,rfl⟩ := Int.eq_ofNat_of_zero_le h3
 show some (D.int .u64 _) = _
 rw [Int.toNat_natCast,Int.toNat_natCast]
 exact congrArg (fun z => some (D.int .u64 z)) (and_u64 (by omega) (by omega))
attribute [simp] intBin_and_u64
theorem intBin_xor_u64 {x y : Int} (h1 : 0 ≤ x) (h2 : x < 18446744073709551616) (h3 : 0 ≤ y) (h4 : y < 18446744073709551616) : intBin .xor .u64 x y = some (.int .u64 ((x.toNat ^^^ y.toNat : Nat) : Int)) := by
 obtain ⟨a,rfl⟩ := Int.eq_ofNat_of_zero_le h1
 obtain ⟨b,rfl⟩ := Int.eq_ofNat_of_zero_le h3
 show some (D.int .u64 _) = _
 rw [Int.toNat_natCast,Int.toNat_natCast]
 exact congrArg (fun z => some (D.int .u64 z)) (xor_u64 (by omega) (by omega))
attribute [simp] intBin_xor_u64
theorem or_add {x y i : Nat} (hx : x % 2 ^ i = 0) (hy : y < 2 ^ i) : x ||| y = x + y := by
 have e : x = 2 ^ i * (x / 2 ^ i) := by
  have := Nat.div_add_mod x (2 ^ i)
  omega
 rw [e,Nat.two_pow_add_eq_or_of_lt hy]
theorem or_add' {x y i : Nat} (hx : x % 2 ^ i = 0) (hy : y < 2 ^ i) : y ||| x = y + x := by rw [Nat.or_comm,or_add hx hy,Nat.add_comm]
theorem or128 (n : Nat) : (n % 256 ||| 128) = n % 128 + 128 := by
 have h1 : n % 256 = n % 128 + 128 * (n / 128 % 2) := by omega
 have h2 : n / 128 % 2 = 0 ∨ n / 128 % 2 = 1 := by omega
 have h3 : n % 128 < 2 ^ 7 := by omega
 rcases h2 with h | h
 ·rw [h1,h,Nat.mul_zero,Nat.add_zero]
  rw [or_add' (i := 7) (by decide) h3]
 ·rw [h1,h,Nat.mul_one]
  have : n % 128 + 128 = n % 128 ||| 128 := (or_add' (i := 7) (by decide) h3).symm
  rw [this,Nat.or_assoc,Nat.or_self]
theorem and_mask (n k : Nat) : n &&& (2 ^ k - 1) = n % 2 ^ k := Nat.and_two_pow_sub_one_eq_mod n k
theorem and127 (n : Nat) : n &&& 127 = n % 128 := and_mask n 7
theorem and1 (n : Nat) : n &&& 1 = n % 2 := and_mask n 1
theorem intBin_xor_i64_zero {x : Int} (h1 : -9223372036854775808 ≤ x) (h2 : x ≤ 9223372036854775807) : intBin .xor .i64 x 0 = some (.int .i64 x) := by
 show some (D.int .i64 (IntKind.i64.wrap (BitVec.ofInt 64 x ^^^ BitVec.ofInt 64 0).toNat)) = _
 have : BitVec.ofInt 64 0 = 0#64 := rfl
 rw [this,BitVec.xor_zero,BitVec.toNat_ofInt,wrap_mod_i64]
 congr 2
 split <;> omega
theorem intBin_xor_i64_m1 {x : Int} (h1 : -9223372036854775808 ≤ x) (h2 : x ≤ 9223372036854775807) : intBin .xor .i64 x (-1) = some (.int .i64 (-x - 1)) := by
 show some (D.int .i64 (IntKind.i64.wrap (BitVec.ofInt 64 x ^^^ BitVec.ofInt 64 (-1)).toNat)) = _
 have : BitVec.ofInt 64 (-1) = BitVec.allOnes 64 := by decide
 rw [this,BitVec.xor_allOnes,BitVec.toNat_not,BitVec.toNat_ofInt,wrap_mod_i64]
 congr 2
 split <;> omega
attribute [simp] intBin_xor_i64_zero intBin_xor_i64_m1
def u8n (n : Nat) : UInt8 := UInt8.ofNat n
theorem u8n_toNat {n : Nat} (h : n < 256) : (u8n n).toNat = n := by simp [u8n]; omega
theorem u8n_of (b : UInt8) : u8n b.toNat = b := by simp [u8n]
abbrev bytes (l : List UInt8) : List D := l.map byteD
@[simp] theorem mk_toList (l : List UInt8) : (ByteArray.mk l.toArray).toList = l := by rw [ByteArray.toList_eq]
@[simp] theorem mk_size (l : List UInt8) : (ByteArray.mk l.toArray).size = l.length := by simp [ByteArray.size]
@[simp] theorem bytes_comp (l : List UInt8) : l.mapM (byteOf? ∘ byteD) = some l := by rw [← List.mapM_map]; exact bytes_of_map l
@[simp] theorem bytes_take (l : List UInt8) (k : Nat) : ((l.map byteD).take k).mapM byteOf? = some (l.take k) := by rw [← List.map_take,bytes_of_map]
@[simp] theorem bytes_drop (l : List UInt8) (k : Nat) : ((l.map byteD).drop k).mapM byteOf? = some (l.drop k) := by rw [← List.map_drop,bytes_of_map]
@[simp] theorem bytes_take_drop (l : List UInt8) (k j : Nat) : (((l.map byteD).take k).drop j).mapM byteOf? = some ((l.take k).drop j) := by rw [← List.map_take,← List.map_drop,bytes_of_map]
@[simp] theorem allSize_bytes (l : List UInt8) : allSize 1 (l.map byteD) = true := allSize_map l fun _ => rfl
@[simp] theorem allSize_ints {α : Type} (k : IntKind) (f : α → Int) (l : List α) : allSize 1 (l.map fun x => D.int k (f x)) = true := allSize_map l fun _ => rfl
@[simp] theorem allSize_strs (l : List ByteArray) : allSize 1 (l.map D.str) = true := allSize_map l fun _ => rfl
attribute [simp] cut
@[simp] theorem take_map_len {α β : Type} (f : α → β) (l : List α) : (l.map f).take l.length = l.map f := List.take_of_length_le (by simp)
attribute [simp] byteD u8n_toNat or128 and127 and1 u8n_of
attribute [simp] wrap_mod_u8 wrap_mod_u32 bits_u8 bits_u32 bits_u64 bits_i64
@[simp] theorem toNat_mod256 (m : Nat) : ((m : Int) % 256).toNat = m % 256 := by omega
@[simp] theorem toNat_mod32 (m : Nat) : ((m : Int) % 4294967296).toNat = m % 4294967296 := by omega
@[simp] theorem toNat_mod64 (m : Nat) : ((m : Int) % 18446744073709551616).toNat = m % 18446744073709551616 := by omega
theorem fdiv_pos (a b : Int) (h : 0 ≤ b) : a.fdiv b = a / b := Int.fdiv_eq_ediv_of_nonneg a h
@[simp] theorem fdiv_pow (a : Int) (w : Nat) : a.fdiv (2 ^ w) = a / 2 ^ w := fdiv_pos a _ (Int.le_of_lt (Int.pow_pos (by decide)))
attribute [simp] fdiv_pos
theorem tdiv_pos (a b : Int) (h : 0 ≤ a) : a.tdiv b = a / b := Int.tdiv_eq_ediv_of_nonneg h
theorem tmod_pos (a b : Int) (h : 0 ≤ a) : a.tmod b = a % b := Int.tmod_eq_emod_of_nonneg h
attribute [simp] tdiv_pos tmod_pos
end Go.Am
namespace Go.Am.Ab
structure Fld where
 id : Int
 name : ByteArray
 kind : Int
 need : Bool
structure Sch where
 id : Int
 fields : List Fld
structure Snap where
 id : Int
 parent : Int
 seq : Int
 offset : Int
 time : Int
 schema : Int
 mans : List ByteArray
structure Tab where
 schemas : List Sch
 snaps : List Snap
 current : Int
structure Pol where
 keep : Int
 age : Int
abbrev u64 (n : Int) : D := .int .u64 n
abbrev i64 (n : Int) : D := .int .i64 n
def Fld.d (f : Fld) : D := .agg [.int .u32 f.id,.str f.name,.int .u8 f.kind,.bool f.need]
def Sch.d (s : Sch) : D := .agg [.int .u32 s.id,.list (s.fields.map Fld.d)]
def Snap.d (s : Snap) : D := .agg [.int .u64 s.id,.int .u64 s.parent,.int .u64 s.seq,.int .u64 s.offset,.int .u64 s.time,.int .u32 s.schema,.list (s.mans.map .str)]
def Tab.d (t : Tab) : D := .agg [.list (t.schemas.map Sch.d),.list (t.snaps.map Snap.d),.int .u64 t.current]
def Pol.d (p : Pol) : D := .agg [.int .i64 p.keep,.int .u64 p.age]
attribute [simp] Fld.d Sch.d Snap.d Tab.d Pol.d
end Go.Am.Ab
namespace Go.Am.Ab
theorem nI {m n : Nat} : (m : Int) = n ↔ m = n := Int.natCast_inj
theorem wI {x : Int} (h1 : -9223372036854775808 ≤ x) (h2 : x ≤ 9223372036854775807) : IntKind.i64.wrap x = x := wrap_i64 h1 h2
end Go.Am.Ab
