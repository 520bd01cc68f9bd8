/- Facts on the types of the program, what loops keep, numbers. -/
import Derived.Test.YtldceipbpilipaaGreatDoorProg
import Derived.KernelRfl
import Derived.Test.YtldceipbpilipaaGreatDoorMachD
set_option linter.all false
--  412 (*strings.Builder).copyCheck no liveness: code refuse
--  451 strings.IndexRune no liveness: code scope
/- Facts on the types of this program,and what each loop keeps. Printed by seat.py. -/
namespace Go.Am.Ab
open Go.Proofs
attribute [simp] Tryz.underlying0
@[simp] theorem sz0:sizeOf? Tryz.prog 0=some 1:=by kernel_rfl
@[simp] theorem ag0:agg? Tryz.prog 0=some false:=by kernel_rfl
attribute [simp] Tryz.underlying2
@[simp] theorem sz2:sizeOf? Tryz.prog 2=some 1:=by kernel_rfl
@[simp] theorem ag2:agg? Tryz.prog 2=some false:=by kernel_rfl
@[simp] theorem zs2:zeroVs? Tryz.prog 2=some [.d (.int .i64 0)]:=by kernel_rfl
@[simp] theorem zv2:(zero? Tryz.prog 2).isSome=true:=by kernel_rfl
@[simp] theorem ap2:appElem? Tryz.prog 2=some 1:=by kernel_rfl
@[simp] theorem zd2:zeroD? Tryz.prog 2=some (.int .i64 0):=by kernel_rfl
attribute [simp] Tryz.underlying3
@[simp] theorem sz3:sizeOf? Tryz.prog 3=some 1:=by kernel_rfl
@[simp] theorem ag3:agg? Tryz.prog 3=some false:=by kernel_rfl
@[simp] theorem zs3:zeroVs? Tryz.prog 3=some [.d (.int .i64 0)]:=by kernel_rfl
@[simp] theorem al3 (h:List Am.Obj):allocV Tryz.prog h 3=some (.ptr h.length 0,h++[.box [.d (.int .i64 0)]]):=allocV_of zs3
@[simp] theorem zv3:(zero? Tryz.prog 3).isSome=true:=by kernel_rfl
@[simp] theorem ap3:appElem? Tryz.prog 3=some 1:=by kernel_rfl
@[simp] theorem zd3:zeroD? Tryz.prog 3=some (.int .i64 0):=by kernel_rfl
attribute [simp] Tryz.underlying4
@[simp] theorem sz4:sizeOf? Tryz.prog 4=some 1:=by kernel_rfl
@[simp] theorem ag4:agg? Tryz.prog 4=some false:=by kernel_rfl
@[simp] theorem zs4:zeroVs? Tryz.prog 4=some [.d (.bool false)]:=by kernel_rfl
@[simp] theorem zv4:(zero? Tryz.prog 4).isSome=true:=by kernel_rfl
@[simp] theorem ap4:appElem? Tryz.prog 4=some 1:=by kernel_rfl
@[simp] theorem mk4:makeElem? Tryz.prog 4=some (1,.bool false):=by kernel_rfl
@[simp] theorem zd4:zeroD? Tryz.prog 4=some (.bool false):=by kernel_rfl
attribute [simp] Tryz.underlying5
@[simp] theorem sz5:sizeOf? Tryz.prog 5=some 1:=by kernel_rfl
@[simp] theorem ag5:agg? Tryz.prog 5=some false:=by kernel_rfl
@[simp] theorem zs5:zeroVs? Tryz.prog 5=some [.d (.int .u8 0)]:=by kernel_rfl
@[simp] theorem zv5:(zero? Tryz.prog 5).isSome=true:=by kernel_rfl
@[simp] theorem ap5:appElem? Tryz.prog 5=some 1:=by kernel_rfl
@[simp] theorem mk5:makeElem? Tryz.prog 5=some (1,.int .u8 0):=by kernel_rfl
@[simp] theorem zd5:zeroD? Tryz.prog 5=some (.int .u8 0):=by kernel_rfl
attribute [simp] Tryz.underlying9
@[simp] theorem sz9:sizeOf? Tryz.prog 9=some 1:=by kernel_rfl
@[simp] theorem ag9:agg? Tryz.prog 9=some false:=by kernel_rfl
@[simp] theorem zs9:zeroVs? Tryz.prog 9=some [.d (.str ⟨#[]⟩)]:=by kernel_rfl
@[simp] theorem zv9:(zero? Tryz.prog 9).isSome=true:=by kernel_rfl
@[simp] theorem ap9:appElem? Tryz.prog 9=some 1:=by kernel_rfl
@[simp] theorem mk9:makeElem? Tryz.prog 9=some (1,.str ⟨#[]⟩):=by kernel_rfl
@[simp] theorem zd9:zeroD? Tryz.prog 9=some (.str ⟨#[]⟩):=by kernel_rfl
attribute [simp] Tryz.underlying20
@[simp] theorem sz20:sizeOf? Tryz.prog 20=some 1:=by kernel_rfl
@[simp] theorem ag20:agg? Tryz.prog 20=some false:=by kernel_rfl
attribute [simp] Tryz.underlying21
@[simp] theorem sz21:sizeOf? Tryz.prog 21=some 1:=by kernel_rfl
@[simp] theorem ag21:agg? Tryz.prog 21=some false:=by kernel_rfl
attribute [simp] Tryz.underlying22
@[simp] theorem sz22:sizeOf? Tryz.prog 22=some 1:=by kernel_rfl
@[simp] theorem ag22:agg? Tryz.prog 22=some false:=by kernel_rfl
@[simp] theorem zs22:zeroVs? Tryz.prog 22=some [.d (.int .u64 0)]:=by kernel_rfl
@[simp] theorem zv22:(zero? Tryz.prog 22).isSome=true:=by kernel_rfl
@[simp] theorem ap22:appElem? Tryz.prog 22=some 1:=by kernel_rfl
@[simp] theorem zd22:zeroD? Tryz.prog 22=some (.int .u64 0):=by kernel_rfl
attribute [simp] Tryz.underlying23
@[simp] theorem sz23:sizeOf? Tryz.prog 23=some 4:=by kernel_rfl
@[simp] theorem ag23:agg? Tryz.prog 23=some true:=by kernel_rfl
@[simp] theorem bv23 (parts:List (Nat × V)):buildV Tryz.prog 23 parts=(fillV (fun i=>[(0,1),(1,1),(2,1),(3,1)][i]?) [.d (.int .i64 0),.d (.int .i64 0),.d (.int .u64 0),.d (.int .i64 0)] parts).map mkAgg:=buildV_struct (by kernel_rfl) (by kernel_rfl)
@[simp] theorem fo23_0:fieldOff? Tryz.prog 23 0=some (0,3):=by kernel_rfl
@[simp] theorem fo23_1:fieldOff? Tryz.prog 23 1=some (1,3):=by kernel_rfl
@[simp] theorem fo23_2:fieldOff? Tryz.prog 23 2=some (2,22):=by kernel_rfl
@[simp] theorem fo23_3:fieldOff? Tryz.prog 23 3=some (3,3):=by kernel_rfl
@[simp] theorem fs23:flatStruct Tryz.prog 23=some [(0,0),(1,0),(2,0),(3,0)]:=by kernel_rfl
attribute [simp] Tryz.underlying24
@[simp] theorem sz24:sizeOf? Tryz.prog 24=some 4:=by kernel_rfl
@[simp] theorem ag24:agg? Tryz.prog 24=some true:=by kernel_rfl
@[simp] theorem zs24:zeroVs? Tryz.prog 24=some [.d (.int .i64 0),.d (.int .i64 0),.d (.int .u64 0),.d (.int .i64 0)]:=by kernel_rfl
@[simp] theorem bv24 (parts:List (Nat × V)):buildV Tryz.prog 24 parts=(fillV (fun i=>[(0,1),(1,1),(2,1),(3,1)][i]?) [.d (.int .i64 0),.d (.int .i64 0),.d (.int .u64 0),.d (.int .i64 0)] parts).map mkAgg:=buildV_struct (by kernel_rfl) (by kernel_rfl)
@[simp] theorem fo24_0:fieldOff? Tryz.prog 24 0=some (0,3):=by kernel_rfl
@[simp] theorem fo24_1:fieldOff? Tryz.prog 24 1=some (1,3):=by kernel_rfl
@[simp] theorem fo24_2:fieldOff? Tryz.prog 24 2=some (2,22):=by kernel_rfl
@[simp] theorem fo24_3:fieldOff? Tryz.prog 24 3=some (3,3):=by kernel_rfl
@[simp] theorem fs24:flatStruct Tryz.prog 24=some [(0,0),(1,0),(2,0),(3,0)]:=by kernel_rfl
attribute [simp] Tryz.underlying25
@[simp] theorem sz25:sizeOf? Tryz.prog 25=some 1:=by kernel_rfl
@[simp] theorem ag25:agg? Tryz.prog 25=some false:=by kernel_rfl
@[simp] theorem es25:elemSize Tryz.prog 25=8:=by kernel_rfl
attribute [simp] Tryz.underlying26
@[simp] theorem sz26:sizeOf? Tryz.prog 26=some 1:=by kernel_rfl
@[simp] theorem ag26:agg? Tryz.prog 26=some false:=by kernel_rfl
@[simp] theorem es26:elemSize Tryz.prog 26=3:=by kernel_rfl
attribute [simp] Tryz.underlying27
@[simp] theorem sz27:sizeOf? Tryz.prog 27=some 1:=by kernel_rfl
@[simp] theorem ag27:agg? Tryz.prog 27=some false:=by kernel_rfl
attribute [simp] Tryz.underlying28
@[simp] theorem sz28:sizeOf? Tryz.prog 28=some 3:=by kernel_rfl
@[simp] theorem ag28:agg? Tryz.prog 28=some true:=by kernel_rfl
@[simp] theorem bv28 (parts:List (Nat × V)):buildV Tryz.prog 28 parts=(fillV (fun i=>[(0,1),(1,1),(2,1)][i]?) [.d (.int .u8 0),.d (.int .i64 0),.d (.str ⟨#[]⟩)] parts).map mkAgg:=buildV_struct (by kernel_rfl) (by kernel_rfl)
@[simp] theorem fo28_0:fieldOff? Tryz.prog 28 0=some (0,27):=by kernel_rfl
@[simp] theorem fo28_1:fieldOff? Tryz.prog 28 1=some (1,2):=by kernel_rfl
@[simp] theorem fo28_2:fieldOff? Tryz.prog 28 2=some (2,9):=by kernel_rfl
@[simp] theorem fs28:flatStruct Tryz.prog 28=some [(0,0),(1,0),(2,2)]:=by kernel_rfl
attribute [simp] Tryz.underlying29
@[simp] theorem sz29:sizeOf? Tryz.prog 29=some 3:=by kernel_rfl
@[simp] theorem ag29:agg? Tryz.prog 29=some true:=by kernel_rfl
@[simp] theorem zs29:zeroVs? Tryz.prog 29=some [.d (.int .u8 0),.d (.int .i64 0),.d (.str ⟨#[]⟩)]:=by kernel_rfl
@[simp] theorem al29 (h:List Am.Obj):allocV Tryz.prog h 29=some (.ptr h.length 0,h++[.box [.d (.int .u8 0),.d (.int .i64 0),.d (.str ⟨#[]⟩)]]):=allocV_of zs29
@[simp] theorem zv29:(zero? Tryz.prog 29).isSome=true:=by kernel_rfl
@[simp] theorem ap29:appElem? Tryz.prog 29=some 3:=by kernel_rfl
@[simp] theorem bv29 (parts:List (Nat × V)):buildV Tryz.prog 29 parts=(fillV (fun i=>[(0,1),(1,1),(2,1)][i]?) [.d (.int .u8 0),.d (.int .i64 0),.d (.str ⟨#[]⟩)] parts).map mkAgg:=buildV_struct (by kernel_rfl) (by kernel_rfl)
@[simp] theorem fo29_0:fieldOff? Tryz.prog 29 0=some (0,27):=by kernel_rfl
@[simp] theorem fo29_1:fieldOff? Tryz.prog 29 1=some (1,2):=by kernel_rfl
@[simp] theorem fo29_2:fieldOff? Tryz.prog 29 2=some (2,9):=by kernel_rfl
@[simp] theorem fs29:flatStruct Tryz.prog 29=some [(0,0),(1,0),(2,2)]:=by kernel_rfl
@[simp] theorem zd29:zeroD? Tryz.prog 29=some (.agg [.int .u8 0,.int .i64 0,.str ⟨#[]⟩]):=by kernel_rfl
attribute [simp] Tryz.underlying30
@[simp] theorem sz30:sizeOf? Tryz.prog 30=some 8:=by kernel_rfl
@[simp] theorem ag30:agg? Tryz.prog 30=some true:=by kernel_rfl
@[simp] theorem bv30 (parts:List (Nat × V)):buildV Tryz.prog 30 parts=(fillV (fun i=>[(0,1),(1,1),(2,1),(3,3),(6,1),(7,1)][i]?) [.d (.int .u64 0),.d (.int .u8 0),.nilS,.d (.int .u8 0),.d (.int .i64 0),.d (.str ⟨#[]⟩),.d (.str ⟨#[]⟩),.d (.int .u8 0)] parts).map mkAgg:=buildV_struct (by kernel_rfl) (by kernel_rfl)
@[simp] theorem fo30_0:fieldOff? Tryz.prog 30 0=some (0,22):=by kernel_rfl
@[simp] theorem fo30_1:fieldOff? Tryz.prog 30 1=some (1,5):=by kernel_rfl
@[simp] theorem fo30_2:fieldOff? Tryz.prog 30 2=some (2,26):=by kernel_rfl
@[simp] theorem fo30_3:fieldOff? Tryz.prog 30 3=some (3,29):=by kernel_rfl
@[simp] theorem fo30_4:fieldOff? Tryz.prog 30 4=some (6,9):=by kernel_rfl
@[simp] theorem fo30_5:fieldOff? Tryz.prog 30 5=some (7,27):=by kernel_rfl
attribute [simp] Tryz.underlying31
@[simp] theorem sz31:sizeOf? Tryz.prog 31=some 8:=by kernel_rfl
@[simp] theorem ag31:agg? Tryz.prog 31=some true:=by kernel_rfl
@[simp] theorem zs31:zeroVs? Tryz.prog 31=some [.d (.int .u64 0),.d (.int .u8 0),.nilS,.d (.int .u8 0),.d (.int .i64 0),.d (.str ⟨#[]⟩),.d (.str ⟨#[]⟩),.d (.int .u8 0)]:=by kernel_rfl
@[simp] theorem al31 (h:List Am.Obj):allocV Tryz.prog h 31=some (.ptr h.length 0,h++[.box [.d (.int .u64 0),.d (.int .u8 0),.nilS,.d (.int .u8 0),.d (.int .i64 0),.d (.str ⟨#[]⟩),.d (.str ⟨#[]⟩),.d (.int .u8 0)]]):=allocV_of zs31
@[simp] theorem zv31:(zero? Tryz.prog 31).isSome=true:=by kernel_rfl
@[simp] theorem ap31:appElem? Tryz.prog 31=some 8:=by kernel_rfl
@[simp] theorem bv31 (parts:List (Nat × V)):buildV Tryz.prog 31 parts=(fillV (fun i=>[(0,1),(1,1),(2,1),(3,3),(6,1),(7,1)][i]?) [.d (.int .u64 0),.d (.int .u8 0),.nilS,.d (.int .u8 0),.d (.int .i64 0),.d (.str ⟨#[]⟩),.d (.str ⟨#[]⟩),.d (.int .u8 0)] parts).map mkAgg:=buildV_struct (by kernel_rfl) (by kernel_rfl)
@[simp] theorem fo31_0:fieldOff? Tryz.prog 31 0=some (0,22):=by kernel_rfl
@[simp] theorem fo31_1:fieldOff? Tryz.prog 31 1=some (1,5):=by kernel_rfl
@[simp] theorem fo31_2:fieldOff? Tryz.prog 31 2=some (2,26):=by kernel_rfl
@[simp] theorem fo31_3:fieldOff? Tryz.prog 31 3=some (3,29):=by kernel_rfl
@[simp] theorem fo31_4:fieldOff? Tryz.prog 31 4=some (6,9):=by kernel_rfl
@[simp] theorem fo31_5:fieldOff? Tryz.prog 31 5=some (7,27):=by kernel_rfl
@[simp] theorem zd31:zeroD? Tryz.prog 31=some (.agg [.int .u64 0,.int .u8 0,.list [],.int .u8 0,.int .i64 0,.str ⟨#[]⟩,.str ⟨#[]⟩,.int .u8 0]):=by kernel_rfl
attribute [simp] Tryz.underlying35
@[simp] theorem sz35:sizeOf? Tryz.prog 35=some 1:=by kernel_rfl
@[simp] theorem ag35:agg? Tryz.prog 35=some false:=by kernel_rfl
attribute [simp] Tryz.underlying36
@[simp] theorem sz36:sizeOf? Tryz.prog 36=some 1:=by kernel_rfl
@[simp] theorem ag36:agg? Tryz.prog 36=some false:=by kernel_rfl
@[simp] theorem zs36:zeroVs? Tryz.prog 36=some [.d (.int .i64 0)]:=by kernel_rfl
@[simp] theorem al36 (h:List Am.Obj):allocV Tryz.prog h 36=some (.ptr h.length 0,h++[.box [.d (.int .i64 0)]]):=allocV_of zs36
attribute [simp] Tryz.underlying37
@[simp] theorem sz37:sizeOf? Tryz.prog 37=some 1:=by kernel_rfl
@[simp] theorem ag37:agg? Tryz.prog 37=some false:=by kernel_rfl
attribute [simp] Tryz.underlying39
@[simp] theorem sz39:sizeOf? Tryz.prog 39=some 1:=by kernel_rfl
@[simp] theorem ag39:agg? Tryz.prog 39=some false:=by kernel_rfl
attribute [simp] Tryz.underlying41
@[simp] theorem sz41:sizeOf? Tryz.prog 41=some 1:=by kernel_rfl
@[simp] theorem ag41:agg? Tryz.prog 41=some false:=by kernel_rfl
attribute [simp] Tryz.underlying42
@[simp] theorem sz42:sizeOf? Tryz.prog 42=some 1:=by kernel_rfl
@[simp] theorem ag42:agg? Tryz.prog 42=some false:=by kernel_rfl
@[simp] theorem es42:elemSize Tryz.prog 42=4:=by kernel_rfl
attribute [simp] Tryz.underlying43
@[simp] theorem sz43:sizeOf? Tryz.prog 43=some 2:=by kernel_rfl
@[simp] theorem ag43:agg? Tryz.prog 43=some true:=by kernel_rfl
@[simp] theorem bv43 (parts:List (Nat × V)):buildV Tryz.prog 43 parts=(fillV (fun i=>[(0,1),(1,1)][i]?) [.d (.int .u32 0),.nilS] parts).map mkAgg:=buildV_struct (by kernel_rfl) (by kernel_rfl)
@[simp] theorem fo43_0:fieldOff? Tryz.prog 43 0=some (0,41):=by kernel_rfl
@[simp] theorem fo43_1:fieldOff? Tryz.prog 43 1=some (1,42):=by kernel_rfl
attribute [simp] Tryz.underlying44
@[simp] theorem sz44:sizeOf? Tryz.prog 44=some 2:=by kernel_rfl
@[simp] theorem ag44:agg? Tryz.prog 44=some true:=by kernel_rfl
@[simp] theorem zs44:zeroVs? Tryz.prog 44=some [.d (.int .u32 0),.nilS]:=by kernel_rfl
@[simp] theorem al44 (h:List Am.Obj):allocV Tryz.prog h 44=some (.ptr h.length 0,h++[.box [.d (.int .u32 0),.nilS]]):=allocV_of zs44
@[simp] theorem ap44:appElem? Tryz.prog 44=some 2:=by kernel_rfl
@[simp] theorem bv44 (parts:List (Nat × V)):buildV Tryz.prog 44 parts=(fillV (fun i=>[(0,1),(1,1)][i]?) [.d (.int .u32 0),.nilS] parts).map mkAgg:=buildV_struct (by kernel_rfl) (by kernel_rfl)
@[simp] theorem fo44_0:fieldOff? Tryz.prog 44 0=some (0,41):=by kernel_rfl
@[simp] theorem fo44_1:fieldOff? Tryz.prog 44 1=some (1,42):=by kernel_rfl
@[simp] theorem zd44:zeroD? Tryz.prog 44=some (.agg [.int .u32 0,.list []]):=by kernel_rfl
attribute [simp] Tryz.underlying52
@[simp] theorem sz52:sizeOf? Tryz.prog 52=some 8:=by kernel_rfl
@[simp] theorem ag52:agg? Tryz.prog 52=some true:=by kernel_rfl
@[simp] theorem bv52 (parts:List (Nat × V)):buildV Tryz.prog 52 parts=(fillV (fun i=>[(0,2),(2,1),(3,4),(7,1)][i]?) [.d (.int .u32 0),.nilS,.nilS,.d (.int .i64 0),.d (.int .i64 0),.d (.int .u64 0),.d (.int .i64 0),.d (.int .i64 0)] parts).map mkAgg:=buildV_struct (by kernel_rfl) (by kernel_rfl)
@[simp] theorem fo52_0:fieldOff? Tryz.prog 52 0=some (0,44):=by kernel_rfl
@[simp] theorem fo52_1:fieldOff? Tryz.prog 52 1=some (2,25):=by kernel_rfl
@[simp] theorem fo52_2:fieldOff? Tryz.prog 52 2=some (3,24):=by kernel_rfl
@[simp] theorem fo52_3:fieldOff? Tryz.prog 52 3=some (7,3):=by kernel_rfl
attribute [simp] Tryz.underlying53
@[simp] theorem sz53:sizeOf? Tryz.prog 53=some 8:=by kernel_rfl
@[simp] theorem ag53:agg? Tryz.prog 53=some true:=by kernel_rfl
@[simp] theorem zs53:zeroVs? Tryz.prog 53=some [.d (.int .u32 0),.nilS,.nilS,.d (.int .i64 0),.d (.int .i64 0),.d (.int .u64 0),.d (.int .i64 0),.d (.int .i64 0)]:=by kernel_rfl
@[simp] theorem bv53 (parts:List (Nat × V)):buildV Tryz.prog 53 parts=(fillV (fun i=>[(0,2),(2,1),(3,4),(7,1)][i]?) [.d (.int .u32 0),.nilS,.nilS,.d (.int .i64 0),.d (.int .i64 0),.d (.int .u64 0),.d (.int .i64 0),.d (.int .i64 0)] parts).map mkAgg:=buildV_struct (by kernel_rfl) (by kernel_rfl)
@[simp] theorem fo53_0:fieldOff? Tryz.prog 53 0=some (0,44):=by kernel_rfl
@[simp] theorem fo53_1:fieldOff? Tryz.prog 53 1=some (2,25):=by kernel_rfl
@[simp] theorem fo53_2:fieldOff? Tryz.prog 53 2=some (3,24):=by kernel_rfl
@[simp] theorem fo53_3:fieldOff? Tryz.prog 53 3=some (7,3):=by kernel_rfl
attribute [simp] Tryz.underlying54
@[simp] theorem sz54:sizeOf? Tryz.prog 54=some 1:=by kernel_rfl
@[simp] theorem ag54:agg? Tryz.prog 54=some false:=by kernel_rfl
attribute [simp] Tryz.underlying56
@[simp] theorem sz56:sizeOf? Tryz.prog 56=some 1:=by kernel_rfl
@[simp] theorem ag56:agg? Tryz.prog 56=some false:=by kernel_rfl
attribute [simp] Tryz.underlying57
@[simp] theorem sz57:sizeOf? Tryz.prog 57=some 1:=by kernel_rfl
@[simp] theorem ag57:agg? Tryz.prog 57=some false:=by kernel_rfl
attribute [simp] Tryz.underlying63
@[simp] theorem sz63:sizeOf? Tryz.prog 63=some 1:=by kernel_rfl
@[simp] theorem ag63:agg? Tryz.prog 63=some false:=by kernel_rfl
attribute [simp] Tryz.underlying65
@[simp] theorem sz65:sizeOf? Tryz.prog 65=some 1:=by kernel_rfl
@[simp] theorem ag65:agg? Tryz.prog 65=some false:=by kernel_rfl
attribute [simp] Tryz.underlying66
@[simp] theorem sz66:sizeOf? Tryz.prog 66=some 2:=by kernel_rfl
@[simp] theorem ag66:agg? Tryz.prog 66=some true:=by kernel_rfl
@[simp] theorem bv66 (parts:List (Nat × V)):buildV Tryz.prog 66 parts=(fillV (fun i=>[(0,1),(1,1)][i]?) [.nilS,.d .nilP] parts).map mkAgg:=buildV_struct (by kernel_rfl) (by kernel_rfl)
@[simp] theorem fo66_0:fieldOff? Tryz.prog 66 0=some (0,25):=by kernel_rfl
@[simp] theorem fo66_1:fieldOff? Tryz.prog 66 1=some (1,56):=by kernel_rfl
attribute [simp] Tryz.underlying67
@[simp] theorem sz67:sizeOf? Tryz.prog 67=some 2:=by kernel_rfl
@[simp] theorem ag67:agg? Tryz.prog 67=some true:=by kernel_rfl
@[simp] theorem zs67:zeroVs? Tryz.prog 67=some [.nilS,.d .nilP]:=by kernel_rfl
@[simp] theorem bv67 (parts:List (Nat × V)):buildV Tryz.prog 67 parts=(fillV (fun i=>[(0,1),(1,1)][i]?) [.nilS,.d .nilP] parts).map mkAgg:=buildV_struct (by kernel_rfl) (by kernel_rfl)
@[simp] theorem fo67_0:fieldOff? Tryz.prog 67 0=some (0,25):=by kernel_rfl
@[simp] theorem fo67_1:fieldOff? Tryz.prog 67 1=some (1,56):=by kernel_rfl
attribute [simp] Tryz.underlying71
@[simp] theorem sz71:sizeOf? Tryz.prog 71=some 1:=by kernel_rfl
@[simp] theorem ag71:agg? Tryz.prog 71=some false:=by kernel_rfl
@[simp] theorem es71:elemSize Tryz.prog 71=2:=by kernel_rfl
attribute [simp] Tryz.underlying72
@[simp] theorem sz72:sizeOf? Tryz.prog 72=some 1:=by kernel_rfl
@[simp] theorem ag72:agg? Tryz.prog 72=some false:=by kernel_rfl
@[simp] theorem es72:elemSize Tryz.prog 72=7:=by kernel_rfl
attribute [simp] Tryz.underlying73
@[simp] theorem sz73:sizeOf? Tryz.prog 73=some 3:=by kernel_rfl
@[simp] theorem ag73:agg? Tryz.prog 73=some true:=by kernel_rfl
@[simp] theorem bv73 (parts:List (Nat × V)):buildV Tryz.prog 73 parts=(fillV (fun i=>[(0,1),(1,1),(2,1)][i]?) [.nilS,.nilS,.d (.int .u64 0)] parts).map mkAgg:=buildV_struct (by kernel_rfl) (by kernel_rfl)
@[simp] theorem fo73_0:fieldOff? Tryz.prog 73 0=some (0,71):=by kernel_rfl
@[simp] theorem fo73_1:fieldOff? Tryz.prog 73 1=some (1,72):=by kernel_rfl
@[simp] theorem fo73_2:fieldOff? Tryz.prog 73 2=some (2,22):=by kernel_rfl
attribute [simp] Tryz.underlying74
@[simp] theorem sz74:sizeOf? Tryz.prog 74=some 3:=by kernel_rfl
@[simp] theorem ag74:agg? Tryz.prog 74=some true:=by kernel_rfl
@[simp] theorem zs74:zeroVs? Tryz.prog 74=some [.nilS,.nilS,.d (.int .u64 0)]:=by kernel_rfl
@[simp] theorem al74 (h:List Am.Obj):allocV Tryz.prog h 74=some (.ptr h.length 0,h++[.box [.nilS,.nilS,.d (.int .u64 0)]]):=allocV_of zs74
@[simp] theorem bv74 (parts:List (Nat × V)):buildV Tryz.prog 74 parts=(fillV (fun i=>[(0,1),(1,1),(2,1)][i]?) [.nilS,.nilS,.d (.int .u64 0)] parts).map mkAgg:=buildV_struct (by kernel_rfl) (by kernel_rfl)
@[simp] theorem fo74_0:fieldOff? Tryz.prog 74 0=some (0,71):=by kernel_rfl
@[simp] theorem fo74_1:fieldOff? Tryz.prog 74 1=some (1,72):=by kernel_rfl
@[simp] theorem fo74_2:fieldOff? Tryz.prog 74 2=some (2,22):=by kernel_rfl
attribute [simp] Tryz.underlying75
@[simp] theorem sz75:sizeOf? Tryz.prog 75=some 1:=by kernel_rfl
@[simp] theorem ag75:agg? Tryz.prog 75=some false:=by kernel_rfl
attribute [simp] Tryz.underlying78
@[simp] theorem sz78:sizeOf? Tryz.prog 78=some 1:=by kernel_rfl
@[simp] theorem ag78:agg? Tryz.prog 78=some false:=by kernel_rfl
@[simp] theorem es78:elemSize Tryz.prog 78=1:=by kernel_rfl
attribute [simp] Tryz.underlying79
@[simp] theorem sz79:sizeOf? Tryz.prog 79=some 1:=by kernel_rfl
@[simp] theorem ag79:agg? Tryz.prog 79=some false:=by kernel_rfl
attribute [simp] Tryz.underlying81
@[simp] theorem sz81:sizeOf? Tryz.prog 81=some 1:=by kernel_rfl
@[simp] theorem ag81:agg? Tryz.prog 81=some false:=by kernel_rfl
@[simp] theorem zs81:zeroVs? Tryz.prog 81=some [.nilS]:=by kernel_rfl
@[simp] theorem al81 (h:List Am.Obj):allocV Tryz.prog h 81=some (.ptr h.length 0,h++[.box [.nilS]]):=allocV_of zs81
@[simp] theorem es81:elemSize Tryz.prog 81=1:=by kernel_rfl
attribute [simp] Tryz.underlying82
@[simp] theorem sz82:sizeOf? Tryz.prog 82=some 7:=by kernel_rfl
@[simp] theorem ag82:agg? Tryz.prog 82=some true:=by kernel_rfl
@[simp] theorem bv82 (parts:List (Nat × V)):buildV Tryz.prog 82 parts=(fillV (fun i=>[(0,1),(1,1),(2,1),(3,1),(4,1),(5,1),(6,1)][i]?) [.d (.int .u64 0),.d (.int .u64 0),.d (.int .u64 0),.d (.int .u64 0),.d (.int .u64 0),.d (.int .u32 0),.nilS] parts).map mkAgg:=buildV_struct (by kernel_rfl) (by kernel_rfl)
@[simp] theorem fo82_0:fieldOff? Tryz.prog 82 0=some (0,22):=by kernel_rfl
@[simp] theorem fo82_1:fieldOff? Tryz.prog 82 1=some (1,22):=by kernel_rfl
@[simp] theorem fo82_2:fieldOff? Tryz.prog 82 2=some (2,22):=by kernel_rfl
@[simp] theorem fo82_3:fieldOff? Tryz.prog 82 3=some (3,22):=by kernel_rfl
@[simp] theorem fo82_4:fieldOff? Tryz.prog 82 4=some (4,22):=by kernel_rfl
@[simp] theorem fo82_5:fieldOff? Tryz.prog 82 5=some (5,41):=by kernel_rfl
@[simp] theorem fo82_6:fieldOff? Tryz.prog 82 6=some (6,81):=by kernel_rfl
attribute [simp] Tryz.underlying83
@[simp] theorem sz83:sizeOf? Tryz.prog 83=some 7:=by kernel_rfl
@[simp] theorem ag83:agg? Tryz.prog 83=some true:=by kernel_rfl
@[simp] theorem zs83:zeroVs? Tryz.prog 83=some [.d (.int .u64 0),.d (.int .u64 0),.d (.int .u64 0),.d (.int .u64 0),.d (.int .u64 0),.d (.int .u32 0),.nilS]:=by kernel_rfl
@[simp] theorem al83 (h:List Am.Obj):allocV Tryz.prog h 83=some (.ptr h.length 0,h++[.box [.d (.int .u64 0),.d (.int .u64 0),.d (.int .u64 0),.d (.int .u64 0),.d (.int .u64 0),.d (.int .u32 0),.nilS]]):=allocV_of zs83
@[simp] theorem ap83:appElem? Tryz.prog 83=some 7:=by kernel_rfl
@[simp] theorem bv83 (parts:List (Nat × V)):buildV Tryz.prog 83 parts=(fillV (fun i=>[(0,1),(1,1),(2,1),(3,1),(4,1),(5,1),(6,1)][i]?) [.d (.int .u64 0),.d (.int .u64 0),.d (.int .u64 0),.d (.int .u64 0),.d (.int .u64 0),.d (.int .u32 0),.nilS] parts).map mkAgg:=buildV_struct (by kernel_rfl) (by kernel_rfl)
@[simp] theorem fo83_0:fieldOff? Tryz.prog 83 0=some (0,22):=by kernel_rfl
@[simp] theorem fo83_1:fieldOff? Tryz.prog 83 1=some (1,22):=by kernel_rfl
@[simp] theorem fo83_2:fieldOff? Tryz.prog 83 2=some (2,22):=by kernel_rfl
@[simp] theorem fo83_3:fieldOff? Tryz.prog 83 3=some (3,22):=by kernel_rfl
@[simp] theorem fo83_4:fieldOff? Tryz.prog 83 4=some (4,22):=by kernel_rfl
@[simp] theorem fo83_5:fieldOff? Tryz.prog 83 5=some (5,41):=by kernel_rfl
@[simp] theorem fo83_6:fieldOff? Tryz.prog 83 6=some (6,81):=by kernel_rfl
@[simp] theorem zd83:zeroD? Tryz.prog 83=some (.agg [.int .u64 0,.int .u64 0,.int .u64 0,.int .u64 0,.int .u64 0,.int .u32 0,.list []]):=by kernel_rfl
attribute [simp] Tryz.underlying84
@[simp] theorem sz84:sizeOf? Tryz.prog 84=some 1:=by kernel_rfl
@[simp] theorem ag84:agg? Tryz.prog 84=some false:=by kernel_rfl
attribute [simp] Tryz.underlying86
@[simp] theorem sz86:sizeOf? Tryz.prog 86=some 1:=by kernel_rfl
@[simp] theorem ag86:agg? Tryz.prog 86=some false:=by kernel_rfl
attribute [simp] Tryz.underlying87
@[simp] theorem sz87:sizeOf? Tryz.prog 87=some 16:=by kernel_rfl
@[simp] theorem ag87:agg? Tryz.prog 87=some true:=by kernel_rfl
@[simp] theorem bv87 (parts:List (Nat × V)):buildV Tryz.prog 87 parts=(fillV (fun i=>[(0,1),(1,4),(5,2),(7,2),(9,1),(10,1),(11,1),(12,1),(13,1),(14,1),(15,1)][i]?) [.d .nilP,.d (.int .i64 0),.d (.int .i64 0),.d (.int .u64 0),.d (.int .i64 0),.d (.int .u32 0),.nilS,.d (.int .u32 0),.nilS,.d (.int .u64 0),.d (.int .u64 0),.d (.int .u64 0),.d (.int .u64 0),.d (.int .i64 0),.d .nilM,.nilS] parts).map mkAgg:=buildV_struct (by kernel_rfl) (by kernel_rfl)
@[simp] theorem fo87_0:fieldOff? Tryz.prog 87 0=some (0,75):=by kernel_rfl
@[simp] theorem fo87_1:fieldOff? Tryz.prog 87 1=some (1,24):=by kernel_rfl
@[simp] theorem fo87_2:fieldOff? Tryz.prog 87 2=some (5,44):=by kernel_rfl
@[simp] theorem fo87_3:fieldOff? Tryz.prog 87 3=some (7,44):=by kernel_rfl
@[simp] theorem fo87_4:fieldOff? Tryz.prog 87 4=some (9,22):=by kernel_rfl
@[simp] theorem fo87_5:fieldOff? Tryz.prog 87 5=some (10,22):=by kernel_rfl
@[simp] theorem fo87_6:fieldOff? Tryz.prog 87 6=some (11,22):=by kernel_rfl
@[simp] theorem fo87_7:fieldOff? Tryz.prog 87 7=some (12,22):=by kernel_rfl
@[simp] theorem fo87_8:fieldOff? Tryz.prog 87 8=some (13,3):=by kernel_rfl
@[simp] theorem fo87_9:fieldOff? Tryz.prog 87 9=some (14,86):=by kernel_rfl
@[simp] theorem fo87_10:fieldOff? Tryz.prog 87 10=some (15,42):=by kernel_rfl
attribute [simp] Tryz.underlying88
@[simp] theorem sz88:sizeOf? Tryz.prog 88=some 16:=by kernel_rfl
@[simp] theorem ag88:agg? Tryz.prog 88=some true:=by kernel_rfl
@[simp] theorem zs88:zeroVs? Tryz.prog 88=some [.d .nilP,.d (.int .i64 0),.d (.int .i64 0),.d (.int .u64 0),.d (.int .i64 0),.d (.int .u32 0),.nilS,.d (.int .u32 0),.nilS,.d (.int .u64 0),.d (.int .u64 0),.d (.int .u64 0),.d (.int .u64 0),.d (.int .i64 0),.d .nilM,.nilS]:=by kernel_rfl
@[simp] theorem bv88 (parts:List (Nat × V)):buildV Tryz.prog 88 parts=(fillV (fun i=>[(0,1),(1,4),(5,2),(7,2),(9,1),(10,1),(11,1),(12,1),(13,1),(14,1),(15,1)][i]?) [.d .nilP,.d (.int .i64 0),.d (.int .i64 0),.d (.int .u64 0),.d (.int .i64 0),.d (.int .u32 0),.nilS,.d (.int .u32 0),.nilS,.d (.int .u64 0),.d (.int .u64 0),.d (.int .u64 0),.d (.int .u64 0),.d (.int .i64 0),.d .nilM,.nilS] parts).map mkAgg:=buildV_struct (by kernel_rfl) (by kernel_rfl)
@[simp] theorem fo88_0:fieldOff? Tryz.prog 88 0=some (0,75):=by kernel_rfl
@[simp] theorem fo88_1:fieldOff? Tryz.prog 88 1=some (1,24):=by kernel_rfl
@[simp] theorem fo88_2:fieldOff? Tryz.prog 88 2=some (5,44):=by kernel_rfl
@[simp] theorem fo88_3:fieldOff? Tryz.prog 88 3=some (7,44):=by kernel_rfl
@[simp] theorem fo88_4:fieldOff? Tryz.prog 88 4=some (9,22):=by kernel_rfl
@[simp] theorem fo88_5:fieldOff? Tryz.prog 88 5=some (10,22):=by kernel_rfl
@[simp] theorem fo88_6:fieldOff? Tryz.prog 88 6=some (11,22):=by kernel_rfl
@[simp] theorem fo88_7:fieldOff? Tryz.prog 88 7=some (12,22):=by kernel_rfl
@[simp] theorem fo88_8:fieldOff? Tryz.prog 88 8=some (13,3):=by kernel_rfl
@[simp] theorem fo88_9:fieldOff? Tryz.prog 88 9=some (14,86):=by kernel_rfl
@[simp] theorem fo88_10:fieldOff? Tryz.prog 88 10=some (15,42):=by kernel_rfl
attribute [simp] Tryz.underlying89
@[simp] theorem sz89:sizeOf? Tryz.prog 89=some 1:=by kernel_rfl
@[simp] theorem ag89:agg? Tryz.prog 89=some false:=by kernel_rfl
attribute [simp] Tryz.underlying90
@[simp] theorem sz90:sizeOf? Tryz.prog 90=some 7:=by kernel_rfl
@[simp] theorem ag90:agg? Tryz.prog 90=some true:=by kernel_rfl
@[simp] theorem bv90 (parts:List (Nat × V)):buildV Tryz.prog 90 parts=(fillV (fun i=>[(0,1),(1,1),(2,1),(3,1),(4,1),(5,1),(6,1)][i]?) [.d (.int .i64 0),.d (.int .i64 0),.d .nilM,.d (.str ⟨#[]⟩),.d (.int .i64 0),.d (.int .i64 0),.d (.bool false)] parts).map mkAgg:=buildV_struct (by kernel_rfl) (by kernel_rfl)
@[simp] theorem fo90_0:fieldOff? Tryz.prog 90 0=some (0,3):=by kernel_rfl
@[simp] theorem fo90_1:fieldOff? Tryz.prog 90 1=some (1,3):=by kernel_rfl
@[simp] theorem fo90_2:fieldOff? Tryz.prog 90 2=some (2,89):=by kernel_rfl
@[simp] theorem fo90_3:fieldOff? Tryz.prog 90 3=some (3,9):=by kernel_rfl
@[simp] theorem fo90_4:fieldOff? Tryz.prog 90 4=some (4,3):=by kernel_rfl
@[simp] theorem fo90_5:fieldOff? Tryz.prog 90 5=some (5,3):=by kernel_rfl
@[simp] theorem fo90_6:fieldOff? Tryz.prog 90 6=some (6,4):=by kernel_rfl
attribute [simp] Tryz.underlying91
@[simp] theorem sz91:sizeOf? Tryz.prog 91=some 7:=by kernel_rfl
@[simp] theorem ag91:agg? Tryz.prog 91=some true:=by kernel_rfl
@[simp] theorem zs91:zeroVs? Tryz.prog 91=some [.d (.int .i64 0),.d (.int .i64 0),.d .nilM,.d (.str ⟨#[]⟩),.d (.int .i64 0),.d (.int .i64 0),.d (.bool false)]:=by kernel_rfl
@[simp] theorem bv91 (parts:List (Nat × V)):buildV Tryz.prog 91 parts=(fillV (fun i=>[(0,1),(1,1),(2,1),(3,1),(4,1),(5,1),(6,1)][i]?) [.d (.int .i64 0),.d (.int .i64 0),.d .nilM,.d (.str ⟨#[]⟩),.d (.int .i64 0),.d (.int .i64 0),.d (.bool false)] parts).map mkAgg:=buildV_struct (by kernel_rfl) (by kernel_rfl)
@[simp] theorem fo91_0:fieldOff? Tryz.prog 91 0=some (0,3):=by kernel_rfl
@[simp] theorem fo91_1:fieldOff? Tryz.prog 91 1=some (1,3):=by kernel_rfl
@[simp] theorem fo91_2:fieldOff? Tryz.prog 91 2=some (2,89):=by kernel_rfl
@[simp] theorem fo91_3:fieldOff? Tryz.prog 91 3=some (3,9):=by kernel_rfl
@[simp] theorem fo91_4:fieldOff? Tryz.prog 91 4=some (4,3):=by kernel_rfl
@[simp] theorem fo91_5:fieldOff? Tryz.prog 91 5=some (5,3):=by kernel_rfl
@[simp] theorem fo91_6:fieldOff? Tryz.prog 91 6=some (6,4):=by kernel_rfl
attribute [simp] Tryz.underlying92
@[simp] theorem sz92:sizeOf? Tryz.prog 92=some 4:=by kernel_rfl
@[simp] theorem ag92:agg? Tryz.prog 92=some true:=by kernel_rfl
@[simp] theorem bv92 (parts:List (Nat × V)):buildV Tryz.prog 92 parts=(fillV (fun i=>[(0,1),(1,1),(2,1),(3,1)][i]?) [.d (.int .u32 0),.d (.str ⟨#[]⟩),.d (.int .u8 0),.d (.bool false)] parts).map mkAgg:=buildV_struct (by kernel_rfl) (by kernel_rfl)
@[simp] theorem fo92_0:fieldOff? Tryz.prog 92 0=some (0,41):=by kernel_rfl
@[simp] theorem fo92_1:fieldOff? Tryz.prog 92 1=some (1,9):=by kernel_rfl
@[simp] theorem fo92_2:fieldOff? Tryz.prog 92 2=some (2,27):=by kernel_rfl
@[simp] theorem fo92_3:fieldOff? Tryz.prog 92 3=some (3,4):=by kernel_rfl
@[simp] theorem fs92:flatStruct Tryz.prog 92=some [(0,0),(1,2),(2,0),(3,1)]:=by kernel_rfl
attribute [simp] Tryz.underlying93
@[simp] theorem sz93:sizeOf? Tryz.prog 93=some 4:=by kernel_rfl
@[simp] theorem ag93:agg? Tryz.prog 93=some true:=by kernel_rfl
@[simp] theorem zs93:zeroVs? Tryz.prog 93=some [.d (.int .u32 0),.d (.str ⟨#[]⟩),.d (.int .u8 0),.d (.bool false)]:=by kernel_rfl
@[simp] theorem al93 (h:List Am.Obj):allocV Tryz.prog h 93=some (.ptr h.length 0,h++[.box [.d (.int .u32 0),.d (.str ⟨#[]⟩),.d (.int .u8 0),.d (.bool false)]]):=allocV_of zs93
@[simp] theorem zv93:(zero? Tryz.prog 93).isSome=true:=by kernel_rfl
@[simp] theorem ap93:appElem? Tryz.prog 93=some 4:=by kernel_rfl
@[simp] theorem bv93 (parts:List (Nat × V)):buildV Tryz.prog 93 parts=(fillV (fun i=>[(0,1),(1,1),(2,1),(3,1)][i]?) [.d (.int .u32 0),.d (.str ⟨#[]⟩),.d (.int .u8 0),.d (.bool false)] parts).map mkAgg:=buildV_struct (by kernel_rfl) (by kernel_rfl)
@[simp] theorem fo93_0:fieldOff? Tryz.prog 93 0=some (0,41):=by kernel_rfl
@[simp] theorem fo93_1:fieldOff? Tryz.prog 93 1=some (1,9):=by kernel_rfl
@[simp] theorem fo93_2:fieldOff? Tryz.prog 93 2=some (2,27):=by kernel_rfl
@[simp] theorem fo93_3:fieldOff? Tryz.prog 93 3=some (3,4):=by kernel_rfl
@[simp] theorem fs93:flatStruct Tryz.prog 93=some [(0,0),(1,2),(2,0),(3,1)]:=by kernel_rfl
@[simp] theorem zd93:zeroD? Tryz.prog 93=some (.agg [.int .u32 0,.str ⟨#[]⟩,.int .u8 0,.bool false]):=by kernel_rfl
attribute [simp] Tryz.underlying101
@[simp] theorem sz101:sizeOf? Tryz.prog 101=some 1:=by kernel_rfl
@[simp] theorem ag101:agg? Tryz.prog 101=some false:=by kernel_rfl
attribute [simp] Tryz.underlying104
@[simp] theorem sz104:sizeOf? Tryz.prog 104=some 1:=by kernel_rfl
@[simp] theorem ag104:agg? Tryz.prog 104=some false:=by kernel_rfl
@[simp] theorem es104:elemSize Tryz.prog 104=1:=by kernel_rfl
attribute [simp] Tryz.underlying105
@[simp] theorem sz105:sizeOf? Tryz.prog 105=some 13:=by kernel_rfl
@[simp] theorem ag105:agg? Tryz.prog 105=some true:=by kernel_rfl
@[simp] theorem bv105 (parts:List (Nat × V)):buildV Tryz.prog 105 parts=(fillV (fun i=>[(0,1),(1,1),(2,1),(3,1),(4,1),(5,8)][i]?) [.d (.int .u8 0),.d (.int .i64 0),.d (.int .i64 0),.d (.int .u64 0),.nilS,.d (.int .u64 0),.d (.int .u8 0),.nilS,.d (.int .u8 0),.d (.int .i64 0),.d (.str ⟨#[]⟩),.d (.str ⟨#[]⟩),.d (.int .u8 0)] parts).map mkAgg:=buildV_struct (by kernel_rfl) (by kernel_rfl)
@[simp] theorem fo105_0:fieldOff? Tryz.prog 105 0=some (0,5):=by kernel_rfl
@[simp] theorem fo105_1:fieldOff? Tryz.prog 105 1=some (1,3):=by kernel_rfl
@[simp] theorem fo105_2:fieldOff? Tryz.prog 105 2=some (2,3):=by kernel_rfl
@[simp] theorem fo105_3:fieldOff? Tryz.prog 105 3=some (3,22):=by kernel_rfl
@[simp] theorem fo105_4:fieldOff? Tryz.prog 105 4=some (4,104):=by kernel_rfl
@[simp] theorem fo105_5:fieldOff? Tryz.prog 105 5=some (5,31):=by kernel_rfl
attribute [simp] Tryz.underlying106
@[simp] theorem sz106:sizeOf? Tryz.prog 106=some 13:=by kernel_rfl
@[simp] theorem ag106:agg? Tryz.prog 106=some true:=by kernel_rfl
@[simp] theorem zs106:zeroVs? Tryz.prog 106=some [.d (.int .u8 0),.d (.int .i64 0),.d (.int .i64 0),.d (.int .u64 0),.nilS,.d (.int .u64 0),.d (.int .u8 0),.nilS,.d (.int .u8 0),.d (.int .i64 0),.d (.str ⟨#[]⟩),.d (.str ⟨#[]⟩),.d (.int .u8 0)]:=by kernel_rfl
@[simp] theorem al106 (h:List Am.Obj):allocV Tryz.prog h 106=some (.ptr h.length 0,h++[.box [.d (.int .u8 0),.d (.int .i64 0),.d (.int .i64 0),.d (.int .u64 0),.nilS,.d (.int .u64 0),.d (.int .u8 0),.nilS,.d (.int .u8 0),.d (.int .i64 0),.d (.str ⟨#[]⟩),.d (.str ⟨#[]⟩),.d (.int .u8 0)]]):=allocV_of zs106
@[simp] theorem ap106:appElem? Tryz.prog 106=some 13:=by kernel_rfl
@[simp] theorem bv106 (parts:List (Nat × V)):buildV Tryz.prog 106 parts=(fillV (fun i=>[(0,1),(1,1),(2,1),(3,1),(4,1),(5,8)][i]?) [.d (.int .u8 0),.d (.int .i64 0),.d (.int .i64 0),.d (.int .u64 0),.nilS,.d (.int .u64 0),.d (.int .u8 0),.nilS,.d (.int .u8 0),.d (.int .i64 0),.d (.str ⟨#[]⟩),.d (.str ⟨#[]⟩),.d (.int .u8 0)] parts).map mkAgg:=buildV_struct (by kernel_rfl) (by kernel_rfl)
@[simp] theorem fo106_0:fieldOff? Tryz.prog 106 0=some (0,5):=by kernel_rfl
@[simp] theorem fo106_1:fieldOff? Tryz.prog 106 1=some (1,3):=by kernel_rfl
@[simp] theorem fo106_2:fieldOff? Tryz.prog 106 2=some (2,3):=by kernel_rfl
@[simp] theorem fo106_3:fieldOff? Tryz.prog 106 3=some (3,22):=by kernel_rfl
@[simp] theorem fo106_4:fieldOff? Tryz.prog 106 4=some (4,104):=by kernel_rfl
@[simp] theorem fo106_5:fieldOff? Tryz.prog 106 5=some (5,31):=by kernel_rfl
@[simp] theorem zd106:zeroD? Tryz.prog 106=some (.agg [.int .u8 0,.int .i64 0,.int .i64 0,.int .u64 0,.list [],.int .u64 0,.int .u8 0,.list [],.int .u8 0,.int .i64 0,.str ⟨#[]⟩,.str ⟨#[]⟩,.int .u8 0]):=by kernel_rfl
attribute [simp] Tryz.underlying107
@[simp] theorem sz107:sizeOf? Tryz.prog 107=some 1:=by kernel_rfl
@[simp] theorem ag107:agg? Tryz.prog 107=some false:=by kernel_rfl
attribute [simp] Tryz.underlying108
@[simp] theorem sz108:sizeOf? Tryz.prog 108=some 1:=by kernel_rfl
@[simp] theorem ag108:agg? Tryz.prog 108=some false:=by kernel_rfl
attribute [simp] Tryz.underlying109
@[simp] theorem sz109:sizeOf? Tryz.prog 109=some 1:=by kernel_rfl
@[simp] theorem ag109:agg? Tryz.prog 109=some false:=by kernel_rfl
@[simp] theorem es109:elemSize Tryz.prog 109=13:=by kernel_rfl
attribute [simp] Tryz.underlying110
@[simp] theorem sz110:sizeOf? Tryz.prog 110=some 1:=by kernel_rfl
@[simp] theorem ag110:agg? Tryz.prog 110=some false:=by kernel_rfl
attribute [simp] Tryz.underlying111
@[simp] theorem sz111:sizeOf? Tryz.prog 111=some 1:=by kernel_rfl
@[simp] theorem ag111:agg? Tryz.prog 111=some false:=by kernel_rfl
attribute [simp] Tryz.underlying113
@[simp] theorem sz113:sizeOf? Tryz.prog 113=some 1:=by kernel_rfl
@[simp] theorem ag113:agg? Tryz.prog 113=some false:=by kernel_rfl
attribute [simp] Tryz.underlying114
@[simp] theorem sz114:sizeOf? Tryz.prog 114=some 15:=by kernel_rfl
@[simp] theorem ag114:agg? Tryz.prog 114=some true:=by kernel_rfl
@[simp] theorem bv114 (parts:List (Nat × V)):buildV Tryz.prog 114 parts=(fillV (fun i=>[(0,8),(8,1),(9,1),(10,1),(11,1),(12,1),(13,1),(14,1)][i]?) [.d (.int .u32 0),.nilS,.nilS,.d (.int .i64 0),.d (.int .i64 0),.d (.int .u64 0),.d (.int .i64 0),.d (.int .i64 0),.d .nilP,.nilS,.d .nilP,.d .nilP,.d (.int .i64 0),.d .nilP,.d (.int .u64 0)] parts).map mkAgg:=buildV_struct (by kernel_rfl) (by kernel_rfl)
@[simp] theorem fo114_0:fieldOff? Tryz.prog 114 0=some (0,53):=by kernel_rfl
@[simp] theorem fo114_1:fieldOff? Tryz.prog 114 1=some (8,39):=by kernel_rfl
@[simp] theorem fo114_2:fieldOff? Tryz.prog 114 2=some (9,25):=by kernel_rfl
@[simp] theorem fo114_3:fieldOff? Tryz.prog 114 3=some (10,35):=by kernel_rfl
@[simp] theorem fo114_4:fieldOff? Tryz.prog 114 4=some (11,75):=by kernel_rfl
@[simp] theorem fo114_5:fieldOff? Tryz.prog 114 5=some (12,36):=by kernel_rfl
@[simp] theorem fo114_6:fieldOff? Tryz.prog 114 6=some (13,113):=by kernel_rfl
@[simp] theorem fo114_7:fieldOff? Tryz.prog 114 7=some (14,22):=by kernel_rfl
attribute [simp] Tryz.underlying115
@[simp] theorem sz115:sizeOf? Tryz.prog 115=some 15:=by kernel_rfl
@[simp] theorem ag115:agg? Tryz.prog 115=some true:=by kernel_rfl
@[simp] theorem zs115:zeroVs? Tryz.prog 115=some [.d (.int .u32 0),.nilS,.nilS,.d (.int .i64 0),.d (.int .i64 0),.d (.int .u64 0),.d (.int .i64 0),.d (.int .i64 0),.d .nilP,.nilS,.d .nilP,.d .nilP,.d (.int .i64 0),.d .nilP,.d (.int .u64 0)]:=by kernel_rfl
@[simp] theorem bv115 (parts:List (Nat × V)):buildV Tryz.prog 115 parts=(fillV (fun i=>[(0,8),(8,1),(9,1),(10,1),(11,1),(12,1),(13,1),(14,1)][i]?) [.d (.int .u32 0),.nilS,.nilS,.d (.int .i64 0),.d (.int .i64 0),.d (.int .u64 0),.d (.int .i64 0),.d (.int .i64 0),.d .nilP,.nilS,.d .nilP,.d .nilP,.d (.int .i64 0),.d .nilP,.d (.int .u64 0)] parts).map mkAgg:=buildV_struct (by kernel_rfl) (by kernel_rfl)
@[simp] theorem fo115_0:fieldOff? Tryz.prog 115 0=some (0,53):=by kernel_rfl
@[simp] theorem fo115_1:fieldOff? Tryz.prog 115 1=some (8,39):=by kernel_rfl
@[simp] theorem fo115_2:fieldOff? Tryz.prog 115 2=some (9,25):=by kernel_rfl
@[simp] theorem fo115_3:fieldOff? Tryz.prog 115 3=some (10,35):=by kernel_rfl
@[simp] theorem fo115_4:fieldOff? Tryz.prog 115 4=some (11,75):=by kernel_rfl
@[simp] theorem fo115_5:fieldOff? Tryz.prog 115 5=some (12,36):=by kernel_rfl
@[simp] theorem fo115_6:fieldOff? Tryz.prog 115 6=some (13,113):=by kernel_rfl
@[simp] theorem fo115_7:fieldOff? Tryz.prog 115 7=some (14,22):=by kernel_rfl
attribute [simp] Tryz.underlying116
@[simp] theorem sz116:sizeOf? Tryz.prog 116=some 1:=by kernel_rfl
@[simp] theorem ag116:agg? Tryz.prog 116=some false:=by kernel_rfl
attribute [simp] Tryz.underlying119
@[simp] theorem sz119:sizeOf? Tryz.prog 119=some 1:=by kernel_rfl
@[simp] theorem ag119:agg? Tryz.prog 119=some false:=by kernel_rfl
attribute [simp] Tryz.underlying120
@[simp] theorem sz120:sizeOf? Tryz.prog 120=some 1:=by kernel_rfl
@[simp] theorem ag120:agg? Tryz.prog 120=some false:=by kernel_rfl
@[simp] theorem es120:elemSize Tryz.prog 120=1:=by kernel_rfl
attribute [simp] Tryz.underlying121
@[simp] theorem sz121:sizeOf? Tryz.prog 121=some 4:=by kernel_rfl
@[simp] theorem ag121:agg? Tryz.prog 121=some true:=by kernel_rfl
@[simp] theorem bv121 (parts:List (Nat × V)):buildV Tryz.prog 121 parts=(fillV (fun i=>[(0,2),(2,1),(3,1)][i]?) [.d (.int .u32 0),.nilS,.nilS,.d (.int .u64 0)] parts).map mkAgg:=buildV_struct (by kernel_rfl) (by kernel_rfl)
@[simp] theorem fo121_0:fieldOff? Tryz.prog 121 0=some (0,44):=by kernel_rfl
@[simp] theorem fo121_1:fieldOff? Tryz.prog 121 1=some (2,120):=by kernel_rfl
@[simp] theorem fo121_2:fieldOff? Tryz.prog 121 2=some (3,22):=by kernel_rfl
attribute [simp] Tryz.underlying122
@[simp] theorem sz122:sizeOf? Tryz.prog 122=some 4:=by kernel_rfl
@[simp] theorem ag122:agg? Tryz.prog 122=some true:=by kernel_rfl
@[simp] theorem zs122:zeroVs? Tryz.prog 122=some [.d (.int .u32 0),.nilS,.nilS,.d (.int .u64 0)]:=by kernel_rfl
@[simp] theorem bv122 (parts:List (Nat × V)):buildV Tryz.prog 122 parts=(fillV (fun i=>[(0,2),(2,1),(3,1)][i]?) [.d (.int .u32 0),.nilS,.nilS,.d (.int .u64 0)] parts).map mkAgg:=buildV_struct (by kernel_rfl) (by kernel_rfl)
@[simp] theorem fo122_0:fieldOff? Tryz.prog 122 0=some (0,44):=by kernel_rfl
@[simp] theorem fo122_1:fieldOff? Tryz.prog 122 1=some (2,120):=by kernel_rfl
@[simp] theorem fo122_2:fieldOff? Tryz.prog 122 2=some (3,22):=by kernel_rfl
attribute [simp] Tryz.underlying124
@[simp] theorem sz124:sizeOf? Tryz.prog 124=some 2:=by kernel_rfl
@[simp] theorem ag124:agg? Tryz.prog 124=some true:=by kernel_rfl
@[simp] theorem zs124:zeroVs? Tryz.prog 124=some [.d (.str ⟨#[]⟩),.d (.str ⟨#[]⟩)]:=by kernel_rfl
@[simp] theorem al124 (h:List Am.Obj):allocV Tryz.prog h 124=some (.ptr h.length 0,h++[.box [.d (.str ⟨#[]⟩),.d (.str ⟨#[]⟩)]]):=allocV_of zs124
@[simp] theorem zv124:(zero? Tryz.prog 124).isSome=true:=by kernel_rfl
@[simp] theorem ap124:appElem? Tryz.prog 124=some 2:=by kernel_rfl
@[simp] theorem bv124 (parts:List (Nat × V)):buildV Tryz.prog 124 parts=(fillV (fun i=>some (i*1,1)) [.d (.str ⟨#[]⟩),.d (.str ⟨#[]⟩)] parts).map mkAgg:=buildV_array (by kernel_rfl) Tryz.underlying124 (by kernel_rfl)
@[simp] theorem zd124:zeroD? Tryz.prog 124=some (.agg [.str ⟨#[]⟩,.str ⟨#[]⟩]):=by kernel_rfl
attribute [simp] Tryz.underlying125
@[simp] theorem sz125:sizeOf? Tryz.prog 125=some 1:=by kernel_rfl
@[simp] theorem ag125:agg? Tryz.prog 125=some false:=by kernel_rfl
@[simp] theorem es125:elemSize Tryz.prog 125=2:=by kernel_rfl
attribute [simp] Tryz.underlying126
@[simp] theorem sz126:sizeOf? Tryz.prog 126=some 2:=by kernel_rfl
@[simp] theorem ag126:agg? Tryz.prog 126=some true:=by kernel_rfl
@[simp] theorem bv126 (parts:List (Nat × V)):buildV Tryz.prog 126 parts=(fillV (fun i=>[(0,1),(1,1)][i]?) [.nilS,.d .nilP] parts).map mkAgg:=buildV_struct (by kernel_rfl) (by kernel_rfl)
@[simp] theorem fo126_0:fieldOff? Tryz.prog 126 0=some (0,25):=by kernel_rfl
@[simp] theorem fo126_1:fieldOff? Tryz.prog 126 1=some (1,56):=by kernel_rfl
attribute [simp] Tryz.underlying127
@[simp] theorem sz127:sizeOf? Tryz.prog 127=some 2:=by kernel_rfl
@[simp] theorem ag127:agg? Tryz.prog 127=some true:=by kernel_rfl
@[simp] theorem zs127:zeroVs? Tryz.prog 127=some [.nilS,.d .nilP]:=by kernel_rfl
@[simp] theorem bv127 (parts:List (Nat × V)):buildV Tryz.prog 127 parts=(fillV (fun i=>[(0,1),(1,1)][i]?) [.nilS,.d .nilP] parts).map mkAgg:=buildV_struct (by kernel_rfl) (by kernel_rfl)
@[simp] theorem fo127_0:fieldOff? Tryz.prog 127 0=some (0,25):=by kernel_rfl
@[simp] theorem fo127_1:fieldOff? Tryz.prog 127 1=some (1,56):=by kernel_rfl
attribute [simp] Tryz.underlying129
@[simp] theorem sz129:sizeOf? Tryz.prog 129=some 1:=by kernel_rfl
@[simp] theorem ag129:agg? Tryz.prog 129=some false:=by kernel_rfl
attribute [simp] Tryz.underlying132
@[simp] theorem sz132:sizeOf? Tryz.prog 132=some 1:=by kernel_rfl
@[simp] theorem ag132:agg? Tryz.prog 132=some false:=by kernel_rfl
attribute [simp] Tryz.underlying137
@[simp] theorem sz137:sizeOf? Tryz.prog 137=some 1:=by kernel_rfl
@[simp] theorem ag137:agg? Tryz.prog 137=some false:=by kernel_rfl
attribute [simp] Tryz.underlying140
@[simp] theorem sz140:sizeOf? Tryz.prog 140=some 5:=by kernel_rfl
@[simp] theorem ag140:agg? Tryz.prog 140=some true:=by kernel_rfl
@[simp] theorem bv140 (parts:List (Nat × V)):buildV Tryz.prog 140 parts=(fillV (fun i=>[(0,1),(1,3),(4,1)][i]?) [.d .nilP,.nilS,.nilS,.d (.int .u64 0),.d (.str ⟨#[]⟩)] parts).map mkAgg:=buildV_struct (by kernel_rfl) (by kernel_rfl)
@[simp] theorem fo140_0:fieldOff? Tryz.prog 140 0=some (0,39):=by kernel_rfl
@[simp] theorem fo140_1:fieldOff? Tryz.prog 140 1=some (1,74):=by kernel_rfl
@[simp] theorem fo140_2:fieldOff? Tryz.prog 140 2=some (4,9):=by kernel_rfl
attribute [simp] Tryz.underlying141
@[simp] theorem sz141:sizeOf? Tryz.prog 141=some 5:=by kernel_rfl
@[simp] theorem ag141:agg? Tryz.prog 141=some true:=by kernel_rfl
@[simp] theorem zs141:zeroVs? Tryz.prog 141=some [.d .nilP,.nilS,.nilS,.d (.int .u64 0),.d (.str ⟨#[]⟩)]:=by kernel_rfl
@[simp] theorem bv141 (parts:List (Nat × V)):buildV Tryz.prog 141 parts=(fillV (fun i=>[(0,1),(1,3),(4,1)][i]?) [.d .nilP,.nilS,.nilS,.d (.int .u64 0),.d (.str ⟨#[]⟩)] parts).map mkAgg:=buildV_struct (by kernel_rfl) (by kernel_rfl)
@[simp] theorem fo141_0:fieldOff? Tryz.prog 141 0=some (0,39):=by kernel_rfl
@[simp] theorem fo141_1:fieldOff? Tryz.prog 141 1=some (1,74):=by kernel_rfl
@[simp] theorem fo141_2:fieldOff? Tryz.prog 141 2=some (4,9):=by kernel_rfl
attribute [simp] Tryz.underlying142
@[simp] theorem sz142:sizeOf? Tryz.prog 142=some 1:=by kernel_rfl
@[simp] theorem ag142:agg? Tryz.prog 142=some false:=by kernel_rfl
attribute [simp] Tryz.underlying144
@[simp] theorem sz144:sizeOf? Tryz.prog 144=some 1:=by kernel_rfl
@[simp] theorem ag144:agg? Tryz.prog 144=some false:=by kernel_rfl
@[simp] theorem es144:elemSize Tryz.prog 144=6:=by kernel_rfl
attribute [simp] Tryz.underlying145
@[simp] theorem sz145:sizeOf? Tryz.prog 145=some 6:=by kernel_rfl
@[simp] theorem ag145:agg? Tryz.prog 145=some true:=by kernel_rfl
@[simp] theorem bv145 (parts:List (Nat × V)):buildV Tryz.prog 145 parts=(fillV (fun i=>[(0,1),(1,1),(2,3),(5,1)][i]?) [.d (.int .u8 0),.d (.int .u32 0),.d (.int .u8 0),.d (.int .i64 0),.d (.str ⟨#[]⟩),.nilS] parts).map mkAgg:=buildV_struct (by kernel_rfl) (by kernel_rfl)
@[simp] theorem fo145_0:fieldOff? Tryz.prog 145 0=some (0,5):=by kernel_rfl
@[simp] theorem fo145_1:fieldOff? Tryz.prog 145 1=some (1,41):=by kernel_rfl
@[simp] theorem fo145_2:fieldOff? Tryz.prog 145 2=some (2,29):=by kernel_rfl
@[simp] theorem fo145_3:fieldOff? Tryz.prog 145 3=some (5,144):=by kernel_rfl
attribute [simp] Tryz.underlying146
@[simp] theorem sz146:sizeOf? Tryz.prog 146=some 6:=by kernel_rfl
@[simp] theorem ag146:agg? Tryz.prog 146=some true:=by kernel_rfl
@[simp] theorem zs146:zeroVs? Tryz.prog 146=some [.d (.int .u8 0),.d (.int .u32 0),.d (.int .u8 0),.d (.int .i64 0),.d (.str ⟨#[]⟩),.nilS]:=by kernel_rfl
@[simp] theorem al146 (h:List Am.Obj):allocV Tryz.prog h 146=some (.ptr h.length 0,h++[.box [.d (.int .u8 0),.d (.int .u32 0),.d (.int .u8 0),.d (.int .i64 0),.d (.str ⟨#[]⟩),.nilS]]):=allocV_of zs146
@[simp] theorem ap146:appElem? Tryz.prog 146=some 6:=by kernel_rfl
@[simp] theorem bv146 (parts:List (Nat × V)):buildV Tryz.prog 146 parts=(fillV (fun i=>[(0,1),(1,1),(2,3),(5,1)][i]?) [.d (.int .u8 0),.d (.int .u32 0),.d (.int .u8 0),.d (.int .i64 0),.d (.str ⟨#[]⟩),.nilS] parts).map mkAgg:=buildV_struct (by kernel_rfl) (by kernel_rfl)
@[simp] theorem fo146_0:fieldOff? Tryz.prog 146 0=some (0,5):=by kernel_rfl
@[simp] theorem fo146_1:fieldOff? Tryz.prog 146 1=some (1,41):=by kernel_rfl
@[simp] theorem fo146_2:fieldOff? Tryz.prog 146 2=some (2,29):=by kernel_rfl
@[simp] theorem fo146_3:fieldOff? Tryz.prog 146 3=some (5,144):=by kernel_rfl
@[simp] theorem zd146:zeroD? Tryz.prog 146=some (.agg [.int .u8 0,.int .u32 0,.int .u8 0,.int .i64 0,.str ⟨#[]⟩,.list []]):=by kernel_rfl
attribute [simp] Tryz.underlying148
@[simp] theorem sz148:sizeOf? Tryz.prog 148=some 1:=by kernel_rfl
@[simp] theorem ag148:agg? Tryz.prog 148=some false:=by kernel_rfl
attribute [simp] Tryz.underlying150
@[simp] theorem sz150:sizeOf? Tryz.prog 150=some 1:=by kernel_rfl
@[simp] theorem ag150:agg? Tryz.prog 150=some false:=by kernel_rfl
attribute [simp] Tryz.underlying152
@[simp] theorem sz152:sizeOf? Tryz.prog 152=some 1:=by kernel_rfl
@[simp] theorem ag152:agg? Tryz.prog 152=some false:=by kernel_rfl
@[simp] theorem es152:elemSize Tryz.prog 152=6:=by kernel_rfl
attribute [simp] Tryz.underlying153
@[simp] theorem sz153:sizeOf? Tryz.prog 153=some 1:=by kernel_rfl
@[simp] theorem ag153:agg? Tryz.prog 153=some false:=by kernel_rfl
attribute [simp] Tryz.underlying155
@[simp] theorem sz155:sizeOf? Tryz.prog 155=some 1:=by kernel_rfl
@[simp] theorem ag155:agg? Tryz.prog 155=some false:=by kernel_rfl
attribute [simp] Tryz.underlying157
@[simp] theorem sz157:sizeOf? Tryz.prog 157=some 6:=by kernel_rfl
@[simp] theorem ag157:agg? Tryz.prog 157=some true:=by kernel_rfl
@[simp] theorem bv157 (parts:List (Nat × V)):buildV Tryz.prog 157 parts=(fillV (fun i=>[(0,1),(1,1),(2,1),(3,1),(4,1),(5,1)][i]?) [.d (.bool false),.nilS,.nilS,.nilS,.d (.int .u64 0),.d (.int .u64 0)] parts).map mkAgg:=buildV_struct (by kernel_rfl) (by kernel_rfl)
@[simp] theorem fo157_0:fieldOff? Tryz.prog 157 0=some (0,4):=by kernel_rfl
@[simp] theorem fo157_1:fieldOff? Tryz.prog 157 1=some (1,42):=by kernel_rfl
@[simp] theorem fo157_2:fieldOff? Tryz.prog 157 2=some (2,152):=by kernel_rfl
@[simp] theorem fo157_3:fieldOff? Tryz.prog 157 3=some (3,81):=by kernel_rfl
@[simp] theorem fo157_4:fieldOff? Tryz.prog 157 4=some (4,22):=by kernel_rfl
@[simp] theorem fo157_5:fieldOff? Tryz.prog 157 5=some (5,22):=by kernel_rfl
attribute [simp] Tryz.underlying158
@[simp] theorem sz158:sizeOf? Tryz.prog 158=some 6:=by kernel_rfl
@[simp] theorem ag158:agg? Tryz.prog 158=some true:=by kernel_rfl
@[simp] theorem zs158:zeroVs? Tryz.prog 158=some [.d (.bool false),.nilS,.nilS,.nilS,.d (.int .u64 0),.d (.int .u64 0)]:=by kernel_rfl
@[simp] theorem bv158 (parts:List (Nat × V)):buildV Tryz.prog 158 parts=(fillV (fun i=>[(0,1),(1,1),(2,1),(3,1),(4,1),(5,1)][i]?) [.d (.bool false),.nilS,.nilS,.nilS,.d (.int .u64 0),.d (.int .u64 0)] parts).map mkAgg:=buildV_struct (by kernel_rfl) (by kernel_rfl)
@[simp] theorem fo158_0:fieldOff? Tryz.prog 158 0=some (0,4):=by kernel_rfl
@[simp] theorem fo158_1:fieldOff? Tryz.prog 158 1=some (1,42):=by kernel_rfl
@[simp] theorem fo158_2:fieldOff? Tryz.prog 158 2=some (2,152):=by kernel_rfl
@[simp] theorem fo158_3:fieldOff? Tryz.prog 158 3=some (3,81):=by kernel_rfl
@[simp] theorem fo158_4:fieldOff? Tryz.prog 158 4=some (4,22):=by kernel_rfl
@[simp] theorem fo158_5:fieldOff? Tryz.prog 158 5=some (5,22):=by kernel_rfl
attribute [simp] Tryz.underlying159
@[simp] theorem sz159:sizeOf? Tryz.prog 159=some 1:=by kernel_rfl
@[simp] theorem ag159:agg? Tryz.prog 159=some false:=by kernel_rfl
@[simp] theorem zs159:zeroVs? Tryz.prog 159=some [.nilS]:=by kernel_rfl
@[simp] theorem ap159:appElem? Tryz.prog 159=some 1:=by kernel_rfl
@[simp] theorem zd159:zeroD? Tryz.prog 159=some (.list []):=by kernel_rfl
@[simp] theorem es159:elemSize Tryz.prog 159=1:=by kernel_rfl
attribute [simp] Tryz.underlying160
@[simp] theorem sz160:sizeOf? Tryz.prog 160=some 1:=by kernel_rfl
@[simp] theorem ag160:agg? Tryz.prog 160=some false:=by kernel_rfl
attribute [simp] Tryz.underlying162
@[simp] theorem sz162:sizeOf? Tryz.prog 162=some 1:=by kernel_rfl
@[simp] theorem ag162:agg? Tryz.prog 162=some false:=by kernel_rfl
@[simp] theorem zs162:zeroVs? Tryz.prog 162=some [.d .nilI]:=by kernel_rfl
@[simp] theorem zv162:(zero? Tryz.prog 162).isSome=true:=by kernel_rfl
@[simp] theorem ap162:appElem? Tryz.prog 162=some 1:=by kernel_rfl
@[simp] theorem zd162:zeroD? Tryz.prog 162=some (.nilI):=by kernel_rfl
attribute [simp] Tryz.underlying163
@[simp] theorem sz163:sizeOf? Tryz.prog 163=some 1:=by kernel_rfl
@[simp] theorem ag163:agg? Tryz.prog 163=some false:=by kernel_rfl
attribute [simp] Tryz.underlying166
@[simp] theorem sz166:sizeOf? Tryz.prog 166=some 1:=by kernel_rfl
@[simp] theorem ag166:agg? Tryz.prog 166=some false:=by kernel_rfl
attribute [simp] Tryz.underlying172
@[simp] theorem sz172:sizeOf? Tryz.prog 172=some 4:=by kernel_rfl
@[simp] theorem ag172:agg? Tryz.prog 172=some true:=by kernel_rfl
@[simp] theorem bv172 (parts:List (Nat × V)):buildV Tryz.prog 172 parts=(fillV (fun i=>[(0,2),(2,1),(3,1)][i]?) [.d (.int .u32 0),.nilS,.d .nilM,.d (.int .u64 0)] parts).map mkAgg:=buildV_struct (by kernel_rfl) (by kernel_rfl)
@[simp] theorem fo172_0:fieldOff? Tryz.prog 172 0=some (0,44):=by kernel_rfl
@[simp] theorem fo172_1:fieldOff? Tryz.prog 172 1=some (2,86):=by kernel_rfl
@[simp] theorem fo172_2:fieldOff? Tryz.prog 172 2=some (3,22):=by kernel_rfl
attribute [simp] Tryz.underlying173
@[simp] theorem sz173:sizeOf? Tryz.prog 173=some 4:=by kernel_rfl
@[simp] theorem ag173:agg? Tryz.prog 173=some true:=by kernel_rfl
@[simp] theorem bv173 (parts:List (Nat × V)):buildV Tryz.prog 173 parts=(fillV (fun i=>[(0,2),(2,1),(3,1)][i]?) [.d (.int .u32 0),.nilS,.d .nilM,.d (.int .u64 0)] parts).map mkAgg:=buildV_struct (by kernel_rfl) (by kernel_rfl)
@[simp] theorem fo173_0:fieldOff? Tryz.prog 173 0=some (0,44):=by kernel_rfl
@[simp] theorem fo173_1:fieldOff? Tryz.prog 173 1=some (2,86):=by kernel_rfl
@[simp] theorem fo173_2:fieldOff? Tryz.prog 173 2=some (3,22):=by kernel_rfl
attribute [simp] Tryz.underlying176
@[simp] theorem sz176:sizeOf? Tryz.prog 176=some 1:=by kernel_rfl
@[simp] theorem ag176:agg? Tryz.prog 176=some false:=by kernel_rfl
attribute [simp] Tryz.underlying180
@[simp] theorem sz180:sizeOf? Tryz.prog 180=some 1:=by kernel_rfl
@[simp] theorem ag180:agg? Tryz.prog 180=some false:=by kernel_rfl
attribute [simp] Tryz.underlying182
@[simp] theorem sz182:sizeOf? Tryz.prog 182=some 1:=by kernel_rfl
@[simp] theorem ag182:agg? Tryz.prog 182=some false:=by kernel_rfl
attribute [simp] Tryz.underlying184
@[simp] theorem sz184:sizeOf? Tryz.prog 184=some 3:=by kernel_rfl
@[simp] theorem ag184:agg? Tryz.prog 184=some true:=by kernel_rfl
@[simp] theorem zs184:zeroVs? Tryz.prog 184=some [.d (.int .i64 0),.d (.int .i64 0),.d (.int .i64 0)]:=by kernel_rfl
@[simp] theorem al184 (h:List Am.Obj):allocV Tryz.prog h 184=some (.ptr h.length 0,h++[.box [.d (.int .i64 0),.d (.int .i64 0),.d (.int .i64 0)]]):=allocV_of zs184
@[simp] theorem bv184 (parts:List (Nat × V)):buildV Tryz.prog 184 parts=(fillV (fun i=>some (i*1,1)) [.d (.int .i64 0),.d (.int .i64 0),.d (.int .i64 0)] parts).map mkAgg:=buildV_array (by kernel_rfl) Tryz.underlying184 (by kernel_rfl)
attribute [simp] Tryz.underlying185
@[simp] theorem sz185:sizeOf? Tryz.prog 185=some 1:=by kernel_rfl
@[simp] theorem ag185:agg? Tryz.prog 185=some false:=by kernel_rfl
attribute [simp] Tryz.underlying199
@[simp] theorem sz199:sizeOf? Tryz.prog 199=some 1:=by kernel_rfl
@[simp] theorem ag199:agg? Tryz.prog 199=some false:=by kernel_rfl
@[simp] theorem es199:elemSize Tryz.prog 199=1:=by kernel_rfl
attribute [simp] Tryz.underlying204
@[simp] theorem sz204:sizeOf? Tryz.prog 204=some 1:=by kernel_rfl
@[simp] theorem ag204:agg? Tryz.prog 204=some false:=by kernel_rfl
attribute [simp] Tryz.underlying205
@[simp] theorem sz205:sizeOf? Tryz.prog 205=some 1:=by kernel_rfl
@[simp] theorem ag205:agg? Tryz.prog 205=some false:=by kernel_rfl
@[simp] theorem es205:elemSize Tryz.prog 205=1:=by kernel_rfl
attribute [simp] Tryz.underlying206
@[simp] theorem sz206:sizeOf? Tryz.prog 206=some 1:=by kernel_rfl
@[simp] theorem ag206:agg? Tryz.prog 206=some false:=by kernel_rfl
attribute [simp] Tryz.underlying212
@[simp] theorem sz212:sizeOf? Tryz.prog 212=some 1:=by kernel_rfl
@[simp] theorem ag212:agg? Tryz.prog 212=some false:=by kernel_rfl
attribute [simp] Tryz.underlying213
@[simp] theorem sz213:sizeOf? Tryz.prog 213=some 1:=by kernel_rfl
@[simp] theorem ag213:agg? Tryz.prog 213=some false:=by kernel_rfl
attribute [simp] Tryz.underlying214
@[simp] theorem sz214:sizeOf? Tryz.prog 214=some 1:=by kernel_rfl
@[simp] theorem ag214:agg? Tryz.prog 214=some false:=by kernel_rfl
@[simp] theorem es214:elemSize Tryz.prog 214=1:=by kernel_rfl
attribute [simp] Tryz.underlying215
@[simp] theorem sz215:sizeOf? Tryz.prog 215=some 3:=by kernel_rfl
@[simp] theorem ag215:agg? Tryz.prog 215=some true:=by kernel_rfl
@[simp] theorem bv215 (parts:List (Nat × V)):buildV Tryz.prog 215 parts=(fillV (fun i=>[(0,1),(1,1),(2,1)][i]?) [.d .nilP,.d .nilM,.nilS] parts).map mkAgg:=buildV_struct (by kernel_rfl) (by kernel_rfl)
@[simp] theorem fo215_0:fieldOff? Tryz.prog 215 0=some (0,75):=by kernel_rfl
@[simp] theorem fo215_1:fieldOff? Tryz.prog 215 1=some (1,213):=by kernel_rfl
@[simp] theorem fo215_2:fieldOff? Tryz.prog 215 2=some (2,214):=by kernel_rfl
attribute [simp] Tryz.underlying216
@[simp] theorem sz216:sizeOf? Tryz.prog 216=some 3:=by kernel_rfl
@[simp] theorem ag216:agg? Tryz.prog 216=some true:=by kernel_rfl
@[simp] theorem bv216 (parts:List (Nat × V)):buildV Tryz.prog 216 parts=(fillV (fun i=>[(0,1),(1,1),(2,1)][i]?) [.d .nilP,.d .nilM,.nilS] parts).map mkAgg:=buildV_struct (by kernel_rfl) (by kernel_rfl)
@[simp] theorem fo216_0:fieldOff? Tryz.prog 216 0=some (0,75):=by kernel_rfl
@[simp] theorem fo216_1:fieldOff? Tryz.prog 216 1=some (1,213):=by kernel_rfl
@[simp] theorem fo216_2:fieldOff? Tryz.prog 216 2=some (2,214):=by kernel_rfl
attribute [simp] Tryz.underlying217
@[simp] theorem sz217:sizeOf? Tryz.prog 217=some 1:=by kernel_rfl
@[simp] theorem ag217:agg? Tryz.prog 217=some false:=by kernel_rfl
@[simp] theorem es217:elemSize Tryz.prog 217=7:=by kernel_rfl
attribute [simp] Tryz.underlying219
@[simp] theorem sz219:sizeOf? Tryz.prog 219=some 1:=by kernel_rfl
@[simp] theorem ag219:agg? Tryz.prog 219=some false:=by kernel_rfl
@[simp] theorem es219:elemSize Tryz.prog 219=10:=by kernel_rfl
attribute [simp] Tryz.underlying220
@[simp] theorem sz220:sizeOf? Tryz.prog 220=some 6:=by kernel_rfl
@[simp] theorem ag220:agg? Tryz.prog 220=some true:=by kernel_rfl
@[simp] theorem bv220 (parts:List (Nat × V)):buildV Tryz.prog 220 parts=(fillV (fun i=>[(0,1),(1,1),(2,1),(3,1),(4,1),(5,1)][i]?) [.d (.str ⟨#[]⟩),.d (.bool false),.d (.int .u64 0),.d (.int .i64 0),.d (.int .u32 0),.nilS] parts).map mkAgg:=buildV_struct (by kernel_rfl) (by kernel_rfl)
@[simp] theorem fo220_0:fieldOff? Tryz.prog 220 0=some (0,9):=by kernel_rfl
@[simp] theorem fo220_1:fieldOff? Tryz.prog 220 1=some (1,4):=by kernel_rfl
@[simp] theorem fo220_2:fieldOff? Tryz.prog 220 2=some (2,22):=by kernel_rfl
@[simp] theorem fo220_3:fieldOff? Tryz.prog 220 3=some (3,3):=by kernel_rfl
@[simp] theorem fo220_4:fieldOff? Tryz.prog 220 4=some (4,41):=by kernel_rfl
@[simp] theorem fo220_5:fieldOff? Tryz.prog 220 5=some (5,219):=by kernel_rfl
attribute [simp] Tryz.underlying221
@[simp] theorem sz221:sizeOf? Tryz.prog 221=some 6:=by kernel_rfl
@[simp] theorem ag221:agg? Tryz.prog 221=some true:=by kernel_rfl
@[simp] theorem zs221:zeroVs? Tryz.prog 221=some [.d (.str ⟨#[]⟩),.d (.bool false),.d (.int .u64 0),.d (.int .i64 0),.d (.int .u32 0),.nilS]:=by kernel_rfl
@[simp] theorem al221 (h:List Am.Obj):allocV Tryz.prog h 221=some (.ptr h.length 0,h++[.box [.d (.str ⟨#[]⟩),.d (.bool false),.d (.int .u64 0),.d (.int .i64 0),.d (.int .u32 0),.nilS]]):=allocV_of zs221
@[simp] theorem zv221:(zero? Tryz.prog 221).isSome=true:=by kernel_rfl
@[simp] theorem ap221:appElem? Tryz.prog 221=some 6:=by kernel_rfl
@[simp] theorem bv221 (parts:List (Nat × V)):buildV Tryz.prog 221 parts=(fillV (fun i=>[(0,1),(1,1),(2,1),(3,1),(4,1),(5,1)][i]?) [.d (.str ⟨#[]⟩),.d (.bool false),.d (.int .u64 0),.d (.int .i64 0),.d (.int .u32 0),.nilS] parts).map mkAgg:=buildV_struct (by kernel_rfl) (by kernel_rfl)
@[simp] theorem fo221_0:fieldOff? Tryz.prog 221 0=some (0,9):=by kernel_rfl
@[simp] theorem fo221_1:fieldOff? Tryz.prog 221 1=some (1,4):=by kernel_rfl
@[simp] theorem fo221_2:fieldOff? Tryz.prog 221 2=some (2,22):=by kernel_rfl
@[simp] theorem fo221_3:fieldOff? Tryz.prog 221 3=some (3,3):=by kernel_rfl
@[simp] theorem fo221_4:fieldOff? Tryz.prog 221 4=some (4,41):=by kernel_rfl
@[simp] theorem fo221_5:fieldOff? Tryz.prog 221 5=some (5,219):=by kernel_rfl
@[simp] theorem zd221:zeroD? Tryz.prog 221=some (.agg [.str ⟨#[]⟩,.bool false,.int .u64 0,.int .i64 0,.int .u32 0,.list []]):=by kernel_rfl
attribute [simp] Tryz.underlying222
@[simp] theorem sz222:sizeOf? Tryz.prog 222=some 7:=by kernel_rfl
@[simp] theorem ag222:agg? Tryz.prog 222=some true:=by kernel_rfl
@[simp] theorem bv222 (parts:List (Nat × V)):buildV Tryz.prog 222 parts=(fillV (fun i=>[(0,6),(6,1)][i]?) [.d (.str ⟨#[]⟩),.d (.bool false),.d (.int .u64 0),.d (.int .i64 0),.d (.int .u32 0),.nilS,.nilS] parts).map mkAgg:=buildV_struct (by kernel_rfl) (by kernel_rfl)
@[simp] theorem fo222_0:fieldOff? Tryz.prog 222 0=some (0,221):=by kernel_rfl
@[simp] theorem fo222_1:fieldOff? Tryz.prog 222 1=some (6,81):=by kernel_rfl
attribute [simp] Tryz.underlying223
@[simp] theorem sz223:sizeOf? Tryz.prog 223=some 7:=by kernel_rfl
@[simp] theorem ag223:agg? Tryz.prog 223=some true:=by kernel_rfl
@[simp] theorem bv223 (parts:List (Nat × V)):buildV Tryz.prog 223 parts=(fillV (fun i=>[(0,6),(6,1)][i]?) [.d (.str ⟨#[]⟩),.d (.bool false),.d (.int .u64 0),.d (.int .i64 0),.d (.int .u32 0),.nilS,.nilS] parts).map mkAgg:=buildV_struct (by kernel_rfl) (by kernel_rfl)
@[simp] theorem fo223_0:fieldOff? Tryz.prog 223 0=some (0,221):=by kernel_rfl
@[simp] theorem fo223_1:fieldOff? Tryz.prog 223 1=some (6,81):=by kernel_rfl
attribute [simp] Tryz.underlying224
@[simp] theorem sz224:sizeOf? Tryz.prog 224=some 1:=by kernel_rfl
@[simp] theorem ag224:agg? Tryz.prog 224=some false:=by kernel_rfl
attribute [simp] Tryz.underlying227
@[simp] theorem sz227:sizeOf? Tryz.prog 227=some 1:=by kernel_rfl
@[simp] theorem ag227:agg? Tryz.prog 227=some false:=by kernel_rfl
attribute [simp] Tryz.underlying230
@[simp] theorem sz230:sizeOf? Tryz.prog 230=some 1:=by kernel_rfl
@[simp] theorem ag230:agg? Tryz.prog 230=some false:=by kernel_rfl
attribute [simp] Tryz.underlying231
@[simp] theorem sz231:sizeOf? Tryz.prog 231=some 1:=by kernel_rfl
@[simp] theorem ag231:agg? Tryz.prog 231=some false:=by kernel_rfl
attribute [simp] Tryz.underlying234
@[simp] theorem sz234:sizeOf? Tryz.prog 234=some 1:=by kernel_rfl
@[simp] theorem ag234:agg? Tryz.prog 234=some false:=by kernel_rfl
attribute [simp] Tryz.underlying236
@[simp] theorem sz236:sizeOf? Tryz.prog 236=some 1:=by kernel_rfl
@[simp] theorem ag236:agg? Tryz.prog 236=some false:=by kernel_rfl
@[simp] theorem es236:elemSize Tryz.prog 236=1:=by kernel_rfl
attribute [simp] Tryz.underlying237
@[simp] theorem sz237:sizeOf? Tryz.prog 237=some 1:=by kernel_rfl
@[simp] theorem ag237:agg? Tryz.prog 237=some false:=by kernel_rfl
attribute [simp] Tryz.underlying244
@[simp] theorem sz244:sizeOf? Tryz.prog 244=some 1:=by kernel_rfl
@[simp] theorem ag244:agg? Tryz.prog 244=some false:=by kernel_rfl
attribute [simp] Tryz.underlying245
@[simp] theorem sz245:sizeOf? Tryz.prog 245=some 1:=by kernel_rfl
@[simp] theorem ag245:agg? Tryz.prog 245=some false:=by kernel_rfl
attribute [simp] Tryz.underlying250
@[simp] theorem sz250:sizeOf? Tryz.prog 250=some 10:=by kernel_rfl
@[simp] theorem ag250:agg? Tryz.prog 250=some true:=by kernel_rfl
@[simp] theorem bv250 (parts:List (Nat × V)):buildV Tryz.prog 250 parts=(fillV (fun i=>[(0,1),(1,1),(2,1),(3,1),(4,3),(7,3)][i]?) [.d (.int .i64 0),.d (.int .i64 0),.d (.bool false),.d (.bool false),.d (.int .u8 0),.d (.int .i64 0),.d (.str ⟨#[]⟩),.d (.int .u8 0),.d (.int .i64 0),.d (.str ⟨#[]⟩)] parts).map mkAgg:=buildV_struct (by kernel_rfl) (by kernel_rfl)
@[simp] theorem fo250_0:fieldOff? Tryz.prog 250 0=some (0,3):=by kernel_rfl
@[simp] theorem fo250_1:fieldOff? Tryz.prog 250 1=some (1,3):=by kernel_rfl
@[simp] theorem fo250_2:fieldOff? Tryz.prog 250 2=some (2,4):=by kernel_rfl
@[simp] theorem fo250_3:fieldOff? Tryz.prog 250 3=some (3,4):=by kernel_rfl
@[simp] theorem fo250_4:fieldOff? Tryz.prog 250 4=some (4,29):=by kernel_rfl
@[simp] theorem fo250_5:fieldOff? Tryz.prog 250 5=some (7,29):=by kernel_rfl
@[simp] theorem fs250:flatStruct Tryz.prog 250=some [(0,0),(1,0),(2,1),(3,1),(4,0),(5,0),(6,2),(7,0),(8,0),(9,2)]:=by kernel_rfl
attribute [simp] Tryz.underlying251
@[simp] theorem sz251:sizeOf? Tryz.prog 251=some 10:=by kernel_rfl
@[simp] theorem ag251:agg? Tryz.prog 251=some true:=by kernel_rfl
@[simp] theorem zs251:zeroVs? Tryz.prog 251=some [.d (.int .i64 0),.d (.int .i64 0),.d (.bool false),.d (.bool false),.d (.int .u8 0),.d (.int .i64 0),.d (.str ⟨#[]⟩),.d (.int .u8 0),.d (.int .i64 0),.d (.str ⟨#[]⟩)]:=by kernel_rfl
@[simp] theorem zv251:(zero? Tryz.prog 251).isSome=true:=by kernel_rfl
@[simp] theorem ap251:appElem? Tryz.prog 251=some 10:=by kernel_rfl
@[simp] theorem bv251 (parts:List (Nat × V)):buildV Tryz.prog 251 parts=(fillV (fun i=>[(0,1),(1,1),(2,1),(3,1),(4,3),(7,3)][i]?) [.d (.int .i64 0),.d (.int .i64 0),.d (.bool false),.d (.bool false),.d (.int .u8 0),.d (.int .i64 0),.d (.str ⟨#[]⟩),.d (.int .u8 0),.d (.int .i64 0),.d (.str ⟨#[]⟩)] parts).map mkAgg:=buildV_struct (by kernel_rfl) (by kernel_rfl)
@[simp] theorem fo251_0:fieldOff? Tryz.prog 251 0=some (0,3):=by kernel_rfl
@[simp] theorem fo251_1:fieldOff? Tryz.prog 251 1=some (1,3):=by kernel_rfl
@[simp] theorem fo251_2:fieldOff? Tryz.prog 251 2=some (2,4):=by kernel_rfl
@[simp] theorem fo251_3:fieldOff? Tryz.prog 251 3=some (3,4):=by kernel_rfl
@[simp] theorem fo251_4:fieldOff? Tryz.prog 251 4=some (4,29):=by kernel_rfl
@[simp] theorem fo251_5:fieldOff? Tryz.prog 251 5=some (7,29):=by kernel_rfl
@[simp] theorem fs251:flatStruct Tryz.prog 251=some [(0,0),(1,0),(2,1),(3,1),(4,0),(5,0),(6,2),(7,0),(8,0),(9,2)]:=by kernel_rfl
@[simp] theorem zd251:zeroD? Tryz.prog 251=some (.agg [.int .i64 0,.int .i64 0,.bool false,.bool false,.int .u8 0,.int .i64 0,.str ⟨#[]⟩,.int .u8 0,.int .i64 0,.str ⟨#[]⟩]):=by kernel_rfl
attribute [simp] Tryz.underlying256
@[simp] theorem sz256:sizeOf? Tryz.prog 256=some 1:=by kernel_rfl
@[simp] theorem ag256:agg? Tryz.prog 256=some false:=by kernel_rfl
attribute [simp] Tryz.underlying263
@[simp] theorem sz263:sizeOf? Tryz.prog 263=some 2:=by kernel_rfl
@[simp] theorem ag263:agg? Tryz.prog 263=some true:=by kernel_rfl
@[simp] theorem bv263 (parts:List (Nat × V)):buildV Tryz.prog 263 parts=(fillV (fun i=>[(0,1),(1,1)][i]?) [.nilS,.d (.bool false)] parts).map mkAgg:=buildV_struct (by kernel_rfl) (by kernel_rfl)
@[simp] theorem fo263_0:fieldOff? Tryz.prog 263 0=some (0,236):=by kernel_rfl
@[simp] theorem fo263_1:fieldOff? Tryz.prog 263 1=some (1,4):=by kernel_rfl
attribute [simp] Tryz.underlying264
@[simp] theorem sz264:sizeOf? Tryz.prog 264=some 2:=by kernel_rfl
@[simp] theorem ag264:agg? Tryz.prog 264=some true:=by kernel_rfl
@[simp] theorem bv264 (parts:List (Nat × V)):buildV Tryz.prog 264 parts=(fillV (fun i=>[(0,1),(1,1)][i]?) [.nilS,.d (.bool false)] parts).map mkAgg:=buildV_struct (by kernel_rfl) (by kernel_rfl)
@[simp] theorem fo264_0:fieldOff? Tryz.prog 264 0=some (0,236):=by kernel_rfl
@[simp] theorem fo264_1:fieldOff? Tryz.prog 264 1=some (1,4):=by kernel_rfl
attribute [simp] Tryz.underlying265
@[simp] theorem sz265:sizeOf? Tryz.prog 265=some 3:=by kernel_rfl
@[simp] theorem ag265:agg? Tryz.prog 265=some true:=by kernel_rfl
@[simp] theorem bv265 (parts:List (Nat × V)):buildV Tryz.prog 265 parts=(fillV (fun i=>[(0,1),(1,1),(2,1)][i]?) [.d (.int .u64 0),.nilS,.nilS] parts).map mkAgg:=buildV_struct (by kernel_rfl) (by kernel_rfl)
@[simp] theorem fo265_0:fieldOff? Tryz.prog 265 0=some (0,22):=by kernel_rfl
@[simp] theorem fo265_1:fieldOff? Tryz.prog 265 1=some (1,81):=by kernel_rfl
@[simp] theorem fo265_2:fieldOff? Tryz.prog 265 2=some (2,152):=by kernel_rfl
attribute [simp] Tryz.underlying266
@[simp] theorem sz266:sizeOf? Tryz.prog 266=some 3:=by kernel_rfl
@[simp] theorem ag266:agg? Tryz.prog 266=some true:=by kernel_rfl
@[simp] theorem zs266:zeroVs? Tryz.prog 266=some [.d (.int .u64 0),.nilS,.nilS]:=by kernel_rfl
@[simp] theorem al266 (h:List Am.Obj):allocV Tryz.prog h 266=some (.ptr h.length 0,h++[.box [.d (.int .u64 0),.nilS,.nilS]]):=allocV_of zs266
@[simp] theorem bv266 (parts:List (Nat × V)):buildV Tryz.prog 266 parts=(fillV (fun i=>[(0,1),(1,1),(2,1)][i]?) [.d (.int .u64 0),.nilS,.nilS] parts).map mkAgg:=buildV_struct (by kernel_rfl) (by kernel_rfl)
@[simp] theorem fo266_0:fieldOff? Tryz.prog 266 0=some (0,22):=by kernel_rfl
@[simp] theorem fo266_1:fieldOff? Tryz.prog 266 1=some (1,81):=by kernel_rfl
@[simp] theorem fo266_2:fieldOff? Tryz.prog 266 2=some (2,152):=by kernel_rfl
attribute [simp] Tryz.underlying268
@[simp] theorem sz268:sizeOf? Tryz.prog 268=some 1:=by kernel_rfl
@[simp] theorem ag268:agg? Tryz.prog 268=some false:=by kernel_rfl
attribute [simp] Tryz.underlying271
@[simp] theorem sz271:sizeOf? Tryz.prog 271=some 2:=by kernel_rfl
@[simp] theorem ag271:agg? Tryz.prog 271=some true:=by kernel_rfl
@[simp] theorem bv271 (parts:List (Nat × V)):buildV Tryz.prog 271 parts=(fillV (fun i=>[(0,1),(1,1)][i]?) [.d (.int .i64 0),.d (.int .u64 0)] parts).map mkAgg:=buildV_struct (by kernel_rfl) (by kernel_rfl)
@[simp] theorem fo271_0:fieldOff? Tryz.prog 271 0=some (0,3):=by kernel_rfl
@[simp] theorem fo271_1:fieldOff? Tryz.prog 271 1=some (1,22):=by kernel_rfl
@[simp] theorem fs271:flatStruct Tryz.prog 271=some [(0,0),(1,0)]:=by kernel_rfl
attribute [simp] Tryz.underlying272
@[simp] theorem sz272:sizeOf? Tryz.prog 272=some 2:=by kernel_rfl
@[simp] theorem ag272:agg? Tryz.prog 272=some true:=by kernel_rfl
@[simp] theorem bv272 (parts:List (Nat × V)):buildV Tryz.prog 272 parts=(fillV (fun i=>[(0,1),(1,1)][i]?) [.d (.int .i64 0),.d (.int .u64 0)] parts).map mkAgg:=buildV_struct (by kernel_rfl) (by kernel_rfl)
@[simp] theorem fo272_0:fieldOff? Tryz.prog 272 0=some (0,3):=by kernel_rfl
@[simp] theorem fo272_1:fieldOff? Tryz.prog 272 1=some (1,22):=by kernel_rfl
@[simp] theorem fs272:flatStruct Tryz.prog 272=some [(0,0),(1,0)]:=by kernel_rfl
attribute [simp] Tryz.underlying273
@[simp] theorem sz273:sizeOf? Tryz.prog 273=some 1:=by kernel_rfl
@[simp] theorem ag273:agg? Tryz.prog 273=some false:=by kernel_rfl
attribute [simp] Tryz.underlying275
@[simp] theorem sz275:sizeOf? Tryz.prog 275=some 1:=by kernel_rfl
@[simp] theorem ag275:agg? Tryz.prog 275=some false:=by kernel_rfl
attribute [simp] Tryz.underlying280
@[simp] theorem sz280:sizeOf? Tryz.prog 280=some 1:=by kernel_rfl
@[simp] theorem ag280:agg? Tryz.prog 280=some false:=by kernel_rfl
attribute [simp] Tryz.underlying283
@[simp] theorem sz283:sizeOf? Tryz.prog 283=some 1:=by kernel_rfl
@[simp] theorem ag283:agg? Tryz.prog 283=some false:=by kernel_rfl
attribute [simp] Tryz.underlying284
@[simp] theorem sz284:sizeOf? Tryz.prog 284=some 1:=by kernel_rfl
@[simp] theorem ag284:agg? Tryz.prog 284=some false:=by kernel_rfl
attribute [simp] Tryz.underlying285
@[simp] theorem sz285:sizeOf? Tryz.prog 285=some 1:=by kernel_rfl
@[simp] theorem ag285:agg? Tryz.prog 285=some false:=by kernel_rfl
attribute [simp] Tryz.underlying289
@[simp] theorem sz289:sizeOf? Tryz.prog 289=some 1:=by kernel_rfl
@[simp] theorem ag289:agg? Tryz.prog 289=some false:=by kernel_rfl
attribute [simp] Tryz.underlying296
@[simp] theorem sz296:sizeOf? Tryz.prog 296=some 1:=by kernel_rfl
@[simp] theorem ag296:agg? Tryz.prog 296=some false:=by kernel_rfl
attribute [simp] Tryz.underlying301
@[simp] theorem sz301:sizeOf? Tryz.prog 301=some 1:=by kernel_rfl
@[simp] theorem ag301:agg? Tryz.prog 301=some false:=by kernel_rfl
attribute [simp] Tryz.underlying302
@[simp] theorem sz302:sizeOf? Tryz.prog 302=some 3:=by kernel_rfl
@[simp] theorem ag302:agg? Tryz.prog 302=some true:=by kernel_rfl
@[simp] theorem bv302 (parts:List (Nat × V)):buildV Tryz.prog 302 parts=(fillV (fun i=>some (i*1,1)) [.d (.bool false),.d (.bool false),.d (.bool false)] parts).map mkAgg:=buildV_array (by kernel_rfl) Tryz.underlying302 (by kernel_rfl)
attribute [simp] Tryz.underlying306
@[simp] theorem sz306:sizeOf? Tryz.prog 306=some 1:=by kernel_rfl
@[simp] theorem ag306:agg? Tryz.prog 306=some false:=by kernel_rfl
attribute [simp] Tryz.underlying307
@[simp] theorem sz307:sizeOf? Tryz.prog 307=some 1:=by kernel_rfl
@[simp] theorem ag307:agg? Tryz.prog 307=some false:=by kernel_rfl
attribute [simp] Tryz.underlying309
@[simp] theorem sz309:sizeOf? Tryz.prog 309=some 1:=by kernel_rfl
@[simp] theorem ag309:agg? Tryz.prog 309=some false:=by kernel_rfl
attribute [simp] Tryz.underlying310
@[simp] theorem sz310:sizeOf? Tryz.prog 310=some 1:=by kernel_rfl
@[simp] theorem ag310:agg? Tryz.prog 310=some false:=by kernel_rfl
attribute [simp] Tryz.underlying313
@[simp] theorem sz313:sizeOf? Tryz.prog 313=some 1:=by kernel_rfl
@[simp] theorem ag313:agg? Tryz.prog 313=some false:=by kernel_rfl
attribute [simp] Tryz.underlying314
@[simp] theorem sz314:sizeOf? Tryz.prog 314=some 1:=by kernel_rfl
@[simp] theorem ag314:agg? Tryz.prog 314=some false:=by kernel_rfl
attribute [simp] Tryz.underlying315
@[simp] theorem sz315:sizeOf? Tryz.prog 315=some 1:=by kernel_rfl
@[simp] theorem ag315:agg? Tryz.prog 315=some false:=by kernel_rfl
attribute [simp] Tryz.underlying318
@[simp] theorem sz318:sizeOf? Tryz.prog 318=some 1:=by kernel_rfl
@[simp] theorem ag318:agg? Tryz.prog 318=some false:=by kernel_rfl
attribute [simp] Tryz.underlying334
@[simp] theorem sz334:sizeOf? Tryz.prog 334=some 1:=by kernel_rfl
@[simp] theorem ag334:agg? Tryz.prog 334=some false:=by kernel_rfl
attribute [simp] Tryz.underlying335
@[simp] theorem sz335:sizeOf? Tryz.prog 335=some 1:=by kernel_rfl
@[simp] theorem ag335:agg? Tryz.prog 335=some false:=by kernel_rfl
attribute [simp] Tryz.underlying337
@[simp] theorem sz337:sizeOf? Tryz.prog 337=some 1:=by kernel_rfl
@[simp] theorem ag337:agg? Tryz.prog 337=some false:=by kernel_rfl
attribute [simp] Tryz.underlying338
@[simp] theorem sz338:sizeOf? Tryz.prog 338=some 2:=by kernel_rfl
@[simp] theorem ag338:agg? Tryz.prog 338=some true:=by kernel_rfl
@[simp] theorem bv338 (parts:List (Nat × V)):buildV Tryz.prog 338 parts=(fillV (fun i=>[(0,1),(1,1)][i]?) [.nilS,.d (.bool false)] parts).map mkAgg:=buildV_struct (by kernel_rfl) (by kernel_rfl)
@[simp] theorem fo338_0:fieldOff? Tryz.prog 338 0=some (0,236):=by kernel_rfl
@[simp] theorem fo338_1:fieldOff? Tryz.prog 338 1=some (1,4):=by kernel_rfl
attribute [simp] Tryz.underlying339
@[simp] theorem sz339:sizeOf? Tryz.prog 339=some 2:=by kernel_rfl
@[simp] theorem ag339:agg? Tryz.prog 339=some true:=by kernel_rfl
@[simp] theorem bv339 (parts:List (Nat × V)):buildV Tryz.prog 339 parts=(fillV (fun i=>[(0,1),(1,1)][i]?) [.nilS,.d (.bool false)] parts).map mkAgg:=buildV_struct (by kernel_rfl) (by kernel_rfl)
@[simp] theorem fo339_0:fieldOff? Tryz.prog 339 0=some (0,236):=by kernel_rfl
@[simp] theorem fo339_1:fieldOff? Tryz.prog 339 1=some (1,4):=by kernel_rfl
attribute [simp] Tryz.underlying340
@[simp] theorem sz340:sizeOf? Tryz.prog 340=some 1:=by kernel_rfl
@[simp] theorem ag340:agg? Tryz.prog 340=some false:=by kernel_rfl
attribute [simp] Tryz.underlying344
@[simp] theorem sz344:sizeOf? Tryz.prog 344=some 1:=by kernel_rfl
@[simp] theorem ag344:agg? Tryz.prog 344=some false:=by kernel_rfl
attribute [simp] Tryz.underlying347
@[simp] theorem sz347:sizeOf? Tryz.prog 347=some 1:=by kernel_rfl
@[simp] theorem ag347:agg? Tryz.prog 347=some false:=by kernel_rfl
attribute [simp] Tryz.underlying348
@[simp] theorem sz348:sizeOf? Tryz.prog 348=some 1:=by kernel_rfl
@[simp] theorem ag348:agg? Tryz.prog 348=some false:=by kernel_rfl
attribute [simp] Tryz.underlying349
@[simp] theorem sz349:sizeOf? Tryz.prog 349=some 1:=by kernel_rfl
@[simp] theorem ag349:agg? Tryz.prog 349=some false:=by kernel_rfl
attribute [simp] Tryz.underlying350
@[simp] theorem sz350:sizeOf? Tryz.prog 350=some 1:=by kernel_rfl
@[simp] theorem ag350:agg? Tryz.prog 350=some false:=by kernel_rfl
attribute [simp] Tryz.underlying351
@[simp] theorem sz351:sizeOf? Tryz.prog 351=some 1:=by kernel_rfl
@[simp] theorem ag351:agg? Tryz.prog 351=some false:=by kernel_rfl
attribute [simp] Tryz.underlying358
@[simp] theorem sz358:sizeOf? Tryz.prog 358=some 1:=by kernel_rfl
@[simp] theorem ag358:agg? Tryz.prog 358=some false:=by kernel_rfl
attribute [simp] Tryz.underlying362
@[simp] theorem sz362:sizeOf? Tryz.prog 362=some 1:=by kernel_rfl
@[simp] theorem ag362:agg? Tryz.prog 362=some false:=by kernel_rfl
attribute [simp] Tryz.underlying365
@[simp] theorem sz365:sizeOf? Tryz.prog 365=some 1:=by kernel_rfl
@[simp] theorem ag365:agg? Tryz.prog 365=some false:=by kernel_rfl
attribute [simp] Tryz.underlying366
@[simp] theorem sz366:sizeOf? Tryz.prog 366=some 1:=by kernel_rfl
@[simp] theorem ag366:agg? Tryz.prog 366=some true:=by kernel_rfl
@[simp] theorem bv366 (parts:List (Nat × V)):buildV Tryz.prog 366 parts=(fillV (fun i=>[(0,1)][i]?) [.nilS] parts).map mkAgg:=buildV_struct (by kernel_rfl) (by kernel_rfl)
@[simp] theorem fo366_0:fieldOff? Tryz.prog 366 0=some (0,236):=by kernel_rfl
attribute [simp] Tryz.underlying367
@[simp] theorem sz367:sizeOf? Tryz.prog 367=some 1:=by kernel_rfl
@[simp] theorem ag367:agg? Tryz.prog 367=some true:=by kernel_rfl
@[simp] theorem bv367 (parts:List (Nat × V)):buildV Tryz.prog 367 parts=(fillV (fun i=>[(0,1)][i]?) [.nilS] parts).map mkAgg:=buildV_struct (by kernel_rfl) (by kernel_rfl)
@[simp] theorem fo367_0:fieldOff? Tryz.prog 367 0=some (0,236):=by kernel_rfl
attribute [simp] Tryz.underlying369
@[simp] theorem sz369:sizeOf? Tryz.prog 369=some 1:=by kernel_rfl
@[simp] theorem ag369:agg? Tryz.prog 369=some false:=by kernel_rfl
attribute [simp] Tryz.underlying372
@[simp] theorem sz372:sizeOf? Tryz.prog 372=some 1:=by kernel_rfl
@[simp] theorem ag372:agg? Tryz.prog 372=some false:=by kernel_rfl
attribute [simp] Tryz.underlying373
@[simp] theorem sz373:sizeOf? Tryz.prog 373=some 1:=by kernel_rfl
@[simp] theorem ag373:agg? Tryz.prog 373=some false:=by kernel_rfl
attribute [simp] Tryz.underlying381
@[simp] theorem sz381:sizeOf? Tryz.prog 381=some 1:=by kernel_rfl
@[simp] theorem ag381:agg? Tryz.prog 381=some false:=by kernel_rfl
attribute [simp] Tryz.underlying387
@[simp] theorem sz387:sizeOf? Tryz.prog 387=some 1:=by kernel_rfl
@[simp] theorem ag387:agg? Tryz.prog 387=some false:=by kernel_rfl
attribute [simp] Tryz.underlying388
@[simp] theorem sz388:sizeOf? Tryz.prog 388=some 24:=by kernel_rfl
@[simp] theorem ag388:agg? Tryz.prog 388=some true:=by kernel_rfl
@[simp] theorem zs388:zeroVs? Tryz.prog 388=some [.d (.int .u8 0),.d (.int .u8 0),.d (.int .u8 0),.d (.int .u8 0),.d (.int .u8 0),.d (.int .u8 0),.d (.int .u8 0),.d (.int .u8 0),.d (.int .u8 0),.d (.int .u8 0),.d (.int .u8 0),.d (.int .u8 0),.d (.int .u8 0),.d (.int .u8 0),.d (.int .u8 0),.d (.int .u8 0),.d (.int .u8 0),.d (.int .u8 0),.d (.int .u8 0),.d (.int .u8 0),.d (.int .u8 0),.d (.int .u8 0),.d (.int .u8 0),.d (.int .u8 0)]:=by kernel_rfl
@[simp] theorem al388 (h:List Am.Obj):allocV Tryz.prog h 388=some (.ptr h.length 0,h++[.box [.d (.int .u8 0),.d (.int .u8 0),.d (.int .u8 0),.d (.int .u8 0),.d (.int .u8 0),.d (.int .u8 0),.d (.int .u8 0),.d (.int .u8 0),.d (.int .u8 0),.d (.int .u8 0),.d (.int .u8 0),.d (.int .u8 0),.d (.int .u8 0),.d (.int .u8 0),.d (.int .u8 0),.d (.int .u8 0),.d (.int .u8 0),.d (.int .u8 0),.d (.int .u8 0),.d (.int .u8 0),.d (.int .u8 0),.d (.int .u8 0),.d (.int .u8 0),.d (.int .u8 0)]]):=allocV_of zs388
@[simp] theorem bv388 (parts:List (Nat × V)):buildV Tryz.prog 388 parts=(fillV (fun i=>some (i*1,1)) [.d (.int .u8 0),.d (.int .u8 0),.d (.int .u8 0),.d (.int .u8 0),.d (.int .u8 0),.d (.int .u8 0),.d (.int .u8 0),.d (.int .u8 0),.d (.int .u8 0),.d (.int .u8 0),.d (.int .u8 0),.d (.int .u8 0),.d (.int .u8 0),.d (.int .u8 0),.d (.int .u8 0),.d (.int .u8 0),.d (.int .u8 0),.d (.int .u8 0),.d (.int .u8 0),.d (.int .u8 0),.d (.int .u8 0),.d (.int .u8 0),.d (.int .u8 0),.d (.int .u8 0)] parts).map mkAgg:=buildV_array (by kernel_rfl) Tryz.underlying388 (by kernel_rfl)
attribute [simp] Tryz.underlying391
@[simp] theorem sz391:sizeOf? Tryz.prog 391=some 1:=by kernel_rfl
@[simp] theorem ag391:agg? Tryz.prog 391=some false:=by kernel_rfl
attribute [simp] Tryz.underlying393
@[simp] theorem sz393:sizeOf? Tryz.prog 393=some 1:=by kernel_rfl
@[simp] theorem ag393:agg? Tryz.prog 393=some false:=by kernel_rfl
@[simp] theorem es393:elemSize Tryz.prog 393=1:=by kernel_rfl
attribute [simp] Tryz.underlying398
@[simp] theorem sz398:sizeOf? Tryz.prog 398=some 1:=by kernel_rfl
@[simp] theorem ag398:agg? Tryz.prog 398=some false:=by kernel_rfl
attribute [simp] Tryz.underlying400
@[simp] theorem sz400:sizeOf? Tryz.prog 400=some 1:=by kernel_rfl
@[simp] theorem ag400:agg? Tryz.prog 400=some false:=by kernel_rfl
@[simp] theorem es400:elemSize Tryz.prog 400=1:=by kernel_rfl
attribute [simp] Tryz.underlying401
@[simp] theorem sz401:sizeOf? Tryz.prog 401=some 5:=by kernel_rfl
@[simp] theorem ag401:agg? Tryz.prog 401=some true:=by kernel_rfl
@[simp] theorem bv401 (parts:List (Nat × V)):buildV Tryz.prog 401 parts=(fillV (fun i=>[(0,2),(2,1),(3,1),(4,1)][i]?) [.d (.int .u32 0),.nilS,.nilS,.d (.int .i64 0),.nilS] parts).map mkAgg:=buildV_struct (by kernel_rfl) (by kernel_rfl)
@[simp] theorem fo401_0:fieldOff? Tryz.prog 401 0=some (0,44):=by kernel_rfl
@[simp] theorem fo401_1:fieldOff? Tryz.prog 401 1=some (2,78):=by kernel_rfl
@[simp] theorem fo401_2:fieldOff? Tryz.prog 401 2=some (3,3):=by kernel_rfl
@[simp] theorem fo401_3:fieldOff? Tryz.prog 401 3=some (4,400):=by kernel_rfl
attribute [simp] Tryz.underlying402
@[simp] theorem sz402:sizeOf? Tryz.prog 402=some 5:=by kernel_rfl
@[simp] theorem ag402:agg? Tryz.prog 402=some true:=by kernel_rfl
@[simp] theorem bv402 (parts:List (Nat × V)):buildV Tryz.prog 402 parts=(fillV (fun i=>[(0,2),(2,1),(3,1),(4,1)][i]?) [.d (.int .u32 0),.nilS,.nilS,.d (.int .i64 0),.nilS] parts).map mkAgg:=buildV_struct (by kernel_rfl) (by kernel_rfl)
@[simp] theorem fo402_0:fieldOff? Tryz.prog 402 0=some (0,44):=by kernel_rfl
@[simp] theorem fo402_1:fieldOff? Tryz.prog 402 1=some (2,78):=by kernel_rfl
@[simp] theorem fo402_2:fieldOff? Tryz.prog 402 2=some (3,3):=by kernel_rfl
@[simp] theorem fo402_3:fieldOff? Tryz.prog 402 3=some (4,400):=by kernel_rfl
attribute [simp] Tryz.underlying405
@[simp] theorem sz405:sizeOf? Tryz.prog 405=some 2:=by kernel_rfl
@[simp] theorem ag405:agg? Tryz.prog 405=some true:=by kernel_rfl
@[simp] theorem bv405 (parts:List (Nat × V)):buildV Tryz.prog 405 parts=(fillV (fun i=>[(0,1),(1,1)][i]?) [.d (.int .u8 0),.nilS] parts).map mkAgg:=buildV_struct (by kernel_rfl) (by kernel_rfl)
@[simp] theorem fo405_0:fieldOff? Tryz.prog 405 0=some (0,27):=by kernel_rfl
@[simp] theorem fo405_1:fieldOff? Tryz.prog 405 1=some (1,159):=by kernel_rfl
attribute [simp] Tryz.underlying406
@[simp] theorem sz406:sizeOf? Tryz.prog 406=some 2:=by kernel_rfl
@[simp] theorem ag406:agg? Tryz.prog 406=some true:=by kernel_rfl
@[simp] theorem bv406 (parts:List (Nat × V)):buildV Tryz.prog 406 parts=(fillV (fun i=>[(0,1),(1,1)][i]?) [.d (.int .u8 0),.nilS] parts).map mkAgg:=buildV_struct (by kernel_rfl) (by kernel_rfl)
@[simp] theorem fo406_0:fieldOff? Tryz.prog 406 0=some (0,27):=by kernel_rfl
@[simp] theorem fo406_1:fieldOff? Tryz.prog 406 1=some (1,159):=by kernel_rfl
attribute [simp] Tryz.underlying417
@[simp] theorem sz417:sizeOf? Tryz.prog 417=some 1:=by kernel_rfl
@[simp] theorem ag417:agg? Tryz.prog 417=some false:=by kernel_rfl
attribute [simp] Tryz.underlying419
@[simp] theorem sz419:sizeOf? Tryz.prog 419=some 1:=by kernel_rfl
@[simp] theorem ag419:agg? Tryz.prog 419=some false:=by kernel_rfl
attribute [simp] Tryz.underlying420
@[simp] theorem sz420:sizeOf? Tryz.prog 420=some 2:=by kernel_rfl
@[simp] theorem ag420:agg? Tryz.prog 420=some true:=by kernel_rfl
@[simp] theorem bv420 (parts:List (Nat × V)):buildV Tryz.prog 420 parts=(fillV (fun i=>[(0,1),(1,1)][i]?) [.nilS,.d (.int .i64 0)] parts).map mkAgg:=buildV_struct (by kernel_rfl) (by kernel_rfl)
@[simp] theorem fo420_0:fieldOff? Tryz.prog 420 0=some (0,236):=by kernel_rfl
@[simp] theorem fo420_1:fieldOff? Tryz.prog 420 1=some (1,36):=by kernel_rfl
attribute [simp] Tryz.underlying421
@[simp] theorem sz421:sizeOf? Tryz.prog 421=some 2:=by kernel_rfl
@[simp] theorem ag421:agg? Tryz.prog 421=some true:=by kernel_rfl
@[simp] theorem bv421 (parts:List (Nat × V)):buildV Tryz.prog 421 parts=(fillV (fun i=>[(0,1),(1,1)][i]?) [.nilS,.d (.int .i64 0)] parts).map mkAgg:=buildV_struct (by kernel_rfl) (by kernel_rfl)
@[simp] theorem fo421_0:fieldOff? Tryz.prog 421 0=some (0,236):=by kernel_rfl
@[simp] theorem fo421_1:fieldOff? Tryz.prog 421 1=some (1,36):=by kernel_rfl
attribute [simp] Tryz.underlying424
@[simp] theorem sz424:sizeOf? Tryz.prog 424=some 1:=by kernel_rfl
@[simp] theorem ag424:agg? Tryz.prog 424=some false:=by kernel_rfl
attribute [simp] Tryz.underlying425
@[simp] theorem sz425:sizeOf? Tryz.prog 425=some 1:=by kernel_rfl
@[simp] theorem ag425:agg? Tryz.prog 425=some false:=by kernel_rfl
attribute [simp] Tryz.underlying431
@[simp] theorem sz431:sizeOf? Tryz.prog 431=some 1:=by kernel_rfl
@[simp] theorem ag431:agg? Tryz.prog 431=some false:=by kernel_rfl
attribute [simp] Tryz.underlying432
@[simp] theorem sz432:sizeOf? Tryz.prog 432=some 1:=by kernel_rfl
@[simp] theorem ag432:agg? Tryz.prog 432=some false:=by kernel_rfl
@[simp] theorem es432:elemSize Tryz.prog 432=1:=by kernel_rfl
attribute [simp] Tryz.underlying433
@[simp] theorem sz433:sizeOf? Tryz.prog 433=some 1:=by kernel_rfl
@[simp] theorem ag433:agg? Tryz.prog 433=some false:=by kernel_rfl
@[simp] theorem es433:elemSize Tryz.prog 433=1:=by kernel_rfl
attribute [simp] Tryz.underlying439
@[simp] theorem sz439:sizeOf? Tryz.prog 439=some 1:=by kernel_rfl
@[simp] theorem ag439:agg? Tryz.prog 439=some false:=by kernel_rfl
@[simp] theorem es439:elemSize Tryz.prog 439=1:=by kernel_rfl
attribute [simp] Tryz.underlying440
@[simp] theorem sz440:sizeOf? Tryz.prog 440=some 1:=by kernel_rfl
@[simp] theorem ag440:agg? Tryz.prog 440=some false:=by kernel_rfl
attribute [simp] Tryz.underlying451
@[simp] theorem sz451:sizeOf? Tryz.prog 451=some 1:=by kernel_rfl
@[simp] theorem ag451:agg? Tryz.prog 451=some false:=by kernel_rfl
attribute [simp] Tryz.underlying452
@[simp] theorem sz452:sizeOf? Tryz.prog 452=some 1:=by kernel_rfl
@[simp] theorem ag452:agg? Tryz.prog 452=some false:=by kernel_rfl
attribute [simp] Tryz.underlying454
@[simp] theorem sz454:sizeOf? Tryz.prog 454=some 1:=by kernel_rfl
@[simp] theorem ag454:agg? Tryz.prog 454=some false:=by kernel_rfl
attribute [simp] Tryz.underlying457
@[simp] theorem sz457:sizeOf? Tryz.prog 457=some 1:=by kernel_rfl
@[simp] theorem ag457:agg? Tryz.prog 457=some false:=by kernel_rfl
attribute [simp] Tryz.underlying458
@[simp] theorem sz458:sizeOf? Tryz.prog 458=some 2:=by kernel_rfl
@[simp] theorem ag458:agg? Tryz.prog 458=some true:=by kernel_rfl
@[simp] theorem bv458 (parts:List (Nat × V)):buildV Tryz.prog 458 parts=(fillV (fun i=>[(0,1),(1,1)][i]?) [.d .nilP,.nilS] parts).map mkAgg:=buildV_struct (by kernel_rfl) (by kernel_rfl)
@[simp] theorem fo458_0:fieldOff? Tryz.prog 458 0=some (0,457):=by kernel_rfl
@[simp] theorem fo458_1:fieldOff? Tryz.prog 458 1=some (1,236):=by kernel_rfl
attribute [simp] Tryz.underlying459
@[simp] theorem sz459:sizeOf? Tryz.prog 459=some 2:=by kernel_rfl
@[simp] theorem ag459:agg? Tryz.prog 459=some true:=by kernel_rfl
@[simp] theorem zs459:zeroVs? Tryz.prog 459=some [.d .nilP,.nilS]:=by kernel_rfl
@[simp] theorem al459 (h:List Am.Obj):allocV Tryz.prog h 459=some (.ptr h.length 0,h++[.box [.d .nilP,.nilS]]):=allocV_of zs459
@[simp] theorem bv459 (parts:List (Nat × V)):buildV Tryz.prog 459 parts=(fillV (fun i=>[(0,1),(1,1)][i]?) [.d .nilP,.nilS] parts).map mkAgg:=buildV_struct (by kernel_rfl) (by kernel_rfl)
@[simp] theorem fo459_0:fieldOff? Tryz.prog 459 0=some (0,457):=by kernel_rfl
@[simp] theorem fo459_1:fieldOff? Tryz.prog 459 1=some (1,236):=by kernel_rfl
attribute [simp] Tryz.underlying461
@[simp] theorem sz461:sizeOf? Tryz.prog 461=some 20:=by kernel_rfl
@[simp] theorem ag461:agg? Tryz.prog 461=some true:=by kernel_rfl
@[simp] theorem bv461 (parts:List (Nat × V)):buildV Tryz.prog 461 parts=(fillV (fun i=>some (i*1,1)) [.d (.int .u64 0),.d (.int .u64 0),.d (.int .u64 0),.d (.int .u64 0),.d (.int .u64 0),.d (.int .u64 0),.d (.int .u64 0),.d (.int .u64 0),.d (.int .u64 0),.d (.int .u64 0),.d (.int .u64 0),.d (.int .u64 0),.d (.int .u64 0),.d (.int .u64 0),.d (.int .u64 0),.d (.int .u64 0),.d (.int .u64 0),.d (.int .u64 0),.d (.int .u64 0),.d (.int .u64 0)] parts).map mkAgg:=buildV_array (by kernel_rfl) Tryz.underlying461 (by kernel_rfl)
attribute [simp] Tryz.underlying462
@[simp] theorem sz462:sizeOf? Tryz.prog 462=some 65:=by kernel_rfl
@[simp] theorem ag462:agg? Tryz.prog 462=some true:=by kernel_rfl
@[simp] theorem zs462:zeroVs? Tryz.prog 462=some [.d (.int .u8 0),.d (.int .u8 0),.d (.int .u8 0),.d (.int .u8 0),.d (.int .u8 0),.d (.int .u8 0),.d (.int .u8 0),.d (.int .u8 0),.d (.int .u8 0),.d (.int .u8 0),.d (.int .u8 0),.d (.int .u8 0),.d (.int .u8 0),.d (.int .u8 0),.d (.int .u8 0),.d (.int .u8 0),.d (.int .u8 0),.d (.int .u8 0),.d (.int .u8 0),.d (.int .u8 0),.d (.int .u8 0),.d (.int .u8 0),.d (.int .u8 0),.d (.int .u8 0),.d (.int .u8 0),.d (.int .u8 0),.d (.int .u8 0),.d (.int .u8 0),.d (.int .u8 0),.d (.int .u8 0),.d (.int .u8 0),.d (.int .u8 0),.d (.int .u8 0),.d (.int .u8 0),.d (.int .u8 0),.d (.int .u8 0),.d (.int .u8 0),.d (.int .u8 0),.d (.int .u8 0),.d (.int .u8 0),.d (.int .u8 0),.d (.int .u8 0),.d (.int .u8 0),.d (.int .u8 0),.d (.int .u8 0),.d (.int .u8 0),.d (.int .u8 0),.d (.int .u8 0),.d (.int .u8 0),.d (.int .u8 0),.d (.int .u8 0),.d (.int .u8 0),.d (.int .u8 0),.d (.int .u8 0),.d (.int .u8 0),.d (.int .u8 0),.d (.int .u8 0),.d (.int .u8 0),.d (.int .u8 0),.d (.int .u8 0),.d (.int .u8 0),.d (.int .u8 0),.d (.int .u8 0),.d (.int .u8 0),.d (.int .u8 0)]:=by kernel_rfl
@[simp] theorem al462 (h:List Am.Obj):allocV Tryz.prog h 462=some (.ptr h.length 0,h++[.box [.d (.int .u8 0),.d (.int .u8 0),.d (.int .u8 0),.d (.int .u8 0),.d (.int .u8 0),.d (.int .u8 0),.d (.int .u8 0),.d (.int .u8 0),.d (.int .u8 0),.d (.int .u8 0),.d (.int .u8 0),.d (.int .u8 0),.d (.int .u8 0),.d (.int .u8 0),.d (.int .u8 0),.d (.int .u8 0),.d (.int .u8 0),.d (.int .u8 0),.d (.int .u8 0),.d (.int .u8 0),.d (.int .u8 0),.d (.int .u8 0),.d (.int .u8 0),.d (.int .u8 0),.d (.int .u8 0),.d (.int .u8 0),.d (.int .u8 0),.d (.int .u8 0),.d (.int .u8 0),.d (.int .u8 0),.d (.int .u8 0),.d (.int .u8 0),.d (.int .u8 0),.d (.int .u8 0),.d (.int .u8 0),.d (.int .u8 0),.d (.int .u8 0),.d (.int .u8 0),.d (.int .u8 0),.d (.int .u8 0),.d (.int .u8 0),.d (.int .u8 0),.d (.int .u8 0),.d (.int .u8 0),.d (.int .u8 0),.d (.int .u8 0),.d (.int .u8 0),.d (.int .u8 0),.d (.int .u8 0),.d (.int .u8 0),.d (.int .u8 0),.d (.int .u8 0),.d (.int .u8 0),.d (.int .u8 0),.d (.int .u8 0),.d (.int .u8 0),.d (.int .u8 0),.d (.int .u8 0),.d (.int .u8 0),.d (.int .u8 0),.d (.int .u8 0),.d (.int .u8 0),.d (.int .u8 0),.d (.int .u8 0),.d (.int .u8 0)]]):=allocV_of zs462
@[simp] theorem bv462 (parts:List (Nat × V)):buildV Tryz.prog 462 parts=(fillV (fun i=>some (i*1,1)) [.d (.int .u8 0),.d (.int .u8 0),.d (.int .u8 0),.d (.int .u8 0),.d (.int .u8 0),.d (.int .u8 0),.d (.int .u8 0),.d (.int .u8 0),.d (.int .u8 0),.d (.int .u8 0),.d (.int .u8 0),.d (.int .u8 0),.d (.int .u8 0),.d (.int .u8 0),.d (.int .u8 0),.d (.int .u8 0),.d (.int .u8 0),.d (.int .u8 0),.d (.int .u8 0),.d (.int .u8 0),.d (.int .u8 0),.d (.int .u8 0),.d (.int .u8 0),.d (.int .u8 0),.d (.int .u8 0),.d (.int .u8 0),.d (.int .u8 0),.d (.int .u8 0),.d (.int .u8 0),.d (.int .u8 0),.d (.int .u8 0),.d (.int .u8 0),.d (.int .u8 0),.d (.int .u8 0),.d (.int .u8 0),.d (.int .u8 0),.d (.int .u8 0),.d (.int .u8 0),.d (.int .u8 0),.d (.int .u8 0),.d (.int .u8 0),.d (.int .u8 0),.d (.int .u8 0),.d (.int .u8 0),.d (.int .u8 0),.d (.int .u8 0),.d (.int .u8 0),.d (.int .u8 0),.d (.int .u8 0),.d (.int .u8 0),.d (.int .u8 0),.d (.int .u8 0),.d (.int .u8 0),.d (.int .u8 0),.d (.int .u8 0),.d (.int .u8 0),.d (.int .u8 0),.d (.int .u8 0),.d (.int .u8 0),.d (.int .u8 0),.d (.int .u8 0),.d (.int .u8 0),.d (.int .u8 0),.d (.int .u8 0),.d (.int .u8 0)] parts).map mkAgg:=buildV_array (by kernel_rfl) Tryz.underlying462 (by kernel_rfl)
attribute [simp] Tryz.underlying464
@[simp] theorem sz464:sizeOf? Tryz.prog 464=some 1:=by kernel_rfl
@[simp] theorem ag464:agg? Tryz.prog 464=some false:=by kernel_rfl
attribute [simp] Tryz.underlying465
@[simp] theorem sz465:sizeOf? Tryz.prog 465=some 2:=by kernel_rfl
@[simp] theorem ag465:agg? Tryz.prog 465=some true:=by kernel_rfl
@[simp] theorem bv465 (parts:List (Nat × V)):buildV Tryz.prog 465 parts=(fillV (fun i=>[(0,1),(1,1)][i]?) [.nilS,.d (.bool false)] parts).map mkAgg:=buildV_struct (by kernel_rfl) (by kernel_rfl)
@[simp] theorem fo465_0:fieldOff? Tryz.prog 465 0=some (0,236):=by kernel_rfl
@[simp] theorem fo465_1:fieldOff? Tryz.prog 465 1=some (1,4):=by kernel_rfl
attribute [simp] Tryz.underlying466
@[simp] theorem sz466:sizeOf? Tryz.prog 466=some 2:=by kernel_rfl
@[simp] theorem ag466:agg? Tryz.prog 466=some true:=by kernel_rfl
@[simp] theorem bv466 (parts:List (Nat × V)):buildV Tryz.prog 466 parts=(fillV (fun i=>[(0,1),(1,1)][i]?) [.nilS,.d (.bool false)] parts).map mkAgg:=buildV_struct (by kernel_rfl) (by kernel_rfl)
@[simp] theorem fo466_0:fieldOff? Tryz.prog 466 0=some (0,236):=by kernel_rfl
@[simp] theorem fo466_1:fieldOff? Tryz.prog 466 1=some (1,4):=by kernel_rfl
attribute [simp] Tryz.underlying469
@[simp] theorem sz469:sizeOf? Tryz.prog 469=some 1:=by kernel_rfl
@[simp] theorem ag469:agg? Tryz.prog 469=some false:=by kernel_rfl
attribute [simp] Tryz.underlying470
@[simp] theorem sz470:sizeOf? Tryz.prog 470=some 2:=by kernel_rfl
@[simp] theorem ag470:agg? Tryz.prog 470=some true:=by kernel_rfl
@[simp] theorem bv470 (parts:List (Nat × V)):buildV Tryz.prog 470 parts=(fillV (fun i=>[(0,1),(1,1)][i]?) [.nilS,.d (.bool false)] parts).map mkAgg:=buildV_struct (by kernel_rfl) (by kernel_rfl)
@[simp] theorem fo470_0:fieldOff? Tryz.prog 470 0=some (0,236):=by kernel_rfl
@[simp] theorem fo470_1:fieldOff? Tryz.prog 470 1=some (1,4):=by kernel_rfl
attribute [simp] Tryz.underlying471
@[simp] theorem sz471:sizeOf? Tryz.prog 471=some 2:=by kernel_rfl
@[simp] theorem ag471:agg? Tryz.prog 471=some true:=by kernel_rfl
@[simp] theorem bv471 (parts:List (Nat × V)):buildV Tryz.prog 471 parts=(fillV (fun i=>[(0,1),(1,1)][i]?) [.nilS,.d (.bool false)] parts).map mkAgg:=buildV_struct (by kernel_rfl) (by kernel_rfl)
@[simp] theorem fo471_0:fieldOff? Tryz.prog 471 0=some (0,236):=by kernel_rfl
@[simp] theorem fo471_1:fieldOff? Tryz.prog 471 1=some (1,4):=by kernel_rfl
attribute [simp] Tryz.underlying476
@[simp] theorem sz476:sizeOf? Tryz.prog 476=some 256:=by kernel_rfl
@[simp] theorem ag476:agg? Tryz.prog 476=some true:=by kernel_rfl
@[simp] theorem bv476 (parts:List (Nat × V)):buildV Tryz.prog 476 parts=(fillV (fun i=>some (i*1,1)) [.d (.bool false),.d (.bool false),.d (.bool false),.d (.bool false),.d (.bool false),.d (.bool false),.d (.bool false),.d (.bool false),.d (.bool false),.d (.bool false),.d (.bool false),.d (.bool false),.d (.bool false),.d (.bool false),.d (.bool false),.d (.bool false),.d (.bool false),.d (.bool false),.d (.bool false),.d (.bool false),.d (.bool false),.d (.bool false),.d (.bool false),.d (.bool false),.d (.bool false),.d (.bool false),.d (.bool false),.d (.bool false),.d (.bool false),.d (.bool false),.d (.bool false),.d (.bool false),.d (.bool false),.d (.bool false),.d (.bool false),.d (.bool false),.d (.bool false),.d (.bool false),.d (.bool false),.d (.bool false),.d (.bool false),.d (.bool false),.d (.bool false),.d (.bool false),.d (.bool false),.d (.bool false),.d (.bool false),.d (.bool false),.d (.bool false),.d (.bool false),.d (.bool false),.d (.bool false),.d (.bool false),.d (.bool false),.d (.bool false),.d (.bool false),.d (.bool false),.d (.bool false),.d (.bool false),.d (.bool false),.d (.bool false),.d (.bool false),.d (.bool false),.d (.bool false),.d (.bool false),.d (.bool false),.d (.bool false),.d (.bool false),.d (.bool false),.d (.bool false),.d (.bool false),.d (.bool false),.d (.bool false),.d (.bool false),.d (.bool false),.d (.bool false),.d (.bool false),.d (.bool false),.d (.bool false),.d (.bool false),.d (.bool false),.d (.bool false),.d (.bool false),.d (.bool false),.d (.bool false),.d (.bool false),.d (.bool false),.d (.bool false),.d (.bool false),.d (.bool false),.d (.bool false),.d (.bool false),.d (.bool false),.d (.bool false),.d (.bool false),.d (.bool false),.d (.bool false),.d (.bool false),.d (.bool false),.d (.bool false),.d (.bool false),.d (.bool false),.d (.bool false),.d (.bool false),.d (.bool false),.d (.bool false),.d (.bool false),.d (.bool false),.d (.bool false),.d (.bool false),.d (.bool false),.d (.bool false),.d (.bool false),.d (.bool false),.d (.bool false),.d (.bool false),.d (.bool false),.d (.bool false),.d (.bool false),.d (.bool false),.d (.bool false),.d (.bool false),.d (.bool false),.d (.bool false),.d (.bool false),.d (.bool false),.d (.bool false),.d (.bool false),.d (.bool false),.d (.bool false),.d (.bool false),.d (.bool false),.d (.bool false),.d (.bool false),.d (.bool false),.d (.bool false),.d (.bool false),.d (.bool false),.d (.bool false),.d (.bool false),.d (.bool false),.d (.bool false),.d (.bool false),.d (.bool false),.d (.bool false),.d (.bool false),.d (.bool false),.d (.bool false),.d (.bool false),.d (.bool false),.d (.bool false),.d (.bool false),.d (.bool false),.d (.bool false),.d (.bool false),.d (.bool false),.d (.bool false),.d (.bool false),.d (.bool false),.d (.bool false),.d (.bool false),.d (.bool false),.d (.bool false),.d (.bool false),.d (.bool false),.d (.bool false),.d (.bool false),.d (.bool false),.d (.bool false),.d (.bool false),.d (.bool false),.d (.bool false),.d (.bool false),.d (.bool false),.d (.bool false),.d (.bool false),.d (.bool false),.d (.bool false),.d (.bool false),.d (.bool false),.d (.bool false),.d (.bool false),.d (.bool false),.d (.bool false),.d (.bool false),.d (.bool false),.d (.bool false),.d (.bool false),.d (.bool false),.d (.bool false),.d (.bool false),.d (.bool false),.d (.bool false),.d (.bool false),.d (.bool false),.d (.bool false),.d (.bool false),.d (.bool false),.d (.bool false),.d (.bool false),.d (.bool false),.d (.bool false),.d (.bool false),.d (.bool false),.d (.bool false),.d (.bool false),.d (.bool false),.d (.bool false),.d (.bool false),.d (.bool false),.d (.bool false),.d (.bool false),.d (.bool false),.d (.bool false),.d (.bool false),.d (.bool false),.d (.bool false),.d (.bool false),.d (.bool false),.d (.bool false),.d (.bool false),.d (.bool false),.d (.bool false),.d (.bool false),.d (.bool false),.d (.bool false),.d (.bool false),.d (.bool false),.d (.bool false),.d (.bool false),.d (.bool false),.d (.bool false),.d (.bool false),.d (.bool false),.d (.bool false),.d (.bool false),.d (.bool false),.d (.bool false),.d (.bool false),.d (.bool false),.d (.bool false),.d (.bool false),.d (.bool false),.d (.bool false),.d (.bool false),.d (.bool false),.d (.bool false),.d (.bool false),.d (.bool false),.d (.bool false),.d (.bool false),.d (.bool false),.d (.bool false),.d (.bool false),.d (.bool false),.d (.bool false)] parts).map mkAgg:=buildV_array (by kernel_rfl) Tryz.underlying476 (by kernel_rfl)
attribute [simp] Tryz.underlying477
@[simp] theorem sz477:sizeOf? Tryz.prog 477=some 256:=by kernel_rfl
@[simp] theorem ag477:agg? Tryz.prog 477=some true:=by kernel_rfl
@[simp] theorem zs477:zeroVs? Tryz.prog 477=some [.d (.bool false),.d (.bool false),.d (.bool false),.d (.bool false),.d (.bool false),.d (.bool false),.d (.bool false),.d (.bool false),.d (.bool false),.d (.bool false),.d (.bool false),.d (.bool false),.d (.bool false),.d (.bool false),.d (.bool false),.d (.bool false),.d (.bool false),.d (.bool false),.d (.bool false),.d (.bool false),.d (.bool false),.d (.bool false),.d (.bool false),.d (.bool false),.d (.bool false),.d (.bool false),.d (.bool false),.d (.bool false),.d (.bool false),.d (.bool false),.d (.bool false),.d (.bool false),.d (.bool false),.d (.bool false),.d (.bool false),.d (.bool false),.d (.bool false),.d (.bool false),.d (.bool false),.d (.bool false),.d (.bool false),.d (.bool false),.d (.bool false),.d (.bool false),.d (.bool false),.d (.bool false),.d (.bool false),.d (.bool false),.d (.bool false),.d (.bool false),.d (.bool false),.d (.bool false),.d (.bool false),.d (.bool false),.d (.bool false),.d (.bool false),.d (.bool false),.d (.bool false),.d (.bool false),.d (.bool false),.d (.bool false),.d (.bool false),.d (.bool false),.d (.bool false),.d (.bool false),.d (.bool false),.d (.bool false),.d (.bool false),.d (.bool false),.d (.bool false),.d (.bool false),.d (.bool false),.d (.bool false),.d (.bool false),.d (.bool false),.d (.bool false),.d (.bool false),.d (.bool false),.d (.bool false),.d (.bool false),.d (.bool false),.d (.bool false),.d (.bool false),.d (.bool false),.d (.bool false),.d (.bool false),.d (.bool false),.d (.bool false),.d (.bool false),.d (.bool false),.d (.bool false),.d (.bool false),.d (.bool false),.d (.bool false),.d (.bool false),.d (.bool false),.d (.bool false),.d (.bool false),.d (.bool false),.d (.bool false),.d (.bool false),.d (.bool false),.d (.bool false),.d (.bool false),.d (.bool false),.d (.bool false),.d (.bool false),.d (.bool false),.d (.bool false),.d (.bool false),.d (.bool false),.d (.bool false),.d (.bool false),.d (.bool false),.d (.bool false),.d (.bool false),.d (.bool false),.d (.bool false),.d (.bool false),.d (.bool false),.d (.bool false),.d (.bool false),.d (.bool false),.d (.bool false),.d (.bool false),.d (.bool false),.d (.bool false),.d (.bool false),.d (.bool false),.d (.bool false),.d (.bool false),.d (.bool false),.d (.bool false),.d (.bool false),.d (.bool false),.d (.bool false),.d (.bool false),.d (.bool false),.d (.bool false),.d (.bool false),.d (.bool false),.d (.bool false),.d (.bool false),.d (.bool false),.d (.bool false),.d (.bool false),.d (.bool false),.d (.bool false),.d (.bool false),.d (.bool false),.d (.bool false),.d (.bool false),.d (.bool false),.d (.bool false),.d (.bool false),.d (.bool false),.d (.bool false),.d (.bool false),.d (.bool false),.d (.bool false),.d (.bool false),.d (.bool false),.d (.bool false),.d (.bool false),.d (.bool false),.d (.bool false),.d (.bool false),.d (.bool false),.d (.bool false),.d (.bool false),.d (.bool false),.d (.bool false),.d (.bool false),.d (.bool false),.d (.bool false),.d (.bool false),.d (.bool false),.d (.bool false),.d (.bool false),.d (.bool false),.d (.bool false),.d (.bool false),.d (.bool false),.d (.bool false),.d (.bool false),.d (.bool false),.d (.bool false),.d (.bool false),.d (.bool false),.d (.bool false),.d (.bool false),.d (.bool false),.d (.bool false),.d (.bool false),.d (.bool false),.d (.bool false),.d (.bool false),.d (.bool false),.d (.bool false),.d (.bool false),.d (.bool false),.d (.bool false),.d (.bool false),.d (.bool false),.d (.bool false),.d (.bool false),.d (.bool false),.d (.bool false),.d (.bool false),.d (.bool false),.d (.bool false),.d (.bool false),.d (.bool false),.d (.bool false),.d (.bool false),.d (.bool false),.d (.bool false),.d (.bool false),.d (.bool false),.d (.bool false),.d (.bool false),.d (.bool false),.d (.bool false),.d (.bool false),.d (.bool false),.d (.bool false),.d (.bool false),.d (.bool false),.d (.bool false),.d (.bool false),.d (.bool false),.d (.bool false),.d (.bool false),.d (.bool false),.d (.bool false),.d (.bool false),.d (.bool false),.d (.bool false),.d (.bool false),.d (.bool false),.d (.bool false),.d (.bool false),.d (.bool false),.d (.bool false),.d (.bool false),.d (.bool false),.d (.bool false),.d (.bool false),.d (.bool false),.d (.bool false),.d (.bool false),.d (.bool false),.d (.bool false),.d (.bool false),.d (.bool false),.d (.bool false)]:=by kernel_rfl
@[simp] theorem al477 (h:List Am.Obj):allocV Tryz.prog h 477=some (.ptr h.length 0,h++[.box [.d (.bool false),.d (.bool false),.d (.bool false),.d (.bool false),.d (.bool false),.d (.bool false),.d (.bool false),.d (.bool false),.d (.bool false),.d (.bool false),.d (.bool false),.d (.bool false),.d (.bool false),.d (.bool false),.d (.bool false),.d (.bool false),.d (.bool false),.d (.bool false),.d (.bool false),.d (.bool false),.d (.bool false),.d (.bool false),.d (.bool false),.d (.bool false),.d (.bool false),.d (.bool false),.d (.bool false),.d (.bool false),.d (.bool false),.d (.bool false),.d (.bool false),.d (.bool false),.d (.bool false),.d (.bool false),.d (.bool false),.d (.bool false),.d (.bool false),.d (.bool false),.d (.bool false),.d (.bool false),.d (.bool false),.d (.bool false),.d (.bool false),.d (.bool false),.d (.bool false),.d (.bool false),.d (.bool false),.d (.bool false),.d (.bool false),.d (.bool false),.d (.bool false),.d (.bool false),.d (.bool false),.d (.bool false),.d (.bool false),.d (.bool false),.d (.bool false),.d (.bool false),.d (.bool false),.d (.bool false),.d (.bool false),.d (.bool false),.d (.bool false),.d (.bool false),.d (.bool false),.d (.bool false),.d (.bool false),.d (.bool false),.d (.bool false),.d (.bool false),.d (.bool false),.d (.bool false),.d (.bool false),.d (.bool false),.d (.bool false),.d (.bool false),.d (.bool false),.d (.bool false),.d (.bool false),.d (.bool false),.d (.bool false),.d (.bool false),.d (.bool false),.d (.bool false),.d (.bool false),.d (.bool false),.d (.bool false),.d (.bool false),.d (.bool false),.d (.bool false),.d (.bool false),.d (.bool false),.d (.bool false),.d (.bool false),.d (.bool false),.d (.bool false),.d (.bool false),.d (.bool false),.d (.bool false),.d (.bool false),.d (.bool false),.d (.bool false),.d (.bool false),.d (.bool false),.d (.bool false),.d (.bool false),.d (.bool false),.d (.bool false),.d (.bool false),.d (.bool false),.d (.bool false),.d (.bool false),.d (.bool false),.d (.bool false),.d (.bool false),.d (.bool false),.d (.bool false),.d (.bool false),.d (.bool false),.d (.bool false),.d (.bool false),.d (.bool false),.d (.bool false),.d (.bool false),.d (.bool false),.d (.bool false),.d (.bool false),.d (.bool false),.d (.bool false),.d (.bool false),.d (.bool false),.d (.bool false),.d (.bool false),.d (.bool false),.d (.bool false),.d (.bool false),.d (.bool false),.d (.bool false),.d (.bool false),.d (.bool false),.d (.bool false),.d (.bool false),.d (.bool false),.d (.bool false),.d (.bool false),.d (.bool false),.d (.bool false),.d (.bool false),.d (.bool false),.d (.bool false),.d (.bool false),.d (.bool false),.d (.bool false),.d (.bool false),.d (.bool false),.d (.bool false),.d (.bool false),.d (.bool false),.d (.bool false),.d (.bool false),.d (.bool false),.d (.bool false),.d (.bool false),.d (.bool false),.d (.bool false),.d (.bool false),.d (.bool false),.d (.bool false),.d (.bool false),.d (.bool false),.d (.bool false),.d (.bool false),.d (.bool false),.d (.bool false),.d (.bool false),.d (.bool false),.d (.bool false),.d (.bool false),.d (.bool false),.d (.bool false),.d (.bool false),.d (.bool false),.d (.bool false),.d (.bool false),.d (.bool false),.d (.bool false),.d (.bool false),.d (.bool false),.d (.bool false),.d (.bool false),.d (.bool false),.d (.bool false),.d (.bool false),.d (.bool false),.d (.bool false),.d (.bool false),.d (.bool false),.d (.bool false),.d (.bool false),.d (.bool false),.d (.bool false),.d (.bool false),.d (.bool false),.d (.bool false),.d (.bool false),.d (.bool false),.d (.bool false),.d (.bool false),.d (.bool false),.d (.bool false),.d (.bool false),.d (.bool false),.d (.bool false),.d (.bool false),.d (.bool false),.d (.bool false),.d (.bool false),.d (.bool false),.d (.bool false),.d (.bool false),.d (.bool false),.d (.bool false),.d (.bool false),.d (.bool false),.d (.bool false),.d (.bool false),.d (.bool false),.d (.bool false),.d (.bool false),.d (.bool false),.d (.bool false),.d (.bool false),.d (.bool false),.d (.bool false),.d (.bool false),.d (.bool false),.d (.bool false),.d (.bool false),.d (.bool false),.d (.bool false),.d (.bool false),.d (.bool false),.d (.bool false),.d (.bool false),.d (.bool false),.d (.bool false),.d (.bool false),.d (.bool false),.d (.bool false),.d (.bool false),.d (.bool false),.d (.bool false),.d (.bool false),.d (.bool false),.d (.bool false),.d (.bool false)]]):=allocV_of zs477
@[simp] theorem bv477 (parts:List (Nat × V)):buildV Tryz.prog 477 parts=(fillV (fun i=>some (i*1,1)) [.d (.bool false),.d (.bool false),.d (.bool false),.d (.bool false),.d (.bool false),.d (.bool false),.d (.bool false),.d (.bool false),.d (.bool false),.d (.bool false),.d (.bool false),.d (.bool false),.d (.bool false),.d (.bool false),.d (.bool false),.d (.bool false),.d (.bool false),.d (.bool false),.d (.bool false),.d (.bool false),.d (.bool false),.d (.bool false),.d (.bool false),.d (.bool false),.d (.bool false),.d (.bool false),.d (.bool false),.d (.bool false),.d (.bool false),.d (.bool false),.d (.bool false),.d (.bool false),.d (.bool false),.d (.bool false),.d (.bool false),.d (.bool false),.d (.bool false),.d (.bool false),.d (.bool false),.d (.bool false),.d (.bool false),.d (.bool false),.d (.bool false),.d (.bool false),.d (.bool false),.d (.bool false),.d (.bool false),.d (.bool false),.d (.bool false),.d (.bool false),.d (.bool false),.d (.bool false),.d (.bool false),.d (.bool false),.d (.bool false),.d (.bool false),.d (.bool false),.d (.bool false),.d (.bool false),.d (.bool false),.d (.bool false),.d (.bool false),.d (.bool false),.d (.bool false),.d (.bool false),.d (.bool false),.d (.bool false),.d (.bool false),.d (.bool false),.d (.bool false),.d (.bool false),.d (.bool false),.d (.bool false),.d (.bool false),.d (.bool false),.d (.bool false),.d (.bool false),.d (.bool false),.d (.bool false),.d (.bool false),.d (.bool false),.d (.bool false),.d (.bool false),.d (.bool false),.d (.bool false),.d (.bool false),.d (.bool false),.d (.bool false),.d (.bool false),.d (.bool false),.d (.bool false),.d (.bool false),.d (.bool false),.d (.bool false),.d (.bool false),.d (.bool false),.d (.bool false),.d (.bool false),.d (.bool false),.d (.bool false),.d (.bool false),.d (.bool false),.d (.bool false),.d (.bool false),.d (.bool false),.d (.bool false),.d (.bool false),.d (.bool false),.d (.bool false),.d (.bool false),.d (.bool false),.d (.bool false),.d (.bool false),.d (.bool false),.d (.bool false),.d (.bool false),.d (.bool false),.d (.bool false),.d (.bool false),.d (.bool false),.d (.bool false),.d (.bool false),.d (.bool false),.d (.bool false),.d (.bool false),.d (.bool false),.d (.bool false),.d (.bool false),.d (.bool false),.d (.bool false),.d (.bool false),.d (.bool false),.d (.bool false),.d (.bool false),.d (.bool false),.d (.bool false),.d (.bool false),.d (.bool false),.d (.bool false),.d (.bool false),.d (.bool false),.d (.bool false),.d (.bool false),.d (.bool false),.d (.bool false),.d (.bool false),.d (.bool false),.d (.bool false),.d (.bool false),.d (.bool false),.d (.bool false),.d (.bool false),.d (.bool false),.d (.bool false),.d (.bool false),.d (.bool false),.d (.bool false),.d (.bool false),.d (.bool false),.d (.bool false),.d (.bool false),.d (.bool false),.d (.bool false),.d (.bool false),.d (.bool false),.d (.bool false),.d (.bool false),.d (.bool false),.d (.bool false),.d (.bool false),.d (.bool false),.d (.bool false),.d (.bool false),.d (.bool false),.d (.bool false),.d (.bool false),.d (.bool false),.d (.bool false),.d (.bool false),.d (.bool false),.d (.bool false),.d (.bool false),.d (.bool false),.d (.bool false),.d (.bool false),.d (.bool false),.d (.bool false),.d (.bool false),.d (.bool false),.d (.bool false),.d (.bool false),.d (.bool false),.d (.bool false),.d (.bool false),.d (.bool false),.d (.bool false),.d (.bool false),.d (.bool false),.d (.bool false),.d (.bool false),.d (.bool false),.d (.bool false),.d (.bool false),.d (.bool false),.d (.bool false),.d (.bool false),.d (.bool false),.d (.bool false),.d (.bool false),.d (.bool false),.d (.bool false),.d (.bool false),.d (.bool false),.d (.bool false),.d (.bool false),.d (.bool false),.d (.bool false),.d (.bool false),.d (.bool false),.d (.bool false),.d (.bool false),.d (.bool false),.d (.bool false),.d (.bool false),.d (.bool false),.d (.bool false),.d (.bool false),.d (.bool false),.d (.bool false),.d (.bool false),.d (.bool false),.d (.bool false),.d (.bool false),.d (.bool false),.d (.bool false),.d (.bool false),.d (.bool false),.d (.bool false),.d (.bool false),.d (.bool false),.d (.bool false),.d (.bool false),.d (.bool false),.d (.bool false),.d (.bool false),.d (.bool false),.d (.bool false),.d (.bool false),.d (.bool false),.d (.bool false),.d (.bool false),.d (.bool false),.d (.bool false),.d (.bool false),.d (.bool false),.d (.bool false)] parts).map mkAgg:=buildV_array (by kernel_rfl) Tryz.underlying477 (by kernel_rfl)
attribute [simp] Tryz.underlying478
@[simp] theorem sz478:sizeOf? Tryz.prog 478=some 1:=by kernel_rfl
@[simp] theorem ag478:agg? Tryz.prog 478=some false:=by kernel_rfl
attribute [simp] Tryz.underlying481
@[simp] theorem sz481:sizeOf? Tryz.prog 481=some 1:=by kernel_rfl
@[simp] theorem ag481:agg? Tryz.prog 481=some false:=by kernel_rfl
attribute [simp] Tryz.underlying482
@[simp] theorem sz482:sizeOf? Tryz.prog 482=some 1:=by kernel_rfl
@[simp] theorem ag482:agg? Tryz.prog 482=some false:=by kernel_rfl
@[simp] theorem zs482:zeroVs? Tryz.prog 482=some [.d (.int .u64 0)]:=by kernel_rfl
@[simp] theorem al482 (h:List Am.Obj):allocV Tryz.prog h 482=some (.ptr h.length 0,h++[.box [.d (.int .u64 0)]]):=allocV_of zs482
attribute [simp] Tryz.underlying489
@[simp] theorem sz489:sizeOf? Tryz.prog 489=some 1:=by kernel_rfl
@[simp] theorem ag489:agg? Tryz.prog 489=some false:=by kernel_rfl
attribute [simp] Tryz.underlying490
@[simp] theorem sz490:sizeOf? Tryz.prog 490=some 1:=by kernel_rfl
@[simp] theorem ag490:agg? Tryz.prog 490=some false:=by kernel_rfl
attribute [simp] Tryz.underlying497
@[simp] theorem sz497:sizeOf? Tryz.prog 497=some 256:=by kernel_rfl
@[simp] theorem ag497:agg? Tryz.prog 497=some true:=by kernel_rfl
@[simp] theorem bv497 (parts:List (Nat × V)):buildV Tryz.prog 497 parts=(fillV (fun i=>some (i*1,1)) [.d (.int .u8 0),.d (.int .u8 0),.d (.int .u8 0),.d (.int .u8 0),.d (.int .u8 0),.d (.int .u8 0),.d (.int .u8 0),.d (.int .u8 0),.d (.int .u8 0),.d (.int .u8 0),.d (.int .u8 0),.d (.int .u8 0),.d (.int .u8 0),.d (.int .u8 0),.d (.int .u8 0),.d (.int .u8 0),.d (.int .u8 0),.d (.int .u8 0),.d (.int .u8 0),.d (.int .u8 0),.d (.int .u8 0),.d (.int .u8 0),.d (.int .u8 0),.d (.int .u8 0),.d (.int .u8 0),.d (.int .u8 0),.d (.int .u8 0),.d (.int .u8 0),.d (.int .u8 0),.d (.int .u8 0),.d (.int .u8 0),.d (.int .u8 0),.d (.int .u8 0),.d (.int .u8 0),.d (.int .u8 0),.d (.int .u8 0),.d (.int .u8 0),.d (.int .u8 0),.d (.int .u8 0),.d (.int .u8 0),.d (.int .u8 0),.d (.int .u8 0),.d (.int .u8 0),.d (.int .u8 0),.d (.int .u8 0),.d (.int .u8 0),.d (.int .u8 0),.d (.int .u8 0),.d (.int .u8 0),.d (.int .u8 0),.d (.int .u8 0),.d (.int .u8 0),.d (.int .u8 0),.d (.int .u8 0),.d (.int .u8 0),.d (.int .u8 0),.d (.int .u8 0),.d (.int .u8 0),.d (.int .u8 0),.d (.int .u8 0),.d (.int .u8 0),.d (.int .u8 0),.d (.int .u8 0),.d (.int .u8 0),.d (.int .u8 0),.d (.int .u8 0),.d (.int .u8 0),.d (.int .u8 0),.d (.int .u8 0),.d (.int .u8 0),.d (.int .u8 0),.d (.int .u8 0),.d (.int .u8 0),.d (.int .u8 0),.d (.int .u8 0),.d (.int .u8 0),.d (.int .u8 0),.d (.int .u8 0),.d (.int .u8 0),.d (.int .u8 0),.d (.int .u8 0),.d (.int .u8 0),.d (.int .u8 0),.d (.int .u8 0),.d (.int .u8 0),.d (.int .u8 0),.d (.int .u8 0),.d (.int .u8 0),.d (.int .u8 0),.d (.int .u8 0),.d (.int .u8 0),.d (.int .u8 0),.d (.int .u8 0),.d (.int .u8 0),.d (.int .u8 0),.d (.int .u8 0),.d (.int .u8 0),.d (.int .u8 0),.d (.int .u8 0),.d (.int .u8 0),.d (.int .u8 0),.d (.int .u8 0),.d (.int .u8 0),.d (.int .u8 0),.d (.int .u8 0),.d (.int .u8 0),.d (.int .u8 0),.d (.int .u8 0),.d (.int .u8 0),.d (.int .u8 0),.d (.int .u8 0),.d (.int .u8 0),.d (.int .u8 0),.d (.int .u8 0),.d (.int .u8 0),.d (.int .u8 0),.d (.int .u8 0),.d (.int .u8 0),.d (.int .u8 0),.d (.int .u8 0),.d (.int .u8 0),.d (.int .u8 0),.d (.int .u8 0),.d (.int .u8 0),.d (.int .u8 0),.d (.int .u8 0),.d (.int .u8 0),.d (.int .u8 0),.d (.int .u8 0),.d (.int .u8 0),.d (.int .u8 0),.d (.int .u8 0),.d (.int .u8 0),.d (.int .u8 0),.d (.int .u8 0),.d (.int .u8 0),.d (.int .u8 0),.d (.int .u8 0),.d (.int .u8 0),.d (.int .u8 0),.d (.int .u8 0),.d (.int .u8 0),.d (.int .u8 0),.d (.int .u8 0),.d (.int .u8 0),.d (.int .u8 0),.d (.int .u8 0),.d (.int .u8 0),.d (.int .u8 0),.d (.int .u8 0),.d (.int .u8 0),.d (.int .u8 0),.d (.int .u8 0),.d (.int .u8 0),.d (.int .u8 0),.d (.int .u8 0),.d (.int .u8 0),.d (.int .u8 0),.d (.int .u8 0),.d (.int .u8 0),.d (.int .u8 0),.d (.int .u8 0),.d (.int .u8 0),.d (.int .u8 0),.d (.int .u8 0),.d (.int .u8 0),.d (.int .u8 0),.d (.int .u8 0),.d (.int .u8 0),.d (.int .u8 0),.d (.int .u8 0),.d (.int .u8 0),.d (.int .u8 0),.d (.int .u8 0),.d (.int .u8 0),.d (.int .u8 0),.d (.int .u8 0),.d (.int .u8 0),.d (.int .u8 0),.d (.int .u8 0),.d (.int .u8 0),.d (.int .u8 0),.d (.int .u8 0),.d (.int .u8 0),.d (.int .u8 0),.d (.int .u8 0),.d (.int .u8 0),.d (.int .u8 0),.d (.int .u8 0),.d (.int .u8 0),.d (.int .u8 0),.d (.int .u8 0),.d (.int .u8 0),.d (.int .u8 0),.d (.int .u8 0),.d (.int .u8 0),.d (.int .u8 0),.d (.int .u8 0),.d (.int .u8 0),.d (.int .u8 0),.d (.int .u8 0),.d (.int .u8 0),.d (.int .u8 0),.d (.int .u8 0),.d (.int .u8 0),.d (.int .u8 0),.d (.int .u8 0),.d (.int .u8 0),.d (.int .u8 0),.d (.int .u8 0),.d (.int .u8 0),.d (.int .u8 0),.d (.int .u8 0),.d (.int .u8 0),.d (.int .u8 0),.d (.int .u8 0),.d (.int .u8 0),.d (.int .u8 0),.d (.int .u8 0),.d (.int .u8 0),.d (.int .u8 0),.d (.int .u8 0),.d (.int .u8 0),.d (.int .u8 0),.d (.int .u8 0),.d (.int .u8 0),.d (.int .u8 0),.d (.int .u8 0),.d (.int .u8 0),.d (.int .u8 0),.d (.int .u8 0),.d (.int .u8 0),.d (.int .u8 0),.d (.int .u8 0),.d (.int .u8 0),.d (.int .u8 0),.d (.int .u8 0),.d (.int .u8 0),.d (.int .u8 0),.d (.int .u8 0),.d (.int .u8 0),.d (.int .u8 0),.d (.int .u8 0),.d (.int .u8 0),.d (.int .u8 0),.d (.int .u8 0),.d (.int .u8 0),.d (.int .u8 0),.d (.int .u8 0),.d (.int .u8 0),.d (.int .u8 0),.d (.int .u8 0),.d (.int .u8 0),.d (.int .u8 0),.d (.int .u8 0),.d (.int .u8 0)] parts).map mkAgg:=buildV_array (by kernel_rfl) Tryz.underlying497 (by kernel_rfl)
attribute [simp] Tryz.underlying498
@[simp] theorem sz498:sizeOf? Tryz.prog 498=some 2:=by kernel_rfl
@[simp] theorem ag498:agg? Tryz.prog 498=some true:=by kernel_rfl
@[simp] theorem bv498 (parts:List (Nat × V)):buildV Tryz.prog 498 parts=(fillV (fun i=>[(0,1),(1,1)][i]?) [.d (.int .u8 0),.d (.int .u8 0)] parts).map mkAgg:=buildV_struct (by kernel_rfl) (by kernel_rfl)
@[simp] theorem fo498_0:fieldOff? Tryz.prog 498 0=some (0,5):=by kernel_rfl
@[simp] theorem fo498_1:fieldOff? Tryz.prog 498 1=some (1,5):=by kernel_rfl
@[simp] theorem fs498:flatStruct Tryz.prog 498=some [(0,0),(1,0)]:=by kernel_rfl
attribute [simp] Tryz.underlying499
@[simp] theorem sz499:sizeOf? Tryz.prog 499=some 2:=by kernel_rfl
@[simp] theorem ag499:agg? Tryz.prog 499=some true:=by kernel_rfl
@[simp] theorem zs499:zeroVs? Tryz.prog 499=some [.d (.int .u8 0),.d (.int .u8 0)]:=by kernel_rfl
@[simp] theorem al499 (h:List Am.Obj):allocV Tryz.prog h 499=some (.ptr h.length 0,h++[.box [.d (.int .u8 0),.d (.int .u8 0)]]):=allocV_of zs499
@[simp] theorem bv499 (parts:List (Nat × V)):buildV Tryz.prog 499 parts=(fillV (fun i=>[(0,1),(1,1)][i]?) [.d (.int .u8 0),.d (.int .u8 0)] parts).map mkAgg:=buildV_struct (by kernel_rfl) (by kernel_rfl)
@[simp] theorem fo499_0:fieldOff? Tryz.prog 499 0=some (0,5):=by kernel_rfl
@[simp] theorem fo499_1:fieldOff? Tryz.prog 499 1=some (1,5):=by kernel_rfl
@[simp] theorem fs499:flatStruct Tryz.prog 499=some [(0,0),(1,0)]:=by kernel_rfl
attribute [simp] Tryz.underlying500
@[simp] theorem sz500:sizeOf? Tryz.prog 500=some 32:=by kernel_rfl
@[simp] theorem ag500:agg? Tryz.prog 500=some true:=by kernel_rfl
@[simp] theorem bv500 (parts:List (Nat × V)):buildV Tryz.prog 500 parts=(fillV (fun i=>some (i*2,2)) [.d (.int .u8 0),.d (.int .u8 0),.d (.int .u8 0),.d (.int .u8 0),.d (.int .u8 0),.d (.int .u8 0),.d (.int .u8 0),.d (.int .u8 0),.d (.int .u8 0),.d (.int .u8 0),.d (.int .u8 0),.d (.int .u8 0),.d (.int .u8 0),.d (.int .u8 0),.d (.int .u8 0),.d (.int .u8 0),.d (.int .u8 0),.d (.int .u8 0),.d (.int .u8 0),.d (.int .u8 0),.d (.int .u8 0),.d (.int .u8 0),.d (.int .u8 0),.d (.int .u8 0),.d (.int .u8 0),.d (.int .u8 0),.d (.int .u8 0),.d (.int .u8 0),.d (.int .u8 0),.d (.int .u8 0),.d (.int .u8 0),.d (.int .u8 0)] parts).map mkAgg:=buildV_array (by kernel_rfl) Tryz.underlying500 (by kernel_rfl)
attribute [simp] Tryz.underlying501
@[simp] theorem sz501:sizeOf? Tryz.prog 501=some 1:=by kernel_rfl
@[simp] theorem ag501:agg? Tryz.prog 501=some false:=by kernel_rfl
attribute [simp] Tryz.underlying503
@[simp] theorem sz503:sizeOf? Tryz.prog 503=some 1:=by kernel_rfl
@[simp] theorem ag503:agg? Tryz.prog 503=some false:=by kernel_rfl
attribute [simp] Tryz.underlying505
@[simp] theorem sz505:sizeOf? Tryz.prog 505=some 3:=by kernel_rfl
@[simp] theorem ag505:agg? Tryz.prog 505=some true:=by kernel_rfl
@[simp] theorem bv505 (parts:List (Nat × V)):buildV Tryz.prog 505 parts=(fillV (fun i=>[(0,1),(1,1),(2,1)][i]?) [.d (.str ⟨#[]⟩),.d (.str ⟨#[]⟩),.d .nilI] parts).map mkAgg:=buildV_struct (by kernel_rfl) (by kernel_rfl)
@[simp] theorem fo505_0:fieldOff? Tryz.prog 505 0=some (0,9):=by kernel_rfl
@[simp] theorem fo505_1:fieldOff? Tryz.prog 505 1=some (1,9):=by kernel_rfl
@[simp] theorem fo505_2:fieldOff? Tryz.prog 505 2=some (2,284):=by kernel_rfl
attribute [simp] Tryz.underlying506
@[simp] theorem sz506:sizeOf? Tryz.prog 506=some 3:=by kernel_rfl
@[simp] theorem ag506:agg? Tryz.prog 506=some true:=by kernel_rfl
@[simp] theorem zs506:zeroVs? Tryz.prog 506=some [.d (.str ⟨#[]⟩),.d (.str ⟨#[]⟩),.d .nilI]:=by kernel_rfl
@[simp] theorem bv506 (parts:List (Nat × V)):buildV Tryz.prog 506 parts=(fillV (fun i=>[(0,1),(1,1),(2,1)][i]?) [.d (.str ⟨#[]⟩),.d (.str ⟨#[]⟩),.d .nilI] parts).map mkAgg:=buildV_struct (by kernel_rfl) (by kernel_rfl)
@[simp] theorem fo506_0:fieldOff? Tryz.prog 506 0=some (0,9):=by kernel_rfl
@[simp] theorem fo506_1:fieldOff? Tryz.prog 506 1=some (1,9):=by kernel_rfl
@[simp] theorem fo506_2:fieldOff? Tryz.prog 506 2=some (2,284):=by kernel_rfl
attribute [simp] Tryz.underlying508
@[simp] theorem sz508:sizeOf? Tryz.prog 508=some 1:=by kernel_rfl
@[simp] theorem ag508:agg? Tryz.prog 508=some false:=by kernel_rfl
attribute [simp] Tryz.underlying510
@[simp] theorem sz510:sizeOf? Tryz.prog 510=some 16:=by kernel_rfl
@[simp] theorem ag510:agg? Tryz.prog 510=some true:=by kernel_rfl
@[simp] theorem bv510 (parts:List (Nat × V)):buildV Tryz.prog 510 parts=(fillV (fun i=>some (i*1,1)) [.d (.int .u32 0),.d (.int .u32 0),.d (.int .u32 0),.d (.int .u32 0),.d (.int .u32 0),.d (.int .u32 0),.d (.int .u32 0),.d (.int .u32 0),.d (.int .u32 0),.d (.int .u32 0),.d (.int .u32 0),.d (.int .u32 0),.d (.int .u32 0),.d (.int .u32 0),.d (.int .u32 0),.d (.int .u32 0)] parts).map mkAgg:=buildV_array (by kernel_rfl) Tryz.underlying510 (by kernel_rfl)
attribute [simp] Tryz.underlying513
@[simp] theorem sz513:sizeOf? Tryz.prog 513=some 1:=by kernel_rfl
@[simp] theorem ag513:agg? Tryz.prog 513=some false:=by kernel_rfl
attribute [simp] Tryz.underlying514
@[simp] theorem sz514:sizeOf? Tryz.prog 514=some 1:=by kernel_rfl
@[simp] theorem ag514:agg? Tryz.prog 514=some false:=by kernel_rfl
attribute [simp] Tryz.underlying517
@[simp] theorem sz517:sizeOf? Tryz.prog 517=some 5:=by kernel_rfl
@[simp] theorem ag517:agg? Tryz.prog 517=some true:=by kernel_rfl
@[simp] theorem bv517 (parts:List (Nat × V)):buildV Tryz.prog 517 parts=(fillV (fun i=>some (i*1,1)) [.d .nilF,.d .nilF,.d .nilF,.d .nilF,.d .nilF] parts).map mkAgg:=buildV_array (by kernel_rfl) Tryz.underlying517 (by kernel_rfl)
attribute [simp] Tryz.underlying524
@[simp] theorem sz524:sizeOf? Tryz.prog 524=some 1:=by kernel_rfl
@[simp] theorem ag524:agg? Tryz.prog 524=some false:=by kernel_rfl
attribute [simp] Tryz.underlying525
@[simp] theorem sz525:sizeOf? Tryz.prog 525=some 1:=by kernel_rfl
@[simp] theorem ag525:agg? Tryz.prog 525=some true:=by kernel_rfl
@[simp] theorem bv525 (parts:List (Nat × V)):buildV Tryz.prog 525 parts=(fillV (fun i=>[(0,1)][i]?) [.d (.str ⟨#[]⟩)] parts).map mkAgg:=buildV_struct (by kernel_rfl) (by kernel_rfl)
@[simp] theorem fo525_0:fieldOff? Tryz.prog 525 0=some (0,9):=by kernel_rfl
@[simp] theorem fs525:flatStruct Tryz.prog 525=some [(0,2)]:=by kernel_rfl
attribute [simp] Tryz.underlying526
@[simp] theorem sz526:sizeOf? Tryz.prog 526=some 1:=by kernel_rfl
@[simp] theorem ag526:agg? Tryz.prog 526=some true:=by kernel_rfl
@[simp] theorem zs526:zeroVs? Tryz.prog 526=some [.d (.str ⟨#[]⟩)]:=by kernel_rfl
@[simp] theorem bv526 (parts:List (Nat × V)):buildV Tryz.prog 526 parts=(fillV (fun i=>[(0,1)][i]?) [.d (.str ⟨#[]⟩)] parts).map mkAgg:=buildV_struct (by kernel_rfl) (by kernel_rfl)
@[simp] theorem fo526_0:fieldOff? Tryz.prog 526 0=some (0,9):=by kernel_rfl
@[simp] theorem fs526:flatStruct Tryz.prog 526=some [(0,2)]:=by kernel_rfl
attribute [simp] Tryz.underlying527
@[simp] theorem sz527:sizeOf? Tryz.prog 527=some 1:=by kernel_rfl
@[simp] theorem ag527:agg? Tryz.prog 527=some false:=by kernel_rfl
attribute [simp] Tryz.underlying530
@[simp] theorem sz530:sizeOf? Tryz.prog 530=some 32:=by kernel_rfl
@[simp] theorem ag530:agg? Tryz.prog 530=some true:=by kernel_rfl
@[simp] theorem bv530 (parts:List (Nat × V)):buildV Tryz.prog 530 parts=(fillV (fun i=>some (i*1,1)) [.d (.int .u8 0),.d (.int .u8 0),.d (.int .u8 0),.d (.int .u8 0),.d (.int .u8 0),.d (.int .u8 0),.d (.int .u8 0),.d (.int .u8 0),.d (.int .u8 0),.d (.int .u8 0),.d (.int .u8 0),.d (.int .u8 0),.d (.int .u8 0),.d (.int .u8 0),.d (.int .u8 0),.d (.int .u8 0),.d (.int .u8 0),.d (.int .u8 0),.d (.int .u8 0),.d (.int .u8 0),.d (.int .u8 0),.d (.int .u8 0),.d (.int .u8 0),.d (.int .u8 0),.d (.int .u8 0),.d (.int .u8 0),.d (.int .u8 0),.d (.int .u8 0),.d (.int .u8 0),.d (.int .u8 0),.d (.int .u8 0),.d (.int .u8 0)] parts).map mkAgg:=buildV_array (by kernel_rfl) Tryz.underlying530 (by kernel_rfl)
attribute [simp] Tryz.underlying531
@[simp] theorem sz531:sizeOf? Tryz.prog 531=some 64:=by kernel_rfl
@[simp] theorem ag531:agg? Tryz.prog 531=some true:=by kernel_rfl
@[simp] theorem bv531 (parts:List (Nat × V)):buildV Tryz.prog 531 parts=(fillV (fun i=>some (i*1,1)) [.d (.int .u8 0),.d (.int .u8 0),.d (.int .u8 0),.d (.int .u8 0),.d (.int .u8 0),.d (.int .u8 0),.d (.int .u8 0),.d (.int .u8 0),.d (.int .u8 0),.d (.int .u8 0),.d (.int .u8 0),.d (.int .u8 0),.d (.int .u8 0),.d (.int .u8 0),.d (.int .u8 0),.d (.int .u8 0),.d (.int .u8 0),.d (.int .u8 0),.d (.int .u8 0),.d (.int .u8 0),.d (.int .u8 0),.d (.int .u8 0),.d (.int .u8 0),.d (.int .u8 0),.d (.int .u8 0),.d (.int .u8 0),.d (.int .u8 0),.d (.int .u8 0),.d (.int .u8 0),.d (.int .u8 0),.d (.int .u8 0),.d (.int .u8 0),.d (.int .u8 0),.d (.int .u8 0),.d (.int .u8 0),.d (.int .u8 0),.d (.int .u8 0),.d (.int .u8 0),.d (.int .u8 0),.d (.int .u8 0),.d (.int .u8 0),.d (.int .u8 0),.d (.int .u8 0),.d (.int .u8 0),.d (.int .u8 0),.d (.int .u8 0),.d (.int .u8 0),.d (.int .u8 0),.d (.int .u8 0),.d (.int .u8 0),.d (.int .u8 0),.d (.int .u8 0),.d (.int .u8 0),.d (.int .u8 0),.d (.int .u8 0),.d (.int .u8 0),.d (.int .u8 0),.d (.int .u8 0),.d (.int .u8 0),.d (.int .u8 0),.d (.int .u8 0),.d (.int .u8 0),.d (.int .u8 0),.d (.int .u8 0)] parts).map mkAgg:=buildV_array (by kernel_rfl) Tryz.underlying531 (by kernel_rfl)
attribute [simp] Tryz.underlying533
@[simp] theorem sz533:sizeOf? Tryz.prog 533=some 1:=by kernel_rfl
@[simp] theorem ag533:agg? Tryz.prog 533=some false:=by kernel_rfl
attribute [simp] Tryz.underlying536
@[simp] theorem sz536:sizeOf? Tryz.prog 536=some 1:=by kernel_rfl
@[simp] theorem ag536:agg? Tryz.prog 536=some false:=by kernel_rfl
attribute [simp] Tryz.underlying545
@[simp] theorem sz545:sizeOf? Tryz.prog 545=some 1:=by kernel_rfl
@[simp] theorem ag545:agg? Tryz.prog 545=some false:=by kernel_rfl
attribute [simp] Tryz.underlying547
@[simp] theorem sz547:sizeOf? Tryz.prog 547=some 1:=by kernel_rfl
@[simp] theorem ag547:agg? Tryz.prog 547=some false:=by kernel_rfl
attribute [simp] Tryz.underlying555
@[simp] theorem sz555:sizeOf? Tryz.prog 555=some 1:=by kernel_rfl
@[simp] theorem ag555:agg? Tryz.prog 555=some false:=by kernel_rfl
attribute [simp] Tryz.underlying557
@[simp] theorem sz557:sizeOf? Tryz.prog 557=some 1:=by kernel_rfl
@[simp] theorem ag557:agg? Tryz.prog 557=some false:=by kernel_rfl
attribute [simp] Tryz.underlying558
@[simp] theorem sz558:sizeOf? Tryz.prog 558=some 2:=by kernel_rfl
@[simp] theorem ag558:agg? Tryz.prog 558=some true:=by kernel_rfl
@[simp] theorem bv558 (parts:List (Nat × V)):buildV Tryz.prog 558 parts=(fillV (fun i=>[(0,1),(1,1)][i]?) [.nilS,.d (.int .i64 0)] parts).map mkAgg:=buildV_struct (by kernel_rfl) (by kernel_rfl)
@[simp] theorem fo558_0:fieldOff? Tryz.prog 558 0=some (0,236):=by kernel_rfl
@[simp] theorem fo558_1:fieldOff? Tryz.prog 558 1=some (1,36):=by kernel_rfl
attribute [simp] Tryz.underlying559
@[simp] theorem sz559:sizeOf? Tryz.prog 559=some 2:=by kernel_rfl
@[simp] theorem ag559:agg? Tryz.prog 559=some true:=by kernel_rfl
@[simp] theorem bv559 (parts:List (Nat × V)):buildV Tryz.prog 559 parts=(fillV (fun i=>[(0,1),(1,1)][i]?) [.nilS,.d (.int .i64 0)] parts).map mkAgg:=buildV_struct (by kernel_rfl) (by kernel_rfl)
@[simp] theorem fo559_0:fieldOff? Tryz.prog 559 0=some (0,236):=by kernel_rfl
@[simp] theorem fo559_1:fieldOff? Tryz.prog 559 1=some (1,36):=by kernel_rfl
attribute [simp] Tryz.underlying563
@[simp] theorem sz563:sizeOf? Tryz.prog 563=some 1:=by kernel_rfl
@[simp] theorem ag563:agg? Tryz.prog 563=some false:=by kernel_rfl
def K:Keeps:=fun f b=>match f,b with
 |3,0=>some [(5,0),(7,0),(8,0),(10,0)]
 |4,0=>some [(1,0),(3,0)]
 |4,2=>some [(4,0),(6,0),(7,0),(8,0)]
 |4,4=>some [(4,0),(6,0),(7,0),(8,0),(9,0)]
 |4,6=>some [(4,0),(7,0),(10,0),(11,0)]
 |4,8=>some [(4,0),(7,0),(10,0),(11,0),(12,0)]
 |5,0=>some [(1,0),(5,0),(6,0),(8,0)]
 |7,0=>some [(1,0),(3,0)]
 |16,0=>some [(2,0),(3,0),(7,0)]
 |17,0=>some [(2,0),(3,0),(5,0)]
 |19,0=>some [(1,0),(3,0),(4,0)]
 |20,0=>some [(1,0),(2,0),(5,0)]
 |20,2=>some [(1,0),(6,0)]
 |21,0=>some [(4,0),(6,0),(32,0),(33,0),(34,0)]
 |22,0=>some [(1,0),(3,0)]
 |23,0=>some [(3,0),(11,0),(12,0)]
 |24,0=>some [(1,0),(2,0),(7,0),(8,8),(9,0)]
 |26,0=>some [(1,0),(20,0),(21,0),(22,0)]
 |39,1=>some [(0,0),(3,0),(4,1),(59,0),(60,0),(61,0)]
 |45,2=>some [(0,0),(92,0),(93,0)]
 |52,1=>some [(0,0),(3,0),(53,0)]
 |59,1=>some [(2,0),(5,0),(34,0),(35,0),(36,0)]
 |60,0=>some [(0,0),(5,0),(16,0),(17,0),(18,0)]
 |61,1=>some [(0,0),(2,0),(11,0),(88,0),(89,0),(90,0)]
 |64,0=>some [(0,0),(3,1),(4,0),(5,0)]
 |65,1=>some [(0,0),(2,0),(4,0),(5,0)]
 |66,0=>some [(0,0),(1,0),(6,1),(7,0)]
 |69,2=>some [(0,0),(2,0),(5,0),(12,0)]
 |70,2=>some [(10,0),(12,1),(13,0)]
 |70,4=>some [(16,0),(18,1),(19,0)]
 |71,0=>some [(2,0),(3,0),(4,0),(11,0),(12,0),(13,0)]
 |72,0=>some [(0,0),(1,0),(3,0),(6,0),(11,0),(14,0),(17,1),(59,0),(60,0),(61,0)]
 |72,2=>some [(0,0),(6,0),(14,0),(17,1),(24,0),(25,0),(26,1),(104,0),(105,0),(106,0)]
 |72,4=>some [(0,0),(6,0),(14,0),(17,1),(24,0),(25,0),(26,1),(30,0),(104,0),(105,0),(106,0),(121,0),(122,0),(123,0)]
 |72,6=>some [(17,1),(25,0),(26,1),(144,0),(145,0),(146,0)]
 |73,0=>some [(1,0),(3,0),(22,0),(23,0),(24,0)]
 |79,0=>some [(0,0),(2,6),(3,0),(4,0)]
 |79,2=>some [(0,0),(4,0),(8,1),(43,0),(44,0),(45,0)]
 |79,4=>some [(0,0),(4,0),(8,1),(13,0),(43,0),(44,0),(45,0)]
 |79,6=>some [(0,0),(4,0),(8,1),(14,6),(18,0),(127,0),(128,0)]
 |79,8=>some [(0,0),(4,0),(8,1),(14,6),(18,0),(19,0),(20,1),(127,0),(128,0),(131,0),(132,0),(133,0)]
 |82,0=>some [(2,0),(6,1),(11,0),(12,0),(13,0)]
 |90,0=>some [(0,0),(1,0),(9,0),(10,0),(11,0)]
 |98,0=>some [(0,0),(5,1),(6,1),(7,0),(8,0)]
 |100,0=>some [(0,0),(1,0),(2,0),(3,0),(9,0),(10,0)]
 |103,0=>some [(0,0),(6,0)]
 |108,0=>some [(0,0),(1,0)]
 |109,0=>some [(7,1),(24,0),(25,0),(26,0)]
 |112,0=>some [(5,1),(21,0),(22,0),(23,0)]
 |117,0=>some [(0,0),(1,0),(6,0),(7,0)]
 |118,0=>some [(0,0),(3,0),(4,0)]
 |125,0=>some [(1,0),(2,0),(3,0),(12,0),(13,0),(14,0)]
 |125,2=>some [(2,0),(3,0),(31,0),(32,0),(33,0)]
 |126,0=>some [(0,0),(1,0),(5,0),(6,0)]
 |133,0=>some [(4,0),(6,0),(7,0),(9,0),(10,7),(17,0),(18,0),(19,0)]
 |134,0=>some [(1,0),(7,0),(11,0),(12,0),(40,0),(41,0),(42,0)]
 |135,0=>some [(2,0),(3,0),(7,0),(17,0),(18,0),(19,0)]
 |136,1=>some [(2,0),(4,0),(7,0),(20,0),(21,0),(22,0)]
 |136,3=>some [(2,0),(4,0),(10,0),(37,0),(38,0),(39,0)]
 |140,0=>some [(0,0),(5,1),(12,0),(13,0),(14,0)]
 |141,0=>some [(19,0)]
 |145,0=>some [(1,0),(4,0),(25,0),(26,0),(27,0)]
 |145,2=>some [(4,0),(44,0),(45,0),(46,0)]
 |145,4=>some [(4,0),(8,0),(44,0),(45,0),(46,0),(67,0),(68,0),(69,0)]
 |145,6=>some [(4,0),(44,0),(45,0),(46,0),(79,0),(80,0),(81,0)]
 |146,0=>some [(0,0),(1,0),(2,0),(10,0),(33,0),(34,0),(35,0)]
 |149,0=>some [(0,0),(2,0),(6,0),(7,0),(8,0)]
 |149,2=>some [(0,0),(2,0),(6,0),(7,0),(12,0)]
 |150,0=>some [(0,0),(1,0),(12,0),(13,0)]
 |154,0=>some [(1,0),(2,0),(3,0),(6,0),(7,0),(35,0),(36,0),(37,0)]
 |154,2=>some [(3,0),(6,0),(7,0),(12,0),(13,0)]
 |154,4=>some [(3,0),(6,0),(7,0),(12,0),(13,0),(14,0),(67,0),(68,0),(69,0)]
 |155,0=>some [(2,0),(3,0),(4,0),(5,0),(6,0),(18,0),(19,0),(20,0)]
 |156,0=>some [(0,0),(1,0),(17,0),(18,0),(19,0)]
 |157,0=>some [(0,0),(1,0),(10,0)]
 |159,0=>some [(4,0),(6,0),(15,0),(16,0),(17,0)]
 |160,0=>some [(0,0),(4,0),(6,0),(9,0),(11,0),(12,0),(68,0),(69,0)]
 |160,2=>some [(4,0),(6,0),(9,0),(11,0),(12,0),(14,0),(93,0),(94,0),(95,0)]
 |161,0=>some [(4,0),(5,0),(21,0),(22,0),(23,0)]
 |164,0=>some [(1,0),(16,0),(17,0),(18,0)]
 |166,0=>some [(0,0),(3,1),(11,0),(12,0),(13,0)]
 |169,0=>some [(0,0),(8,0),(23,0),(24,0),(25,0)]
 |170,0=>some [(3,1),(17,0),(18,0),(19,0)]
 |172,0=>some [(1,0),(2,0),(3,0),(4,0),(8,0),(9,0),(10,0),(55,0),(56,0),(57,0)]
 |172,2=>some [(1,0),(2,0),(3,0),(4,0),(9,0),(10,0)]
 |173,0=>some [(0,0),(6,0),(7,0),(8,0),(9,0)]
 |175,0=>some [(0,0),(1,0),(6,0),(7,0)]
 |176,0=>some [(0,0),(1,0),(5,0)]
 |182,0=>some [(3,1),(11,0),(12,0),(13,0)]
 |189,0=>some [(0,0),(1,0),(7,0),(8,0)]
 |192,0=>some [(0,0),(1,0),(7,0),(8,0)]
 |193,0=>some [(0,0),(1,0),(7,0),(8,0)]
 |195,0=>some [(1,0),(2,0),(23,0),(24,0),(25,0)]
 |196,1=>some [(3,0),(44,0),(45,0),(46,0)]
 |197,0=>some [(0,0),(1,0),(7,0),(8,0)]
 |199,0=>some [(0,0),(1,0),(7,0),(8,0)]
 |200,0=>some [(0,0),(6,1),(13,0),(14,0),(15,0)]
 |201,0=>some [(2,0),(4,1),(7,0),(8,0),(9,0)]
 |203,1=>some [(2,0),(4,0),(6,0),(7,0),(9,0),(26,0),(27,0),(28,0)]
 |204,0=>some [(3,0),(4,0),(7,10),(14,0),(15,0),(16,0)]
 |207,0=>some [(2,0),(3,0),(6,0)]
 |207,2=>some [(2,0),(3,0),(6,0),(9,0),(10,0),(75,0),(76,0)]
 |213,0=>some [(0,0),(1,0),(5,0),(6,0)]
 |220,0=>some [(0,0),(1,0),(2,0),(6,0),(7,0),(8,0)]
 |220,2=>some [(0,0),(1,0),(2,0),(6,0)]
 |220,4=>some [(0,0),(1,0),(2,0),(6,0),(7,0),(8,0)]
 |226,0=>some [(1,0),(3,0),(28,0),(29,0),(30,0)]
 |226,2=>some [(1,0),(6,0),(68,0),(69,0),(70,0)]
 |227,0=>some [(0,0),(3,1)]
 |228,0=>some [(3,0),(18,0),(19,0),(20,0)]
 |234,0=>some [(14,0)]
 |239,0=>some [(2,0),(5,0),(6,0),(7,0)]
 |240,0=>some [(0,0),(2,0),(3,0),(4,0)]
 |241,0=>some [(0,0),(1,0),(12,0),(13,0)]
 |242,0=>some [(0,0),(5,0)]
 |243,0=>some [(0,0),(1,0),(2,0),(3,0),(4,0),(10,0),(11,0)]
 |246,0=>some [(1,0),(5,1),(8,0),(9,0),(10,0)]
 |247,0=>some [(0,0),(1,0),(26,0),(27,0),(28,0)]
 |247,2=>some [(0,0),(8,0),(9,1),(10,1),(11,1),(47,0),(48,0),(49,0)]
 |249,0=>some [(0,0),(1,0),(7,0)]
 |250,0=>some [(6,0)]
 |251,0=>some [(0,0),(1,0),(5,0)]
 |251,2=>some [(0,0),(1,0),(5,0),(6,0),(7,0)]
 |258,0=>some [(0,0),(1,0),(5,0),(6,0)]
 |262,0=>some [(1,0),(25,0),(26,0),(27,0)]
 |263,0=>some [(0,0),(37,0),(38,0),(39,0)]
 |268,0=>some [(2,0),(3,0),(4,0),(7,0),(8,1),(16,0),(17,0),(18,0)]
 |270,0=>some [(3,0),(6,0),(7,0),(8,0)]
 |271,0=>some [(5,0),(8,0),(9,0),(11,0),(12,0),(39,0),(40,0),(41,0)]
 |272,0=>some [(1,0),(5,10),(12,0),(13,0)]
 |272,2=>some [(1,0),(5,10),(6,0),(7,1),(12,0),(13,0),(16,0),(17,0),(18,0)]
 |273,0=>some [(2,0),(4,0)]
 |276,1=>some [(0,0),(1,0),(5,0),(6,0),(7,0),(8,0),(9,0),(10,0)]
 |279,0=>some [(5,0),(6,0),(47,0),(48,0),(49,0)]
 |283,1=>some [(0,0),(1,0),(5,0),(39,0),(40,0),(41,0)]
 |283,3=>some [(1,0),(8,0),(63,0),(64,0),(65,0)]
 |284,0=>some [(0,0),(1,0),(2,0),(6,0),(8,0),(12,0),(13,0),(14,0)]
 |288,0=>some [(0,0),(1,0),(4,0)]
 |289,0=>some [(0,0),(1,0),(3,0),(4,0),(10,1),(11,0),(12,0),(13,0),(14,0),(15,0),(16,0)]
 |289,2=>some [(0,0),(1,0),(3,0),(4,0),(10,1),(11,0),(12,0),(13,0),(17,0)]
 |291,0=>some [(0,0),(6,0),(7,6),(8,0)]
 |292,0=>some [(3,0),(4,6),(10,0),(11,0),(12,0)]
 |292,2=>some [(3,0),(4,6),(10,0),(11,0),(12,0),(16,0),(17,0),(18,0)]
 |294,0=>some [(2,0),(3,0),(4,0),(6,0),(7,0),(10,0)]
 |294,2=>some [(2,0),(3,0),(4,0),(6,0),(7,0),(8,0),(10,0),(13,0)]
 |296,0=>some [(0,0),(6,0),(9,0),(10,0),(11,0)]
 |296,2=>some [(0,0),(6,0),(9,0),(10,0),(11,0),(12,0),(13,0),(117,0),(118,0),(119,0)]
 |296,4=>some [(0,0),(6,0),(9,0),(10,0),(11,0),(12,0),(13,0),(117,0),(118,0),(119,0),(154,0),(155,0),(156,0)]
 |298,0=>some [(0,0),(1,0),(7,0),(8,0)]
 |299,0=>some [(0,0),(1,0),(2,0),(7,0),(8,0)]
 |302,0=>some [(0,0),(1,0),(7,0),(8,0)]
 |303,0=>some [(3,1),(6,0),(7,0),(8,0)]
 |305,0=>some [(5,0),(6,0),(21,0)]
 |305,2=>some [(5,0),(6,0),(8,0),(9,0),(21,0),(38,0),(39,0),(40,0)]
 |306,0=>some [(0,0),(1,0),(2,0),(3,0),(8,0)]
 |306,2=>some [(0,0),(1,0),(2,0),(3,0),(8,0),(9,0)]
 |307,0=>some [(0,0),(1,0),(4,0),(10,0),(11,0)]
 |307,2=>some [(0,0),(10,0),(13,0)]
 |307,4=>some [(0,0),(2,0),(4,0),(14,0),(15,0)]
 |307,6=>some [(0,0),(14,0),(17,0)]
 |307,8=>some [(0,0),(1,0),(2,0),(3,0),(4,0),(18,0),(19,0),(20,0),(21,0),(22,0)]
 |312,0=>some [(0,0),(8,0),(9,0),(10,0)]
 |316,0=>some [(5,0),(8,0),(9,0),(10,0)]
 |319,0=>some [(0,0),(1,0),(2,0),(3,0),(8,0)]
 |319,2=>some [(0,0),(1,0),(2,0),(3,0),(8,0),(9,0)]
 |320,0=>some [(0,0),(3,0),(8,0),(9,0),(10,0),(11,0)]
 |320,2=>some [(0,0),(3,0),(8,0),(9,0),(12,0)]
 |321,0=>some [(0,0),(1,0),(8,0),(9,0),(10,0),(11,0)]
 |323,0=>some [(0,0),(8,0),(9,0)]
 |324,0=>some [(0,0),(1,0),(2,0),(3,0),(9,0),(10,0)]
 |324,2=>some [(0,0),(1,0),(2,0),(3,0),(9,0),(10,0)]
 |324,4=>some [(0,0),(1,0),(2,0),(3,0),(9,0),(10,0),(11,0)]
 |324,6=>some [(0,0),(1,0),(2,0),(3,0),(9,0),(10,0),(12,0)]
 |325,0=>some [(0,0),(1,0),(4,0),(11,0),(12,0)]
 |325,2=>some [(0,0),(1,0),(4,0),(11,0),(12,0)]
 |325,4=>some [(0,0),(1,0),(4,0),(11,0),(12,0)]
 |326,0=>some [(0,0),(1,0),(4,0),(12,0),(13,0)]
 |326,2=>some [(0,0),(1,0),(4,0),(12,0),(13,0)]
 |326,4=>some [(0,0),(1,0),(4,0),(12,0),(13,0)]
 |326,6=>some [(0,0),(1,0),(4,0),(12,0),(13,0)]
 |326,8=>some [(0,0),(1,0),(4,0),(12,0),(13,0)]
 |329,0=>some [(0,0),(1,0),(2,0),(4,0)]
 |332,0=>some [(3,0),(11,0),(12,0),(13,0)]
 |333,0=>some [(0,0),(4,1),(11,0)]
 |334,0=>some [(0,0),(3,0),(4,0),(5,1),(20,0),(21,0),(22,0)]
 |336,0=>some [(3,0),(5,0)]
 |338,0=>some [(0,0),(1,0),(7,0),(8,0)]
 |339,0=>some [(0,0),(1,0),(7,0),(8,0)]
 |340,0=>some [(14,0)]
 |346,0=>some [(0,0),(5,0)]
 |347,0=>some [(0,0),(4,0),(19,0),(20,0),(21,0)]
 |347,2=>some [(0,0),(4,0),(7,0),(19,0),(20,0),(21,0),(36,0),(37,0),(38,0)]
 |347,4=>some [(0,0),(4,0),(19,0),(20,0),(21,0),(45,0),(46,0),(47,0)]
 |348,0=>some [(0,0),(1,0),(5,0),(6,0)]
 |350,0=>some [(0,0),(1,0),(6,0),(7,0),(8,0)]
 |356,0=>some [(0,0),(1,0),(5,0),(6,0),(7,0),(8,0),(9,0)]
 |356,2=>some [(0,0),(1,0),(5,0),(6,0),(7,0),(8,0),(10,0)]
 |371,0=>some [(0,0),(2,0),(3,0),(4,0)]
 |374,0=>some [(0,0),(1,0),(4,0)]
 |376,0=>some [(0,0),(2,0),(4,0),(10,0),(11,0)]
 |377,0=>some [(14,0)]
 |378,0=>some [(0,0),(9,0),(10,0),(11,0)]
 |379,0=>some [(0,0),(1,0)]
 |380,0=>some [(0,0),(1,0)]
 |381,0=>some [(0,0),(2,0),(4,0)]
 |382,0=>some [(0,0),(1,0)]
 |383,0=>some [(0,0),(1,0)]
 |384,0=>some [(0,0),(1,0)]
 |385,0=>some [(0,0),(1,0)]
 |386,0=>some [(0,0),(2,0),(3,0),(4,0),(10,0)]
 |391,0=>some [(0,0),(1,0),(7,0),(8,0)]
 |392,0=>some [(1,0),(6,0),(36,0),(37,0),(38,0)]
 |392,2=>some [(1,0),(6,0),(7,0),(8,0),(9,0),(36,0),(37,0),(38,0)]
 |394,0=>some [(0,0),(5,1),(6,1),(9,0),(10,0),(11,0)]
 |396,0=>some [(0,0),(3,0)]
 |396,2=>some [(0,0),(3,0),(4,0),(5,0)]
 |400,0=>some [(2,0),(4,1)]
 |401,0=>some [(0,0),(1,0),(2,0),(3,0),(8,0),(9,0)]
 |404,0=>some [(0,0),(1,0),(7,0),(8,0)]
 |408,0=>some [(0,0),(4,0),(5,0)]
 |408,2=>some [(4,0),(6,0),(7,0),(8,0)]
 |409,3=>some [(1,0),(8,0),(9,0),(10,0),(11,0),(12,0),(13,0),(99,0),(100,0),(101,0)]
 |421,0=>some [(0,0),(1,0),(2,0),(9,0),(12,0),(56,0),(57,0),(58,0)]
 |421,2=>some [(1000015,0),(17,0),(79,0),(80,0),(81,0)]
 |422,0=>some [(0,0),(1,0),(2,0),(3,0),(10,0)]
 |425,0=>some [(0,0),(4,0),(5,0),(6,0)]
 |427,0=>some [(3,0),(6,0),(7,0),(8,0)]
 |428,0=>some [(3,1),(6,0),(7,0),(8,0)]
 |429,0=>some [(3,1),(4,0),(7,0),(8,0),(9,0)]
 |430,0=>some [(0,0),(3,1),(4,0)]
 |430,2=>some [(0,0),(3,1),(4,0),(5,0)]
 |431,0=>some [(0,0),(3,0),(4,0),(18,0),(19,0),(20,0)]
 |431,2=>some [(3,0),(4,0),(7,0),(47,0),(48,0),(49,0)]
 |432,0=>some [(3,0),(4,0),(16,0),(17,0),(18,0)]
 |433,0=>some [(0,0),(1,0),(2,0),(6,0)]
 |433,2=>some [(0,0),(1,0),(2,0),(6,0),(7,0)]
 |434,0=>some [(0,0),(6,0),(7,0),(8,0),(9,0)]
 |434,2=>some [(0,0),(6,0),(7,0),(10,0)]
 |435,0=>some [(0,0),(1,0),(6,0),(7,0),(8,0),(9,0)]
 |437,0=>some [(0,0),(6,0),(7,0)]
 |438,0=>some [(0,0),(1,0),(2,0),(7,0),(8,0)]
 |438,2=>some [(0,0),(1,0),(2,0),(7,0),(8,0)]
 |438,4=>some [(0,0),(1,0),(2,0),(7,0),(8,0),(9,0)]
 |438,6=>some [(0,0),(1,0),(2,0),(7,0),(8,0),(10,0)]
 |439,0=>some [(0,0),(1,0),(9,0),(10,0)]
 |439,2=>some [(0,0),(1,0),(9,0),(10,0)]
 |439,4=>some [(0,0),(1,0),(9,0),(10,0)]
 |440,0=>some [(0,0),(1,0),(10,0),(11,0)]
 |440,2=>some [(0,0),(1,0),(10,0),(11,0)]
 |440,4=>some [(0,0),(1,0),(10,0),(11,0)]
 |440,6=>some [(0,0),(1,0),(10,0),(11,0)]
 |440,8=>some [(0,0),(1,0),(10,0),(11,0)]
 |441,0=>some [(0,0),(5,0)]
 |443,0=>some [(0,0),(3,0),(4,0),(5,0)]
 |448,0=>some [(7,0),(8,0)]
 |449,0=>some [(0,0),(2,0),(9,0),(56,0),(57,0)]
 |449,2=>some [(0,0),(2,0),(9,0),(10,0),(11,0),(56,0),(57,0)]
 |450,1=>some [(8,1),(10,0),(30,0),(31,0),(32,0)]
 |450,3=>some [(8,1),(14,0),(52,0),(53,0),(54,0)]
 |450,5=>some [(8,1),(18,0),(73,0),(74,0),(75,0)]
 |454,0=>some [(0,0),(1,0),(6,0),(7,0),(8,0)]
 |456,0=>some [(0,0),(3,0),(4,0)]
 |457,0=>some [(0,0),(2,0),(3,0),(8,0)]
 |461,2=>some [(0,0),(1,0),(6,0),(7,1),(8,0)]
 |462,0=>some [(12,0),(15,1),(85,0),(86,0),(87,0)]
 |467,0=>some [(0,0),(3,0)]
 |467,2=>some [(0,0),(3,0),(4,0),(5,0)]
 |474,0=>some [(0,0),(1,0),(5,1)]
 |475,0=>some [(0,0),(1,0),(5,0),(6,1)]
 |475,2=>some [(0,0),(5,0),(6,1),(9,1),(104,0),(105,0),(106,0)]
 |476,0=>some [(5,0),(7,1),(36,0),(37,0),(38,0)]
 |478,0=>some [(0,0),(11,1),(45,0),(46,0),(47,0)]
 |479,0=>some [(0,0),(1,0),(2,0),(3,0),(8,0),(9,0)]
 |481,0=>some [(7,0),(8,0)]
 |483,0=>some [(0,0),(1,0),(2,0),(6,0)]
 |483,2=>some [(0,0),(1,0),(2,0),(6,0),(7,0)]
 |484,0=>some [(0,0),(6,0),(7,0),(8,0),(9,0)]
 |484,2=>some [(0,0),(6,0),(7,0),(10,0)]
 |485,0=>some [(0,0),(1,0),(6,0),(7,0),(8,0),(9,0)]
 |487,0=>some [(0,0),(6,0),(7,0)]
 |488,0=>some [(0,0),(1,0),(2,0),(7,0),(8,0)]
 |488,2=>some [(0,0),(1,0),(2,0),(7,0),(8,0)]
 |488,4=>some [(0,0),(1,0),(2,0),(7,0),(8,0),(9,0)]
 |488,6=>some [(0,0),(1,0),(2,0),(7,0),(8,0),(10,0)]
 |489,0=>some [(0,0),(1,0),(9,0),(10,0)]
 |489,2=>some [(0,0),(1,0),(9,0),(10,0)]
 |489,4=>some [(0,0),(1,0),(9,0),(10,0)]
 |490,0=>some [(0,0),(1,0),(10,0),(11,0)]
 |490,2=>some [(0,0),(1,0),(10,0),(11,0)]
 |490,4=>some [(0,0),(1,0),(10,0),(11,0)]
 |490,6=>some [(0,0),(1,0),(10,0),(11,0)]
 |490,8=>some [(0,0),(1,0),(10,0),(11,0)]
 |491,0=>some [(0,0),(2,0),(3,0),(8,0)]
 |_,_=>none
def halfD:List D:=[.int .u32 0,.int .u32 498536548,.int .u32 997073096,.int .u32 651767980,.int .u32 1994146192,.int .u32 1802195444,.int .u32 1303535960,.int .u32 1342533948,.int .u32 3988292384,.int .u32 4027552580,.int .u32 3604390888,.int .u32 3412177804,.int .u32 2607071920,.int .u32 2262029012,.int .u32 2685067896,.int .u32 3183342108]
def powD:List D:=[.int .u64 1,.int .u64 10,.int .u64 100,.int .u64 1000,.int .u64 10000,.int .u64 100000,.int .u64 1000000,.int .u64 10000000,.int .u64 100000000,.int .u64 1000000000,.int .u64 10000000000,.int .u64 100000000000,.int .u64 1000000000000,.int .u64 10000000000000,.int .u64 100000000000000,.int .u64 1000000000000000,.int .u64 10000000000000000,.int .u64 100000000000000000,.int .u64 1000000000000000000,.int .u64 10000000000000000000]
def G:Nat→Option (List D):=fun g=>if g<1000 then (match g with | 0=>some [.num] | 1=>some powD | 4=>some [.err] | 5=>some [.err] | 6=>some halfD | 901=>some [] | _=>none) else if ([1000126,1000137,1000152,1000213,1000220,1000229,1000243,1000248,1000250,1000251,1000258,1000264]++[1000306,1000307,1000319,1000320,1000321,1000322,1000323,1000324,1000325,1000326,1000335,1000345]++[1000348,1000376,1000386,1000389,1000390,1000394,1000396,1000401,1000422,1000426,1000433,1000434]++[1000435,1000436,1000437,1000438,1000439,1000440,1000448,1000457,1000458,1000459,1000466,1000467]++[1000470,1000479,1000481,1000483,1000484,1000485,1000486,1000487,1000488,1000489,1000490,1000491]++[1000492,1000493,1000494,2000040,2000051,2000056,2000097,2000163,2000205,2000236,2000254,2000465]++[2000345,2000466,2000058,2000079,2000107,2000180,2000264,2000282,2000283,4900345,4800466,3000044]++[3000085,3000239,3000297,3000375,3000393,3000212,3000214,3000215,3000207,4000212,4000214,4000215]++[5000329,4500207,4700044,4700085,4700239,4700375,4720011,4720040,4720191,4300058,4300107,4300180]++[4300282,4300283,4320107,4310180,4330180,4310282,4320282,4310283,4100242,4100346,4100441,4130346]++[4130441,4110079,4120264]).contains g then some [] else none
@[simp] theorem G_0:G 0=some [.num]:=rfl
@[simp] theorem G_1:G 1=some powD:=rfl
@[simp] theorem G_4:G 4=some [.err]:=rfl
@[simp] theorem G_5:G 5=some [.err]:=rfl
@[simp] theorem G_6:G 6=some halfD:=rfl
@[simp] theorem G_901:G 901=some []:=rfl
@[simp] theorem br_2:byRef G 2=false:=by decide +kernel
@[simp] theorem ln_2:lone G 2=false:=by decide +kernel
@[simp] theorem th_2:thaws G 2=false:=by decide +kernel
@[simp] theorem br_3:byRef G 3=false:=by decide +kernel
@[simp] theorem ln_3:lone G 3=false:=by decide +kernel
@[simp] theorem th_3:thaws G 3=false:=by decide +kernel
@[simp] theorem br_4:byRef G 4=false:=by decide +kernel
@[simp] theorem ln_4:lone G 4=false:=by decide +kernel
@[simp] theorem th_4:thaws G 4=false:=by decide +kernel
@[simp] theorem br_5:byRef G 5=false:=by decide +kernel
theorem sp_5:splits G 5=false:=by decide +kernel
@[simp] theorem ln_5:lone G 5=false:=by decide +kernel
@[simp] theorem th_5:thaws G 5=false:=by decide +kernel
@[simp] theorem br_6:byRef G 6=false:=by decide +kernel
@[simp] theorem ln_6:lone G 6=false:=by decide +kernel
@[simp] theorem th_6:thaws G 6=false:=by decide +kernel
@[simp] theorem br_7:byRef G 7=false:=by decide +kernel
@[simp] theorem ln_7:lone G 7=false:=by decide +kernel
@[simp] theorem th_7:thaws G 7=false:=by decide +kernel
@[simp] theorem br_8:byRef G 8=false:=by decide +kernel
@[simp] theorem ln_8:lone G 8=false:=by decide +kernel
@[simp] theorem th_8:thaws G 8=false:=by decide +kernel
@[simp] theorem br_9:byRef G 9=false:=by decide +kernel
@[simp] theorem ln_9:lone G 9=false:=by decide +kernel
@[simp] theorem th_9:thaws G 9=false:=by decide +kernel
@[simp] theorem br_10:byRef G 10=false:=by decide +kernel
@[simp] theorem ln_10:lone G 10=false:=by decide +kernel
@[simp] theorem th_10:thaws G 10=false:=by decide +kernel
@[simp] theorem br_11:byRef G 11=false:=by decide +kernel
@[simp] theorem ln_11:lone G 11=true:=by decide +kernel
@[simp] theorem th_11:thaws G 11=false:=by decide +kernel
@[simp] theorem br_12:byRef G 12=false:=by decide +kernel
@[simp] theorem ln_12:lone G 12=false:=by decide +kernel
@[simp] theorem th_12:thaws G 12=false:=by decide +kernel
@[simp] theorem br_13:byRef G 13=false:=by decide +kernel
@[simp] theorem ln_13:lone G 13=false:=by decide +kernel
@[simp] theorem th_13:thaws G 13=false:=by decide +kernel
@[simp] theorem br_14:byRef G 14=false:=by decide +kernel
@[simp] theorem ln_14:lone G 14=false:=by decide +kernel
@[simp] theorem th_14:thaws G 14=false:=by decide +kernel
@[simp] theorem br_15:byRef G 15=false:=by decide +kernel
@[simp] theorem ln_15:lone G 15=false:=by decide +kernel
@[simp] theorem th_15:thaws G 15=false:=by decide +kernel
@[simp] theorem br_16:byRef G 16=false:=by decide +kernel
@[simp] theorem ln_16:lone G 16=false:=by decide +kernel
@[simp] theorem th_16:thaws G 16=false:=by decide +kernel
@[simp] theorem br_17:byRef G 17=false:=by decide +kernel
@[simp] theorem ln_17:lone G 17=false:=by decide +kernel
@[simp] theorem th_17:thaws G 17=false:=by decide +kernel
@[simp] theorem br_18:byRef G 18=false:=by decide +kernel
@[simp] theorem ln_18:lone G 18=false:=by decide +kernel
@[simp] theorem th_18:thaws G 18=false:=by decide +kernel
@[simp] theorem br_19:byRef G 19=false:=by decide +kernel
@[simp] theorem ln_19:lone G 19=false:=by decide +kernel
@[simp] theorem th_19:thaws G 19=false:=by decide +kernel
@[simp] theorem br_20:byRef G 20=false:=by decide +kernel
@[simp] theorem ln_20:lone G 20=false:=by decide +kernel
@[simp] theorem th_20:thaws G 20=false:=by decide +kernel
@[simp] theorem br_21:byRef G 21=false:=by decide +kernel
theorem sp_21:splits G 21=false:=by decide +kernel
@[simp] theorem ln_21:lone G 21=false:=by decide +kernel
@[simp] theorem th_21:thaws G 21=false:=by decide +kernel
@[simp] theorem br_22:byRef G 22=false:=by decide +kernel
@[simp] theorem ln_22:lone G 22=false:=by decide +kernel
@[simp] theorem th_22:thaws G 22=false:=by decide +kernel
@[simp] theorem br_23:byRef G 23=false:=by decide +kernel
@[simp] theorem ln_23:lone G 23=false:=by decide +kernel
@[simp] theorem th_23:thaws G 23=false:=by decide +kernel
@[simp] theorem br_24:byRef G 24=false:=by decide +kernel
@[simp] theorem ln_24:lone G 24=false:=by decide +kernel
@[simp] theorem th_24:thaws G 24=false:=by decide +kernel
@[simp] theorem br_25:byRef G 25=false:=by decide +kernel
@[simp] theorem ln_25:lone G 25=false:=by decide +kernel
@[simp] theorem th_25:thaws G 25=false:=by decide +kernel
@[simp] theorem br_26:byRef G 26=false:=by decide +kernel
@[simp] theorem ln_26:lone G 26=false:=by decide +kernel
@[simp] theorem th_26:thaws G 26=false:=by decide +kernel
@[simp] theorem br_27:byRef G 27=false:=by decide +kernel
@[simp] theorem ln_27:lone G 27=false:=by decide +kernel
@[simp] theorem th_27:thaws G 27=false:=by decide +kernel
@[simp] theorem br_28:byRef G 28=false:=by decide +kernel
theorem sp_28:splits G 28=false:=by decide +kernel
@[simp] theorem ln_28:lone G 28=false:=by decide +kernel
@[simp] theorem th_28:thaws G 28=false:=by decide +kernel
@[simp] theorem br_29:byRef G 29=false:=by decide +kernel
theorem sp_29:splits G 29=false:=by decide +kernel
@[simp] theorem ln_29:lone G 29=false:=by decide +kernel
@[simp] theorem th_29:thaws G 29=false:=by decide +kernel
@[simp] theorem br_30:byRef G 30=false:=by decide +kernel
@[simp] theorem ln_30:lone G 30=false:=by decide +kernel
@[simp] theorem th_30:thaws G 30=false:=by decide +kernel
@[simp] theorem br_31:byRef G 31=false:=by decide +kernel
@[simp] theorem ln_31:lone G 31=false:=by decide +kernel
@[simp] theorem th_31:thaws G 31=false:=by decide +kernel
@[simp] theorem br_32:byRef G 32=false:=by decide +kernel
@[simp] theorem ln_32:lone G 32=false:=by decide +kernel
@[simp] theorem th_32:thaws G 32=false:=by decide +kernel
@[simp] theorem br_33:byRef G 33=false:=by decide +kernel
@[simp] theorem ln_33:lone G 33=false:=by decide +kernel
@[simp] theorem th_33:thaws G 33=false:=by decide +kernel
@[simp] theorem br_34:byRef G 34=false:=by decide +kernel
@[simp] theorem ln_34:lone G 34=false:=by decide +kernel
@[simp] theorem th_34:thaws G 34=false:=by decide +kernel
@[simp] theorem br_35:byRef G 35=false:=by decide +kernel
@[simp] theorem ln_35:lone G 35=false:=by decide +kernel
@[simp] theorem th_35:thaws G 35=false:=by decide +kernel
@[simp] theorem br_36:byRef G 36=false:=by decide +kernel
@[simp] theorem ln_36:lone G 36=false:=by decide +kernel
@[simp] theorem th_36:thaws G 36=false:=by decide +kernel
@[simp] theorem br_37:byRef G 37=false:=by decide +kernel
@[simp] theorem ln_37:lone G 37=false:=by decide +kernel
@[simp] theorem th_37:thaws G 37=false:=by decide +kernel
@[simp] theorem br_38:byRef G 38=false:=by decide +kernel
theorem sp_38:splits G 38=false:=by decide +kernel
@[simp] theorem ln_38:lone G 38=false:=by decide +kernel
@[simp] theorem th_38:thaws G 38=false:=by decide +kernel
@[simp] theorem br_39:byRef G 39=false:=by decide +kernel
@[simp] theorem ln_39:lone G 39=false:=by decide +kernel
@[simp] theorem th_39:thaws G 39=false:=by decide +kernel
@[simp] theorem br_40:byRef G 40=false:=by decide +kernel
theorem sp_40:splits G 40=true∧sorts G 40=0:=by decide +kernel
@[simp] theorem ln_40:lone G 40=true:=by decide +kernel
@[simp] theorem th_40:thaws G 40=false:=by decide +kernel
@[simp] theorem br_41:byRef G 41=false:=by decide +kernel
@[simp] theorem ln_41:lone G 41=false:=by decide +kernel
@[simp] theorem th_41:thaws G 41=false:=by decide +kernel
@[simp] theorem ln_42:lone G 42=false:=by decide +kernel
@[simp] theorem ln_43:lone G 43=false:=by decide +kernel
@[simp] theorem ln_44:lone G 44=false:=by decide +kernel
@[simp] theorem ln_45:lone G 45=false:=by decide +kernel
@[simp] theorem ln_46:lone G 46=false:=by decide +kernel
@[simp] theorem ln_47:lone G 47=false:=by decide +kernel
@[simp] theorem ln_48:lone G 48=false:=by decide +kernel
@[simp] theorem ln_49:lone G 49=false:=by decide +kernel
@[simp] theorem br_50:byRef G 50=false:=by decide +kernel
theorem sp_50:splits G 50=false:=by decide +kernel
@[simp] theorem ln_50:lone G 50=false:=by decide +kernel
@[simp] theorem th_50:thaws G 50=false:=by decide +kernel
@[simp] theorem br_51:byRef G 51=false:=by decide +kernel
theorem sp_51:splits G 51=true∧sorts G 51=0:=by decide +kernel
@[simp] theorem ln_51:lone G 51=false:=by decide +kernel
@[simp] theorem th_51:thaws G 51=false:=by decide +kernel
@[simp] theorem br_52:byRef G 52=false:=by decide +kernel
theorem sp_52:splits G 52=false:=by decide +kernel
@[simp] theorem ln_52:lone G 52=false:=by decide +kernel
@[simp] theorem th_52:thaws G 52=false:=by decide +kernel
@[simp] theorem ln_53:lone G 53=false:=by decide +kernel
@[simp] theorem ln_54:lone G 54=false:=by decide +kernel
@[simp] theorem ln_55:lone G 55=false:=by decide +kernel
@[simp] theorem ln_56:lone G 56=false:=by decide +kernel
@[simp] theorem ln_57:lone G 57=false:=by decide +kernel
@[simp] theorem br_58:byRef G 58=false:=by decide +kernel
theorem so_58:sorts G 58=3:=by decide +kernel
@[simp] theorem ln_58:lone G 58=false:=by decide +kernel
@[simp] theorem th_58:thaws G 58=false:=by decide +kernel
@[simp] theorem br_59:byRef G 59=false:=by decide +kernel
theorem sp_59:splits G 59=false:=by decide +kernel
@[simp] theorem ln_59:lone G 59=false:=by decide +kernel
@[simp] theorem th_59:thaws G 59=false:=by decide +kernel
@[simp] theorem br_60:byRef G 60=false:=by decide +kernel
theorem sp_60:splits G 60=false:=by decide +kernel
@[simp] theorem ln_60:lone G 60=false:=by decide +kernel
@[simp] theorem th_60:thaws G 60=false:=by decide +kernel
@[simp] theorem br_61:byRef G 61=false:=by decide +kernel
theorem sp_61:splits G 61=false:=by decide +kernel
@[simp] theorem ln_61:lone G 61=false:=by decide +kernel
@[simp] theorem th_61:thaws G 61=false:=by decide +kernel
@[simp] theorem ln_62:lone G 62=false:=by decide +kernel
@[simp] theorem br_63:byRef G 63=false:=by decide +kernel
theorem sp_63:splits G 63=false:=by decide +kernel
@[simp] theorem ln_63:lone G 63=false:=by decide +kernel
@[simp] theorem th_63:thaws G 63=false:=by decide +kernel
@[simp] theorem br_64:byRef G 64=false:=by decide +kernel
theorem sp_64:splits G 64=false:=by decide +kernel
@[simp] theorem ln_64:lone G 64=false:=by decide +kernel
@[simp] theorem th_64:thaws G 64=false:=by decide +kernel
@[simp] theorem br_65:byRef G 65=false:=by decide +kernel
theorem sp_65:splits G 65=false:=by decide +kernel
@[simp] theorem ln_65:lone G 65=false:=by decide +kernel
@[simp] theorem th_65:thaws G 65=false:=by decide +kernel
@[simp] theorem br_66:byRef G 66=false:=by decide +kernel
theorem sp_66:splits G 66=false:=by decide +kernel
@[simp] theorem ln_66:lone G 66=false:=by decide +kernel
@[simp] theorem th_66:thaws G 66=false:=by decide +kernel
@[simp] theorem ln_67:lone G 67=false:=by decide +kernel
@[simp] theorem ln_68:lone G 68=false:=by decide +kernel
@[simp] theorem br_69:byRef G 69=false:=by decide +kernel
theorem sp_69:splits G 69=false:=by decide +kernel
@[simp] theorem ln_69:lone G 69=false:=by decide +kernel
@[simp] theorem th_69:thaws G 69=false:=by decide +kernel
@[simp] theorem br_70:byRef G 70=false:=by decide +kernel
theorem sp_70:splits G 70=false:=by decide +kernel
@[simp] theorem ln_70:lone G 70=false:=by decide +kernel
@[simp] theorem th_70:thaws G 70=false:=by decide +kernel
@[simp] theorem ln_71:lone G 71=false:=by decide +kernel
@[simp] theorem ln_72:lone G 72=false:=by decide +kernel
@[simp] theorem br_73:byRef G 73=false:=by decide +kernel
theorem sp_73:splits G 73=false:=by decide +kernel
@[simp] theorem ln_73:lone G 73=false:=by decide +kernel
@[simp] theorem th_73:thaws G 73=false:=by decide +kernel
@[simp] theorem ln_74:lone G 74=false:=by decide +kernel
@[simp] theorem ln_75:lone G 75=false:=by decide +kernel
@[simp] theorem ln_76:lone G 76=false:=by decide +kernel
@[simp] theorem ln_77:lone G 77=false:=by decide +kernel
@[simp] theorem ln_78:lone G 78=false:=by decide +kernel
theorem so_79:sorts G 79=101:=by decide +kernel
@[simp] theorem ln_79:lone G 79=false:=by decide +kernel
@[simp] theorem ln_80:lone G 80=false:=by decide +kernel
@[simp] theorem br_81:byRef G 81=false:=by decide +kernel
theorem sp_81:splits G 81=false:=by decide +kernel
@[simp] theorem ln_81:lone G 81=false:=by decide +kernel
@[simp] theorem th_81:thaws G 81=false:=by decide +kernel
@[simp] theorem br_82:byRef G 82=false:=by decide +kernel
theorem sp_82:splits G 82=false:=by decide +kernel
@[simp] theorem ln_82:lone G 82=false:=by decide +kernel
@[simp] theorem th_82:thaws G 82=false:=by decide +kernel
@[simp] theorem br_83:byRef G 83=false:=by decide +kernel
theorem sp_83:splits G 83=false:=by decide +kernel
@[simp] theorem ln_83:lone G 83=false:=by decide +kernel
@[simp] theorem th_83:thaws G 83=false:=by decide +kernel
@[simp] theorem br_84:byRef G 84=false:=by decide +kernel
theorem sp_84:splits G 84=false:=by decide +kernel
@[simp] theorem ln_84:lone G 84=false:=by decide +kernel
@[simp] theorem th_84:thaws G 84=false:=by decide +kernel
@[simp] theorem br_85:byRef G 85=false:=by decide +kernel
theorem sp_85:splits G 85=false:=by decide +kernel
@[simp] theorem ln_85:lone G 85=false:=by decide +kernel
@[simp] theorem th_85:thaws G 85=true:=by decide +kernel
@[simp] theorem ln_86:lone G 86=false:=by decide +kernel
@[simp] theorem ln_87:lone G 87=false:=by decide +kernel
@[simp] theorem ln_88:lone G 88=false:=by decide +kernel
@[simp] theorem ln_89:lone G 89=false:=by decide +kernel
@[simp] theorem ln_90:lone G 90=false:=by decide +kernel
@[simp] theorem ln_91:lone G 91=false:=by decide +kernel
@[simp] theorem ln_92:lone G 92=false:=by decide +kernel
@[simp] theorem ln_93:lone G 93=false:=by decide +kernel
@[simp] theorem ln_94:lone G 94=false:=by decide +kernel
@[simp] theorem ln_95:lone G 95=false:=by decide +kernel
@[simp] theorem br_96:byRef G 96=false:=by decide +kernel
theorem sp_96:splits G 96=false:=by decide +kernel
@[simp] theorem ln_96:lone G 96=false:=by decide +kernel
@[simp] theorem th_96:thaws G 96=false:=by decide +kernel
@[simp] theorem ln_97:lone G 97=false:=by decide +kernel
@[simp] theorem br_98:byRef G 98=false:=by decide +kernel
theorem sp_98:splits G 98=false:=by decide +kernel
@[simp] theorem ln_98:lone G 98=false:=by decide +kernel
@[simp] theorem th_98:thaws G 98=false:=by decide +kernel
@[simp] theorem ln_99:lone G 99=false:=by decide +kernel
@[simp] theorem br_100:byRef G 100=false:=by decide +kernel
@[simp] theorem ln_100:lone G 100=false:=by decide +kernel
@[simp] theorem th_100:thaws G 100=false:=by decide +kernel
@[simp] theorem br_101:byRef G 101=false:=by decide +kernel
theorem sp_101:splits G 101=false:=by decide +kernel
@[simp] theorem ln_101:lone G 101=false:=by decide +kernel
@[simp] theorem th_101:thaws G 101=false:=by decide +kernel
@[simp] theorem br_102:byRef G 102=false:=by decide +kernel
theorem sp_102:splits G 102=false:=by decide +kernel
@[simp] theorem ln_102:lone G 102=false:=by decide +kernel
@[simp] theorem th_102:thaws G 102=false:=by decide +kernel
@[simp] theorem br_103:byRef G 103=false:=by decide +kernel
theorem sp_103:splits G 103=false:=by decide +kernel
@[simp] theorem ln_103:lone G 103=false:=by decide +kernel
@[simp] theorem th_103:thaws G 103=false:=by decide +kernel
@[simp] theorem br_104:byRef G 104=false:=by decide +kernel
theorem sp_104:splits G 104=false:=by decide +kernel
@[simp] theorem ln_104:lone G 104=false:=by decide +kernel
@[simp] theorem th_104:thaws G 104=false:=by decide +kernel
@[simp] theorem br_105:byRef G 105=false:=by decide +kernel
theorem sp_105:splits G 105=false:=by decide +kernel
@[simp] theorem ln_105:lone G 105=false:=by decide +kernel
@[simp] theorem th_105:thaws G 105=false:=by decide +kernel
@[simp] theorem br_106:byRef G 106=false:=by decide +kernel
theorem sp_106:splits G 106=false:=by decide +kernel
@[simp] theorem ln_106:lone G 106=false:=by decide +kernel
@[simp] theorem th_106:thaws G 106=false:=by decide +kernel
@[simp] theorem br_107:byRef G 107=false:=by decide +kernel
theorem so_107:sorts G 107=5:=by decide +kernel
@[simp] theorem ln_107:lone G 107=false:=by decide +kernel
@[simp] theorem th_107:thaws G 107=false:=by decide +kernel
@[simp] theorem ln_108:lone G 108=false:=by decide +kernel
@[simp] theorem ln_109:lone G 109=false:=by decide +kernel
@[simp] theorem ln_110:lone G 110=false:=by decide +kernel
@[simp] theorem ln_111:lone G 111=false:=by decide +kernel
@[simp] theorem ln_112:lone G 112=false:=by decide +kernel
@[simp] theorem ln_113:lone G 113=false:=by decide +kernel
@[simp] theorem ln_114:lone G 114=false:=by decide +kernel
@[simp] theorem ln_115:lone G 115=false:=by decide +kernel
@[simp] theorem br_116:byRef G 116=false:=by decide +kernel
theorem sp_116:splits G 116=false:=by decide +kernel
@[simp] theorem ln_116:lone G 116=false:=by decide +kernel
@[simp] theorem th_116:thaws G 116=false:=by decide +kernel
@[simp] theorem br_117:byRef G 117=false:=by decide +kernel
theorem sp_117:splits G 117=false:=by decide +kernel
@[simp] theorem ln_117:lone G 117=false:=by decide +kernel
@[simp] theorem th_117:thaws G 117=false:=by decide +kernel
@[simp] theorem br_118:byRef G 118=false:=by decide +kernel
theorem sp_118:splits G 118=false:=by decide +kernel
@[simp] theorem ln_118:lone G 118=false:=by decide +kernel
@[simp] theorem th_118:thaws G 118=false:=by decide +kernel
@[simp] theorem ln_119:lone G 119=false:=by decide +kernel
@[simp] theorem ln_120:lone G 120=false:=by decide +kernel
@[simp] theorem ln_121:lone G 121=false:=by decide +kernel
@[simp] theorem ln_122:lone G 122=false:=by decide +kernel
@[simp] theorem ln_123:lone G 123=false:=by decide +kernel
@[simp] theorem ln_124:lone G 124=false:=by decide +kernel
@[simp] theorem ln_125:lone G 125=false:=by decide +kernel
@[simp] theorem ln_126:lone G 126=false:=by decide +kernel
@[simp] theorem ln_127:lone G 127=false:=by decide +kernel
@[simp] theorem ln_128:lone G 128=false:=by decide +kernel
@[simp] theorem br_129:byRef G 129=false:=by decide +kernel
@[simp] theorem ln_129:lone G 129=false:=by decide +kernel
@[simp] theorem th_129:thaws G 129=false:=by decide +kernel
@[simp] theorem ln_130:lone G 130=false:=by decide +kernel
@[simp] theorem ln_131:lone G 131=false:=by decide +kernel
@[simp] theorem ln_132:lone G 132=false:=by decide +kernel
@[simp] theorem ln_133:lone G 133=false:=by decide +kernel
@[simp] theorem ln_134:lone G 134=false:=by decide +kernel
@[simp] theorem ln_135:lone G 135=false:=by decide +kernel
@[simp] theorem ln_136:lone G 136=false:=by decide +kernel
@[simp] theorem ln_137:lone G 137=false:=by decide +kernel
@[simp] theorem br_138:byRef G 138=false:=by decide +kernel
@[simp] theorem ln_138:lone G 138=false:=by decide +kernel
@[simp] theorem th_138:thaws G 138=false:=by decide +kernel
@[simp] theorem ln_139:lone G 139=false:=by decide +kernel
@[simp] theorem ln_140:lone G 140=false:=by decide +kernel
@[simp] theorem br_141:byRef G 141=false:=by decide +kernel
theorem sp_141:splits G 141=false:=by decide +kernel
@[simp] theorem ln_141:lone G 141=false:=by decide +kernel
@[simp] theorem th_141:thaws G 141=false:=by decide +kernel
@[simp] theorem br_142:byRef G 142=false:=by decide +kernel
theorem sp_142:splits G 142=false:=by decide +kernel
@[simp] theorem ln_142:lone G 142=false:=by decide +kernel
@[simp] theorem th_142:thaws G 142=false:=by decide +kernel
@[simp] theorem br_143:byRef G 143=false:=by decide +kernel
theorem sp_143:splits G 143=false:=by decide +kernel
@[simp] theorem ln_143:lone G 143=false:=by decide +kernel
@[simp] theorem th_143:thaws G 143=false:=by decide +kernel
@[simp] theorem br_144:byRef G 144=false:=by decide +kernel
theorem sp_144:splits G 144=false:=by decide +kernel
@[simp] theorem ln_144:lone G 144=false:=by decide +kernel
@[simp] theorem th_144:thaws G 144=false:=by decide +kernel
@[simp] theorem ln_145:lone G 145=false:=by decide +kernel
@[simp] theorem br_146:byRef G 146=false:=by decide +kernel
@[simp] theorem ln_146:lone G 146=false:=by decide +kernel
@[simp] theorem th_146:thaws G 146=false:=by decide +kernel
@[simp] theorem ln_147:lone G 147=false:=by decide +kernel
@[simp] theorem ln_148:lone G 148=false:=by decide +kernel
@[simp] theorem ln_149:lone G 149=false:=by decide +kernel
@[simp] theorem ln_150:lone G 150=false:=by decide +kernel
@[simp] theorem ln_151:lone G 151=false:=by decide +kernel
@[simp] theorem ln_152:lone G 152=false:=by decide +kernel
@[simp] theorem br_153:byRef G 153=false:=by decide +kernel
theorem sp_153:splits G 153=false:=by decide +kernel
@[simp] theorem ln_153:lone G 153=false:=by decide +kernel
@[simp] theorem th_153:thaws G 153=false:=by decide +kernel
@[simp] theorem ln_154:lone G 154=false:=by decide +kernel
@[simp] theorem ln_155:lone G 155=false:=by decide +kernel
@[simp] theorem br_156:byRef G 156=false:=by decide +kernel
@[simp] theorem ln_156:lone G 156=false:=by decide +kernel
@[simp] theorem th_156:thaws G 156=false:=by decide +kernel
@[simp] theorem ln_157:lone G 157=false:=by decide +kernel
@[simp] theorem ln_158:lone G 158=false:=by decide +kernel
@[simp] theorem ln_159:lone G 159=false:=by decide +kernel
@[simp] theorem ln_160:lone G 160=false:=by decide +kernel
@[simp] theorem ln_161:lone G 161=false:=by decide +kernel
@[simp] theorem ln_162:lone G 162=false:=by decide +kernel
@[simp] theorem ln_163:lone G 163=false:=by decide +kernel
@[simp] theorem br_164:byRef G 164=false:=by decide +kernel
theorem sp_164:splits G 164=false:=by decide +kernel
@[simp] theorem ln_164:lone G 164=false:=by decide +kernel
@[simp] theorem th_164:thaws G 164=false:=by decide +kernel
@[simp] theorem br_165:byRef G 165=false:=by decide +kernel
theorem sp_165:splits G 165=false:=by decide +kernel
@[simp] theorem ln_165:lone G 165=false:=by decide +kernel
@[simp] theorem th_165:thaws G 165=false:=by decide +kernel
@[simp] theorem br_166:byRef G 166=false:=by decide +kernel
@[simp] theorem ln_166:lone G 166=false:=by decide +kernel
@[simp] theorem th_166:thaws G 166=false:=by decide +kernel
@[simp] theorem ln_167:lone G 167=false:=by decide +kernel
@[simp] theorem ln_168:lone G 168=false:=by decide +kernel
@[simp] theorem br_169:byRef G 169=false:=by decide +kernel
@[simp] theorem ln_169:lone G 169=false:=by decide +kernel
@[simp] theorem th_169:thaws G 169=false:=by decide +kernel
@[simp] theorem ln_170:lone G 170=false:=by decide +kernel
@[simp] theorem br_171:byRef G 171=false:=by decide +kernel
@[simp] theorem ln_171:lone G 171=false:=by decide +kernel
@[simp] theorem th_171:thaws G 171=false:=by decide +kernel
@[simp] theorem br_172:byRef G 172=false:=by decide +kernel
@[simp] theorem ln_172:lone G 172=false:=by decide +kernel
@[simp] theorem th_172:thaws G 172=false:=by decide +kernel
@[simp] theorem br_173:byRef G 173=false:=by decide +kernel
theorem sp_173:splits G 173=false:=by decide +kernel
@[simp] theorem ln_173:lone G 173=false:=by decide +kernel
@[simp] theorem th_173:thaws G 173=false:=by decide +kernel
@[simp] theorem ln_174:lone G 174=false:=by decide +kernel
@[simp] theorem br_175:byRef G 175=false:=by decide +kernel
@[simp] theorem ln_175:lone G 175=false:=by decide +kernel
@[simp] theorem th_175:thaws G 175=false:=by decide +kernel
@[simp] theorem br_176:byRef G 176=false:=by decide +kernel
@[simp] theorem ln_176:lone G 176=false:=by decide +kernel
@[simp] theorem th_176:thaws G 176=false:=by decide +kernel
@[simp] theorem br_177:byRef G 177=false:=by decide +kernel
@[simp] theorem ln_177:lone G 177=false:=by decide +kernel
@[simp] theorem th_177:thaws G 177=false:=by decide +kernel
@[simp] theorem br_178:byRef G 178=false:=by decide +kernel
theorem sp_178:splits G 178=false:=by decide +kernel
@[simp] theorem ln_178:lone G 178=false:=by decide +kernel
@[simp] theorem th_178:thaws G 178=false:=by decide +kernel
@[simp] theorem br_179:byRef G 179=false:=by decide +kernel
theorem sp_179:splits G 179=false:=by decide +kernel
@[simp] theorem ln_179:lone G 179=false:=by decide +kernel
@[simp] theorem th_179:thaws G 179=false:=by decide +kernel
@[simp] theorem br_180:byRef G 180=false:=by decide +kernel
theorem so_180:sorts G 180=8:=by decide +kernel
@[simp] theorem ln_180:lone G 180=false:=by decide +kernel
@[simp] theorem th_180:thaws G 180=false:=by decide +kernel
@[simp] theorem br_181:byRef G 181=false:=by decide +kernel
@[simp] theorem ln_181:lone G 181=false:=by decide +kernel
@[simp] theorem th_181:thaws G 181=false:=by decide +kernel
@[simp] theorem ln_182:lone G 182=false:=by decide +kernel
@[simp] theorem ln_183:lone G 183=false:=by decide +kernel
@[simp] theorem ln_184:lone G 184=false:=by decide +kernel
@[simp] theorem ln_185:lone G 185=false:=by decide +kernel
@[simp] theorem ln_186:lone G 186=false:=by decide +kernel
@[simp] theorem ln_187:lone G 187=false:=by decide +kernel
@[simp] theorem ln_188:lone G 188=false:=by decide +kernel
@[simp] theorem ln_189:lone G 189=false:=by decide +kernel
@[simp] theorem ln_190:lone G 190=false:=by decide +kernel
@[simp] theorem ln_191:lone G 191=true:=by decide +kernel
@[simp] theorem ln_192:lone G 192=false:=by decide +kernel
@[simp] theorem ln_193:lone G 193=false:=by decide +kernel
@[simp] theorem ln_194:lone G 194=false:=by decide +kernel
@[simp] theorem br_195:byRef G 195=false:=by decide +kernel
@[simp] theorem ln_195:lone G 195=false:=by decide +kernel
@[simp] theorem th_195:thaws G 195=false:=by decide +kernel
@[simp] theorem ln_196:lone G 196=false:=by decide +kernel
@[simp] theorem br_197:byRef G 197=false:=by decide +kernel
theorem sp_197:splits G 197=false:=by decide +kernel
@[simp] theorem ln_197:lone G 197=false:=by decide +kernel
@[simp] theorem th_197:thaws G 197=false:=by decide +kernel
@[simp] theorem ln_198:lone G 198=false:=by decide +kernel
@[simp] theorem ln_199:lone G 199=false:=by decide +kernel
@[simp] theorem ln_200:lone G 200=false:=by decide +kernel
@[simp] theorem ln_201:lone G 201=false:=by decide +kernel
@[simp] theorem ln_202:lone G 202=false:=by decide +kernel
@[simp] theorem ln_203:lone G 203=false:=by decide +kernel
@[simp] theorem ln_204:lone G 204=false:=by decide +kernel
@[simp] theorem br_205:byRef G 205=false:=by decide +kernel
@[simp] theorem ln_205:lone G 205=false:=by decide +kernel
@[simp] theorem th_205:thaws G 205=false:=by decide +kernel
@[simp] theorem ln_206:lone G 206=false:=by decide +kernel
@[simp] theorem ln_207:lone G 207=false:=by decide +kernel
@[simp] theorem ln_208:lone G 208=false:=by decide +kernel
@[simp] theorem ln_209:lone G 209=false:=by decide +kernel
@[simp] theorem ln_210:lone G 210=false:=by decide +kernel
@[simp] theorem ln_211:lone G 211=false:=by decide +kernel
@[simp] theorem ln_212:lone G 212=false:=by decide +kernel
@[simp] theorem ln_213:lone G 213=false:=by decide +kernel
@[simp] theorem ln_214:lone G 214=false:=by decide +kernel
@[simp] theorem ln_215:lone G 215=false:=by decide +kernel
@[simp] theorem ln_216:lone G 216=false:=by decide +kernel
@[simp] theorem br_217:byRef G 217=false:=by decide +kernel
@[simp] theorem ln_217:lone G 217=false:=by decide +kernel
@[simp] theorem th_217:thaws G 217=false:=by decide +kernel
@[simp] theorem br_218:byRef G 218=false:=by decide +kernel
@[simp] theorem ln_218:lone G 218=false:=by decide +kernel
@[simp] theorem th_218:thaws G 218=false:=by decide +kernel
@[simp] theorem br_219:byRef G 219=false:=by decide +kernel
@[simp] theorem ln_219:lone G 219=false:=by decide +kernel
@[simp] theorem th_219:thaws G 219=false:=by decide +kernel
@[simp] theorem ln_220:lone G 220=false:=by decide +kernel
@[simp] theorem br_221:byRef G 221=false:=by decide +kernel
@[simp] theorem ln_221:lone G 221=false:=by decide +kernel
@[simp] theorem th_221:thaws G 221=false:=by decide +kernel
@[simp] theorem ln_222:lone G 222=false:=by decide +kernel
@[simp] theorem ln_223:lone G 223=false:=by decide +kernel
@[simp] theorem br_224:byRef G 224=false:=by decide +kernel
@[simp] theorem ln_224:lone G 224=false:=by decide +kernel
@[simp] theorem th_224:thaws G 224=false:=by decide +kernel
@[simp] theorem br_225:byRef G 225=false:=by decide +kernel
@[simp] theorem ln_225:lone G 225=false:=by decide +kernel
@[simp] theorem th_225:thaws G 225=false:=by decide +kernel
@[simp] theorem ln_226:lone G 226=false:=by decide +kernel
@[simp] theorem ln_227:lone G 227=false:=by decide +kernel
@[simp] theorem ln_228:lone G 228=false:=by decide +kernel
@[simp] theorem ln_229:lone G 229=false:=by decide +kernel
@[simp] theorem ln_230:lone G 230=false:=by decide +kernel
@[simp] theorem ln_231:lone G 231=false:=by decide +kernel
@[simp] theorem ln_232:lone G 232=false:=by decide +kernel
@[simp] theorem ln_233:lone G 233=false:=by decide +kernel
@[simp] theorem ln_234:lone G 234=false:=by decide +kernel
@[simp] theorem ln_235:lone G 235=false:=by decide +kernel
@[simp] theorem ln_236:lone G 236=false:=by decide +kernel
@[simp] theorem ln_237:lone G 237=false:=by decide +kernel
@[simp] theorem ln_238:lone G 238=false:=by decide +kernel
@[simp] theorem ln_239:lone G 239=false:=by decide +kernel
@[simp] theorem br_240:byRef G 240=false:=by decide +kernel
@[simp] theorem ln_240:lone G 240=false:=by decide +kernel
@[simp] theorem th_240:thaws G 240=false:=by decide +kernel
@[simp] theorem br_241:byRef G 241=false:=by decide +kernel
@[simp] theorem ln_241:lone G 241=false:=by decide +kernel
@[simp] theorem th_241:thaws G 241=false:=by decide +kernel
@[simp] theorem br_242:byRef G 242=false:=by decide +kernel
@[simp] theorem ln_242:lone G 242=false:=by decide +kernel
@[simp] theorem th_242:thaws G 242=false:=by decide +kernel
@[simp] theorem br_243:byRef G 243=true:=by decide +kernel
@[simp] theorem ln_243:lone G 243=false:=by decide +kernel
@[simp] theorem th_243:thaws G 243=false:=by decide +kernel
@[simp] theorem br_244:byRef G 244=false:=by decide +kernel
@[simp] theorem ln_244:lone G 244=false:=by decide +kernel
@[simp] theorem th_244:thaws G 244=false:=by decide +kernel
@[simp] theorem br_245:byRef G 245=false:=by decide +kernel
@[simp] theorem ln_245:lone G 245=false:=by decide +kernel
@[simp] theorem th_245:thaws G 245=false:=by decide +kernel
@[simp] theorem br_246:byRef G 246=false:=by decide +kernel
@[simp] theorem ln_246:lone G 246=false:=by decide +kernel
@[simp] theorem th_246:thaws G 246=false:=by decide +kernel
@[simp] theorem br_247:byRef G 247=false:=by decide +kernel
@[simp] theorem ln_247:lone G 247=false:=by decide +kernel
@[simp] theorem th_247:thaws G 247=false:=by decide +kernel
@[simp] theorem ln_248:lone G 248=false:=by decide +kernel
@[simp] theorem ln_249:lone G 249=false:=by decide +kernel
@[simp] theorem ln_250:lone G 250=false:=by decide +kernel
@[simp] theorem ln_251:lone G 251=false:=by decide +kernel
@[simp] theorem ln_252:lone G 252=false:=by decide +kernel
@[simp] theorem ln_253:lone G 253=false:=by decide +kernel
@[simp] theorem ln_254:lone G 254=false:=by decide +kernel
@[simp] theorem ln_255:lone G 255=false:=by decide +kernel
@[simp] theorem ln_256:lone G 256=false:=by decide +kernel
@[simp] theorem ln_257:lone G 257=false:=by decide +kernel
@[simp] theorem ln_258:lone G 258=false:=by decide +kernel
@[simp] theorem ln_259:lone G 259=false:=by decide +kernel
@[simp] theorem br_260:byRef G 260=false:=by decide +kernel
@[simp] theorem ln_260:lone G 260=false:=by decide +kernel
@[simp] theorem th_260:thaws G 260=false:=by decide +kernel
@[simp] theorem ln_261:lone G 261=false:=by decide +kernel
@[simp] theorem ln_262:lone G 262=false:=by decide +kernel
@[simp] theorem ln_263:lone G 263=false:=by decide +kernel
@[simp] theorem br_264:byRef G 264=true:=by decide +kernel
theorem so_264:sorts G 264=100:=by decide +kernel
@[simp] theorem ln_264:lone G 264=false:=by decide +kernel
@[simp] theorem th_264:thaws G 264=false:=by decide +kernel
@[simp] theorem ln_265:lone G 265=false:=by decide +kernel
@[simp] theorem br_266:byRef G 266=false:=by decide +kernel
@[simp] theorem ln_266:lone G 266=false:=by decide +kernel
@[simp] theorem th_266:thaws G 266=false:=by decide +kernel
@[simp] theorem br_267:byRef G 267=false:=by decide +kernel
@[simp] theorem ln_267:lone G 267=false:=by decide +kernel
@[simp] theorem th_267:thaws G 267=false:=by decide +kernel
@[simp] theorem br_268:byRef G 268=false:=by decide +kernel
@[simp] theorem ln_268:lone G 268=false:=by decide +kernel
@[simp] theorem th_268:thaws G 268=false:=by decide +kernel
@[simp] theorem ln_269:lone G 269=false:=by decide +kernel
@[simp] theorem ln_270:lone G 270=false:=by decide +kernel
@[simp] theorem ln_271:lone G 271=false:=by decide +kernel
@[simp] theorem ln_272:lone G 272=false:=by decide +kernel
@[simp] theorem br_273:byRef G 273=false:=by decide +kernel
@[simp] theorem ln_273:lone G 273=false:=by decide +kernel
@[simp] theorem th_273:thaws G 273=false:=by decide +kernel
@[simp] theorem br_274:byRef G 274=false:=by decide +kernel
@[simp] theorem ln_274:lone G 274=false:=by decide +kernel
@[simp] theorem th_274:thaws G 274=false:=by decide +kernel
@[simp] theorem br_276:byRef G 276=false:=by decide +kernel
@[simp] theorem ln_276:lone G 276=false:=by decide +kernel
@[simp] theorem th_276:thaws G 276=false:=by decide +kernel
@[simp] theorem br_277:byRef G 277=false:=by decide +kernel
theorem sp_277:splits G 277=false:=by decide +kernel
@[simp] theorem ln_277:lone G 277=false:=by decide +kernel
@[simp] theorem th_277:thaws G 277=false:=by decide +kernel
@[simp] theorem br_278:byRef G 278=false:=by decide +kernel
theorem sp_278:splits G 278=false:=by decide +kernel
@[simp] theorem ln_278:lone G 278=false:=by decide +kernel
@[simp] theorem th_278:thaws G 278=false:=by decide +kernel
@[simp] theorem br_279:byRef G 279=false:=by decide +kernel
@[simp] theorem ln_279:lone G 279=false:=by decide +kernel
@[simp] theorem th_279:thaws G 279=false:=by decide +kernel
@[simp] theorem br_280:byRef G 280=false:=by decide +kernel
@[simp] theorem ln_280:lone G 280=false:=by decide +kernel
@[simp] theorem th_280:thaws G 280=false:=by decide +kernel
@[simp] theorem br_281:byRef G 281=false:=by decide +kernel
@[simp] theorem ln_281:lone G 281=false:=by decide +kernel
@[simp] theorem th_281:thaws G 281=false:=by decide +kernel
@[simp] theorem br_282:byRef G 282=false:=by decide +kernel
theorem so_282:sorts G 282=6:=by decide +kernel
@[simp] theorem ln_282:lone G 282=false:=by decide +kernel
@[simp] theorem th_282:thaws G 282=false:=by decide +kernel
@[simp] theorem br_283:byRef G 283=false:=by decide +kernel
theorem so_283:sorts G 283=4:=by decide +kernel
@[simp] theorem ln_283:lone G 283=false:=by decide +kernel
@[simp] theorem th_283:thaws G 283=false:=by decide +kernel
@[simp] theorem br_284:byRef G 284=false:=by decide +kernel
@[simp] theorem ln_284:lone G 284=false:=by decide +kernel
@[simp] theorem th_284:thaws G 284=false:=by decide +kernel
@[simp] theorem br_285:byRef G 285=false:=by decide +kernel
@[simp] theorem ln_285:lone G 285=false:=by decide +kernel
@[simp] theorem th_285:thaws G 285=false:=by decide +kernel
@[simp] theorem br_286:byRef G 286=false:=by decide +kernel
@[simp] theorem ln_286:lone G 286=false:=by decide +kernel
@[simp] theorem th_286:thaws G 286=false:=by decide +kernel
@[simp] theorem br_287:byRef G 287=false:=by decide +kernel
@[simp] theorem ln_287:lone G 287=false:=by decide +kernel
@[simp] theorem th_287:thaws G 287=false:=by decide +kernel
@[simp] theorem br_288:byRef G 288=false:=by decide +kernel
@[simp] theorem ln_288:lone G 288=false:=by decide +kernel
@[simp] theorem th_288:thaws G 288=false:=by decide +kernel
@[simp] theorem br_289:byRef G 289=false:=by decide +kernel
@[simp] theorem ln_289:lone G 289=false:=by decide +kernel
@[simp] theorem th_289:thaws G 289=false:=by decide +kernel
@[simp] theorem ln_290:lone G 290=false:=by decide +kernel
@[simp] theorem ln_291:lone G 291=false:=by decide +kernel
@[simp] theorem ln_292:lone G 292=false:=by decide +kernel
@[simp] theorem ln_293:lone G 293=false:=by decide +kernel
@[simp] theorem ln_294:lone G 294=false:=by decide +kernel
@[simp] theorem ln_295:lone G 295=false:=by decide +kernel
@[simp] theorem ln_296:lone G 296=false:=by decide +kernel
@[simp] theorem ln_297:lone G 297=false:=by decide +kernel
@[simp] theorem ln_298:lone G 298=false:=by decide +kernel
@[simp] theorem ln_299:lone G 299=false:=by decide +kernel
@[simp] theorem ln_300:lone G 300=false:=by decide +kernel
@[simp] theorem ln_301:lone G 301=false:=by decide +kernel
@[simp] theorem ln_302:lone G 302=false:=by decide +kernel
@[simp] theorem ln_303:lone G 303=false:=by decide +kernel
@[simp] theorem ln_304:lone G 304=false:=by decide +kernel
@[simp] theorem ln_305:lone G 305=false:=by decide +kernel
@[simp] theorem ln_306:lone G 306=false:=by decide +kernel
@[simp] theorem ln_307:lone G 307=false:=by decide +kernel
@[simp] theorem ln_308:lone G 308=false:=by decide +kernel
@[simp] theorem br_309:byRef G 309=false:=by decide +kernel
@[simp] theorem ln_309:lone G 309=false:=by decide +kernel
@[simp] theorem th_309:thaws G 309=false:=by decide +kernel
@[simp] theorem ln_310:lone G 310=false:=by decide +kernel
@[simp] theorem br_311:byRef G 311=false:=by decide +kernel
@[simp] theorem ln_311:lone G 311=false:=by decide +kernel
@[simp] theorem th_311:thaws G 311=false:=by decide +kernel
@[simp] theorem ln_312:lone G 312=false:=by decide +kernel
@[simp] theorem ln_313:lone G 313=false:=by decide +kernel
@[simp] theorem br_314:byRef G 314=false:=by decide +kernel
@[simp] theorem ln_314:lone G 314=false:=by decide +kernel
@[simp] theorem th_314:thaws G 314=false:=by decide +kernel
@[simp] theorem ln_315:lone G 315=false:=by decide +kernel
@[simp] theorem br_316:byRef G 316=false:=by decide +kernel
@[simp] theorem ln_316:lone G 316=false:=by decide +kernel
@[simp] theorem th_316:thaws G 316=false:=by decide +kernel
@[simp] theorem br_317:byRef G 317=false:=by decide +kernel
@[simp] theorem ln_317:lone G 317=false:=by decide +kernel
@[simp] theorem th_317:thaws G 317=false:=by decide +kernel
@[simp] theorem br_318:byRef G 318=false:=by decide +kernel
@[simp] theorem ln_318:lone G 318=false:=by decide +kernel
@[simp] theorem th_318:thaws G 318=false:=by decide +kernel
@[simp] theorem br_319:byRef G 319=true:=by decide +kernel
@[simp] theorem ln_319:lone G 319=false:=by decide +kernel
@[simp] theorem th_319:thaws G 319=false:=by decide +kernel
@[simp] theorem br_320:byRef G 320=true:=by decide +kernel
@[simp] theorem ln_320:lone G 320=false:=by decide +kernel
@[simp] theorem th_320:thaws G 320=false:=by decide +kernel
@[simp] theorem br_321:byRef G 321=true:=by decide +kernel
@[simp] theorem ln_321:lone G 321=false:=by decide +kernel
@[simp] theorem th_321:thaws G 321=false:=by decide +kernel
@[simp] theorem br_322:byRef G 322=true:=by decide +kernel
@[simp] theorem ln_322:lone G 322=false:=by decide +kernel
@[simp] theorem th_322:thaws G 322=false:=by decide +kernel
@[simp] theorem ln_323:lone G 323=false:=by decide +kernel
@[simp] theorem ln_324:lone G 324=false:=by decide +kernel
@[simp] theorem ln_325:lone G 325=false:=by decide +kernel
@[simp] theorem ln_326:lone G 326=false:=by decide +kernel
@[simp] theorem br_327:byRef G 327=false:=by decide +kernel
@[simp] theorem ln_327:lone G 327=false:=by decide +kernel
@[simp] theorem th_327:thaws G 327=false:=by decide +kernel
@[simp] theorem br_328:byRef G 328=false:=by decide +kernel
@[simp] theorem ln_328:lone G 328=false:=by decide +kernel
@[simp] theorem th_328:thaws G 328=false:=by decide +kernel
@[simp] theorem br_329:byRef G 329=false:=by decide +kernel
@[simp] theorem ln_329:lone G 329=false:=by decide +kernel
@[simp] theorem th_329:thaws G 329=false:=by decide +kernel
@[simp] theorem ln_330:lone G 330=false:=by decide +kernel
@[simp] theorem ln_331:lone G 331=false:=by decide +kernel
@[simp] theorem ln_332:lone G 332=false:=by decide +kernel
@[simp] theorem ln_333:lone G 333=false:=by decide +kernel
@[simp] theorem ln_334:lone G 334=false:=by decide +kernel
@[simp] theorem ln_335:lone G 335=false:=by decide +kernel
@[simp] theorem ln_336:lone G 336=false:=by decide +kernel
@[simp] theorem br_337:byRef G 337=false:=by decide +kernel
@[simp] theorem ln_337:lone G 337=false:=by decide +kernel
@[simp] theorem th_337:thaws G 337=false:=by decide +kernel
@[simp] theorem br_338:byRef G 338=false:=by decide +kernel
@[simp] theorem ln_338:lone G 338=false:=by decide +kernel
@[simp] theorem th_338:thaws G 338=false:=by decide +kernel
@[simp] theorem ln_339:lone G 339=false:=by decide +kernel
@[simp] theorem ln_340:lone G 340=false:=by decide +kernel
@[simp] theorem ln_341:lone G 341=false:=by decide +kernel
@[simp] theorem ln_342:lone G 342=false:=by decide +kernel
@[simp] theorem ln_343:lone G 343=false:=by decide +kernel
@[simp] theorem br_344:byRef G 344=false:=by decide +kernel
@[simp] theorem ln_344:lone G 344=false:=by decide +kernel
@[simp] theorem th_344:thaws G 344=false:=by decide +kernel
@[simp] theorem br_345:byRef G 345=true:=by decide +kernel
theorem so_345:sorts G 345=2:=by decide +kernel
@[simp] theorem ln_345:lone G 345=false:=by decide +kernel
@[simp] theorem th_345:thaws G 345=false:=by decide +kernel
@[simp] theorem br_346:byRef G 346=false:=by decide +kernel
@[simp] theorem ln_346:lone G 346=false:=by decide +kernel
@[simp] theorem th_346:thaws G 346=false:=by decide +kernel
@[simp] theorem ln_347:lone G 347=false:=by decide +kernel
@[simp] theorem ln_348:lone G 348=false:=by decide +kernel
@[simp] theorem ln_349:lone G 349=false:=by decide +kernel
@[simp] theorem ln_350:lone G 350=false:=by decide +kernel
@[simp] theorem ln_351:lone G 351=false:=by decide +kernel
@[simp] theorem br_352:byRef G 352=false:=by decide +kernel
@[simp] theorem ln_352:lone G 352=false:=by decide +kernel
@[simp] theorem th_352:thaws G 352=false:=by decide +kernel
@[simp] theorem br_353:byRef G 353=false:=by decide +kernel
@[simp] theorem ln_353:lone G 353=false:=by decide +kernel
@[simp] theorem th_353:thaws G 353=false:=by decide +kernel
@[simp] theorem br_355:byRef G 355=false:=by decide +kernel
@[simp] theorem ln_355:lone G 355=false:=by decide +kernel
@[simp] theorem th_355:thaws G 355=false:=by decide +kernel
@[simp] theorem br_356:byRef G 356=false:=by decide +kernel
@[simp] theorem ln_356:lone G 356=false:=by decide +kernel
@[simp] theorem th_356:thaws G 356=false:=by decide +kernel
@[simp] theorem br_357:byRef G 357=false:=by decide +kernel
@[simp] theorem ln_357:lone G 357=false:=by decide +kernel
@[simp] theorem th_357:thaws G 357=false:=by decide +kernel
@[simp] theorem br_358:byRef G 358=false:=by decide +kernel
@[simp] theorem ln_358:lone G 358=false:=by decide +kernel
@[simp] theorem th_358:thaws G 358=false:=by decide +kernel
@[simp] theorem br_359:byRef G 359=false:=by decide +kernel
@[simp] theorem ln_359:lone G 359=false:=by decide +kernel
@[simp] theorem th_359:thaws G 359=false:=by decide +kernel
@[simp] theorem br_360:byRef G 360=false:=by decide +kernel
@[simp] theorem ln_360:lone G 360=false:=by decide +kernel
@[simp] theorem th_360:thaws G 360=false:=by decide +kernel
@[simp] theorem br_361:byRef G 361=false:=by decide +kernel
@[simp] theorem ln_361:lone G 361=false:=by decide +kernel
@[simp] theorem th_361:thaws G 361=false:=by decide +kernel
@[simp] theorem br_362:byRef G 362=false:=by decide +kernel
@[simp] theorem ln_362:lone G 362=false:=by decide +kernel
@[simp] theorem th_362:thaws G 362=false:=by decide +kernel
@[simp] theorem br_363:byRef G 363=false:=by decide +kernel
@[simp] theorem ln_363:lone G 363=false:=by decide +kernel
@[simp] theorem th_363:thaws G 363=false:=by decide +kernel
@[simp] theorem br_364:byRef G 364=false:=by decide +kernel
@[simp] theorem ln_364:lone G 364=false:=by decide +kernel
@[simp] theorem th_364:thaws G 364=false:=by decide +kernel
@[simp] theorem ln_365:lone G 365=false:=by decide +kernel
@[simp] theorem br_366:byRef G 366=false:=by decide +kernel
@[simp] theorem ln_366:lone G 366=false:=by decide +kernel
@[simp] theorem th_366:thaws G 366=false:=by decide +kernel
@[simp] theorem br_367:byRef G 367=false:=by decide +kernel
@[simp] theorem ln_367:lone G 367=false:=by decide +kernel
@[simp] theorem th_367:thaws G 367=false:=by decide +kernel
@[simp] theorem br_368:byRef G 368=false:=by decide +kernel
@[simp] theorem ln_368:lone G 368=false:=by decide +kernel
@[simp] theorem th_368:thaws G 368=false:=by decide +kernel
@[simp] theorem br_369:byRef G 369=false:=by decide +kernel
@[simp] theorem ln_369:lone G 369=false:=by decide +kernel
@[simp] theorem th_369:thaws G 369=false:=by decide +kernel
@[simp] theorem ln_370:lone G 370=false:=by decide +kernel
@[simp] theorem ln_371:lone G 371=false:=by decide +kernel
@[simp] theorem ln_372:lone G 372=false:=by decide +kernel
@[simp] theorem ln_373:lone G 373=false:=by decide +kernel
@[simp] theorem ln_374:lone G 374=false:=by decide +kernel
@[simp] theorem ln_375:lone G 375=false:=by decide +kernel
@[simp] theorem ln_376:lone G 376=false:=by decide +kernel
@[simp] theorem ln_377:lone G 377=false:=by decide +kernel
@[simp] theorem ln_378:lone G 378=false:=by decide +kernel
@[simp] theorem ln_379:lone G 379=false:=by decide +kernel
@[simp] theorem ln_380:lone G 380=false:=by decide +kernel
@[simp] theorem ln_381:lone G 381=false:=by decide +kernel
@[simp] theorem ln_382:lone G 382=false:=by decide +kernel
@[simp] theorem ln_383:lone G 383=false:=by decide +kernel
@[simp] theorem ln_384:lone G 384=false:=by decide +kernel
@[simp] theorem ln_385:lone G 385=false:=by decide +kernel
@[simp] theorem ln_386:lone G 386=false:=by decide +kernel
@[simp] theorem br_387:byRef G 387=false:=by decide +kernel
@[simp] theorem ln_387:lone G 387=false:=by decide +kernel
@[simp] theorem th_387:thaws G 387=false:=by decide +kernel
@[simp] theorem br_388:byRef G 388=false:=by decide +kernel
@[simp] theorem ln_388:lone G 388=false:=by decide +kernel
@[simp] theorem th_388:thaws G 388=false:=by decide +kernel
@[simp] theorem ln_389:lone G 389=false:=by decide +kernel
@[simp] theorem ln_390:lone G 390=false:=by decide +kernel
@[simp] theorem ln_391:lone G 391=false:=by decide +kernel
@[simp] theorem ln_392:lone G 392=false:=by decide +kernel
@[simp] theorem ln_393:lone G 393=false:=by decide +kernel
@[simp] theorem ln_394:lone G 394=false:=by decide +kernel
@[simp] theorem ln_395:lone G 395=false:=by decide +kernel
@[simp] theorem ln_396:lone G 396=false:=by decide +kernel
@[simp] theorem ln_397:lone G 397=false:=by decide +kernel
@[simp] theorem ln_398:lone G 398=false:=by decide +kernel
@[simp] theorem ln_399:lone G 399=false:=by decide +kernel
@[simp] theorem br_400:byRef G 400=false:=by decide +kernel
@[simp] theorem ln_400:lone G 400=false:=by decide +kernel
@[simp] theorem th_400:thaws G 400=false:=by decide +kernel
@[simp] theorem br_401:byRef G 401=true:=by decide +kernel
@[simp] theorem ln_401:lone G 401=false:=by decide +kernel
@[simp] theorem th_401:thaws G 401=false:=by decide +kernel
@[simp] theorem ln_402:lone G 402=false:=by decide +kernel
@[simp] theorem ln_403:lone G 403=false:=by decide +kernel
@[simp] theorem ln_404:lone G 404=false:=by decide +kernel
@[simp] theorem br_405:byRef G 405=false:=by decide +kernel
@[simp] theorem ln_405:lone G 405=false:=by decide +kernel
@[simp] theorem th_405:thaws G 405=false:=by decide +kernel
@[simp] theorem ln_406:lone G 406=false:=by decide +kernel
@[simp] theorem br_408:byRef G 408=false:=by decide +kernel
@[simp] theorem ln_408:lone G 408=false:=by decide +kernel
@[simp] theorem th_408:thaws G 408=false:=by decide +kernel
@[simp] theorem br_409:byRef G 409=false:=by decide +kernel
@[simp] theorem ln_409:lone G 409=false:=by decide +kernel
@[simp] theorem th_409:thaws G 409=false:=by decide +kernel
@[simp] theorem br_410:byRef G 410=false:=by decide +kernel
@[simp] theorem ln_410:lone G 410=false:=by decide +kernel
@[simp] theorem th_410:thaws G 410=false:=by decide +kernel
@[simp] theorem br_411:byRef G 411=false:=by decide +kernel
@[simp] theorem ln_411:lone G 411=false:=by decide +kernel
@[simp] theorem th_411:thaws G 411=false:=by decide +kernel
@[simp] theorem br_412:byRef G 412=false:=by decide +kernel
@[simp] theorem ln_412:lone G 412=false:=by decide +kernel
@[simp] theorem th_412:thaws G 412=false:=by decide +kernel
@[simp] theorem br_413:byRef G 413=false:=by decide +kernel
@[simp] theorem ln_413:lone G 413=false:=by decide +kernel
@[simp] theorem th_413:thaws G 413=false:=by decide +kernel
@[simp] theorem br_414:byRef G 414=false:=by decide +kernel
@[simp] theorem ln_414:lone G 414=false:=by decide +kernel
@[simp] theorem th_414:thaws G 414=false:=by decide +kernel
@[simp] theorem br_415:byRef G 415=false:=by decide +kernel
@[simp] theorem ln_415:lone G 415=false:=by decide +kernel
@[simp] theorem th_415:thaws G 415=false:=by decide +kernel
@[simp] theorem ln_416:lone G 416=false:=by decide +kernel
@[simp] theorem ln_417:lone G 417=false:=by decide +kernel
@[simp] theorem ln_418:lone G 418=false:=by decide +kernel
@[simp] theorem ln_419:lone G 419=false:=by decide +kernel
@[simp] theorem ln_420:lone G 420=false:=by decide +kernel
@[simp] theorem ln_421:lone G 421=false:=by decide +kernel
@[simp] theorem ln_422:lone G 422=false:=by decide +kernel
@[simp] theorem ln_423:lone G 423=false:=by decide +kernel
@[simp] theorem ln_424:lone G 424=false:=by decide +kernel
@[simp] theorem ln_425:lone G 425=false:=by decide +kernel
@[simp] theorem ln_426:lone G 426=false:=by decide +kernel
@[simp] theorem ln_427:lone G 427=false:=by decide +kernel
@[simp] theorem ln_428:lone G 428=false:=by decide +kernel
@[simp] theorem ln_429:lone G 429=false:=by decide +kernel
@[simp] theorem ln_430:lone G 430=false:=by decide +kernel
@[simp] theorem ln_431:lone G 431=false:=by decide +kernel
@[simp] theorem ln_432:lone G 432=false:=by decide +kernel
@[simp] theorem br_433:byRef G 433=true:=by decide +kernel
@[simp] theorem ln_433:lone G 433=false:=by decide +kernel
@[simp] theorem th_433:thaws G 433=false:=by decide +kernel
@[simp] theorem br_434:byRef G 434=true:=by decide +kernel
@[simp] theorem ln_434:lone G 434=false:=by decide +kernel
@[simp] theorem th_434:thaws G 434=false:=by decide +kernel
@[simp] theorem br_435:byRef G 435=true:=by decide +kernel
@[simp] theorem ln_435:lone G 435=false:=by decide +kernel
@[simp] theorem th_435:thaws G 435=false:=by decide +kernel
@[simp] theorem br_436:byRef G 436=true:=by decide +kernel
@[simp] theorem ln_436:lone G 436=false:=by decide +kernel
@[simp] theorem th_436:thaws G 436=false:=by decide +kernel
@[simp] theorem br_437:byRef G 437=true:=by decide +kernel
@[simp] theorem ln_437:lone G 437=false:=by decide +kernel
@[simp] theorem th_437:thaws G 437=false:=by decide +kernel
@[simp] theorem br_438:byRef G 438=true:=by decide +kernel
@[simp] theorem ln_438:lone G 438=false:=by decide +kernel
@[simp] theorem th_438:thaws G 438=false:=by decide +kernel
@[simp] theorem br_439:byRef G 439=true:=by decide +kernel
@[simp] theorem ln_439:lone G 439=false:=by decide +kernel
@[simp] theorem th_439:thaws G 439=false:=by decide +kernel
@[simp] theorem br_440:byRef G 440=true:=by decide +kernel
@[simp] theorem ln_440:lone G 440=false:=by decide +kernel
@[simp] theorem th_440:thaws G 440=false:=by decide +kernel
@[simp] theorem br_441:byRef G 441=false:=by decide +kernel
@[simp] theorem ln_441:lone G 441=false:=by decide +kernel
@[simp] theorem th_441:thaws G 441=false:=by decide +kernel
@[simp] theorem br_442:byRef G 442=false:=by decide +kernel
@[simp] theorem ln_442:lone G 442=false:=by decide +kernel
@[simp] theorem th_442:thaws G 442=false:=by decide +kernel
@[simp] theorem br_443:byRef G 443=false:=by decide +kernel
@[simp] theorem ln_443:lone G 443=false:=by decide +kernel
@[simp] theorem th_443:thaws G 443=false:=by decide +kernel
@[simp] theorem ln_446:lone G 446=false:=by decide +kernel
@[simp] theorem ln_447:lone G 447=false:=by decide +kernel
@[simp] theorem ln_448:lone G 448=false:=by decide +kernel
@[simp] theorem ln_449:lone G 449=false:=by decide +kernel
@[simp] theorem ln_450:lone G 450=false:=by decide +kernel
@[simp] theorem ln_451:lone G 451=false:=by decide +kernel
@[simp] theorem ln_452:lone G 452=false:=by decide +kernel
@[simp] theorem ln_453:lone G 453=false:=by decide +kernel
@[simp] theorem ln_454:lone G 454=false:=by decide +kernel
@[simp] theorem ln_455:lone G 455=false:=by decide +kernel
@[simp] theorem ln_456:lone G 456=false:=by decide +kernel
@[simp] theorem br_457:byRef G 457=true:=by decide +kernel
@[simp] theorem ln_457:lone G 457=false:=by decide +kernel
@[simp] theorem th_457:thaws G 457=false:=by decide +kernel
@[simp] theorem br_458:byRef G 458=true:=by decide +kernel
@[simp] theorem ln_458:lone G 458=false:=by decide +kernel
@[simp] theorem th_458:thaws G 458=false:=by decide +kernel
@[simp] theorem br_459:byRef G 459=true:=by decide +kernel
@[simp] theorem ln_459:lone G 459=false:=by decide +kernel
@[simp] theorem th_459:thaws G 459=false:=by decide +kernel
@[simp] theorem ln_460:lone G 460=false:=by decide +kernel
@[simp] theorem ln_461:lone G 461=false:=by decide +kernel
@[simp] theorem ln_462:lone G 462=false:=by decide +kernel
@[simp] theorem ln_463:lone G 463=false:=by decide +kernel
@[simp] theorem ln_464:lone G 464=false:=by decide +kernel
@[simp] theorem ln_465:lone G 465=false:=by decide +kernel
@[simp] theorem br_466:byRef G 466=true:=by decide +kernel
theorem so_466:sorts G 466=1:=by decide +kernel
@[simp] theorem ln_466:lone G 466=false:=by decide +kernel
@[simp] theorem th_466:thaws G 466=false:=by decide +kernel
@[simp] theorem ln_467:lone G 467=false:=by decide +kernel
@[simp] theorem br_468:byRef G 468=false:=by decide +kernel
@[simp] theorem ln_468:lone G 468=false:=by decide +kernel
@[simp] theorem th_468:thaws G 468=false:=by decide +kernel
@[simp] theorem ln_469:lone G 469=false:=by decide +kernel
@[simp] theorem br_470:byRef G 470=true:=by decide +kernel
@[simp] theorem ln_470:lone G 470=false:=by decide +kernel
@[simp] theorem th_470:thaws G 470=false:=by decide +kernel
@[simp] theorem ln_471:lone G 471=false:=by decide +kernel
@[simp] theorem ln_472:lone G 472=false:=by decide +kernel
@[simp] theorem ln_473:lone G 473=false:=by decide +kernel
@[simp] theorem ln_474:lone G 474=false:=by decide +kernel
@[simp] theorem ln_475:lone G 475=false:=by decide +kernel
@[simp] theorem ln_476:lone G 476=false:=by decide +kernel
@[simp] theorem ln_477:lone G 477=false:=by decide +kernel
@[simp] theorem ln_478:lone G 478=false:=by decide +kernel
@[simp] theorem br_479:byRef G 479=true:=by decide +kernel
@[simp] theorem ln_479:lone G 479=false:=by decide +kernel
@[simp] theorem th_479:thaws G 479=false:=by decide +kernel
@[simp] theorem ln_480:lone G 480=false:=by decide +kernel
@[simp] theorem ln_481:lone G 481=false:=by decide +kernel
@[simp] theorem ln_482:lone G 482=false:=by decide +kernel
@[simp] theorem br_483:byRef G 483=true:=by decide +kernel
@[simp] theorem ln_483:lone G 483=false:=by decide +kernel
@[simp] theorem th_483:thaws G 483=false:=by decide +kernel
@[simp] theorem br_484:byRef G 484=true:=by decide +kernel
@[simp] theorem ln_484:lone G 484=false:=by decide +kernel
@[simp] theorem th_484:thaws G 484=false:=by decide +kernel
@[simp] theorem br_485:byRef G 485=true:=by decide +kernel
@[simp] theorem ln_485:lone G 485=false:=by decide +kernel
@[simp] theorem th_485:thaws G 485=false:=by decide +kernel
@[simp] theorem br_486:byRef G 486=true:=by decide +kernel
@[simp] theorem ln_486:lone G 486=false:=by decide +kernel
@[simp] theorem th_486:thaws G 486=false:=by decide +kernel
@[simp] theorem br_487:byRef G 487=true:=by decide +kernel
@[simp] theorem ln_487:lone G 487=false:=by decide +kernel
@[simp] theorem th_487:thaws G 487=false:=by decide +kernel
@[simp] theorem br_488:byRef G 488=true:=by decide +kernel
@[simp] theorem ln_488:lone G 488=false:=by decide +kernel
@[simp] theorem th_488:thaws G 488=false:=by decide +kernel
@[simp] theorem br_489:byRef G 489=true:=by decide +kernel
@[simp] theorem ln_489:lone G 489=false:=by decide +kernel
@[simp] theorem th_489:thaws G 489=false:=by decide +kernel
@[simp] theorem br_490:byRef G 490=true:=by decide +kernel
@[simp] theorem ln_490:lone G 490=false:=by decide +kernel
@[simp] theorem th_490:thaws G 490=false:=by decide +kernel
@[simp] theorem br_491:byRef G 491=true:=by decide +kernel
@[simp] theorem ln_491:lone G 491=false:=by decide +kernel
@[simp] theorem th_491:thaws G 491=false:=by decide +kernel
@[simp] theorem br_492:byRef G 492=true:=by decide +kernel
@[simp] theorem ln_492:lone G 492=false:=by decide +kernel
@[simp] theorem th_492:thaws G 492=false:=by decide +kernel
@[simp] theorem br_493:byRef G 493=true:=by decide +kernel
@[simp] theorem ln_493:lone G 493=false:=by decide +kernel
@[simp] theorem th_493:thaws G 493=false:=by decide +kernel
@[simp] theorem br_494:byRef G 494=true:=by decide +kernel
@[simp] theorem ln_494:lone G 494=false:=by decide +kernel
@[simp] theorem th_494:thaws G 494=false:=by decide +kernel
@[simp] theorem ln_528:lone G 528=false:=by decide +kernel
@[simp] theorem kp_85:keeps G 85=false:=by decide +kernel
@[simp] theorem co_44:cools G 44=false:=by decide +kernel
@[simp] theorem ci_44:chills G 44=true:=by decide +kernel
@[simp] theorem co_85:cools G 85=false:=by decide +kernel
@[simp] theorem ci_85:chills G 85=true:=by decide +kernel
@[simp] theorem co_239:cools G 239=false:=by decide +kernel
@[simp] theorem ci_239:chills G 239=true:=by decide +kernel
@[simp] theorem co_297:cools G 297=false:=by decide +kernel
@[simp] theorem ci_297:chills G 297=false:=by decide +kernel
@[simp] theorem co_375:cools G 375=false:=by decide +kernel
@[simp] theorem ci_375:chills G 375=true:=by decide +kernel
@[simp] theorem co_393:cools G 393=false:=by decide +kernel
@[simp] theorem ci_393:chills G 393=false:=by decide +kernel
@[simp] theorem co_207:cools G 207=true:=by decide +kernel
@[simp] theorem ch_329:chunks G 329=true:=by decide +kernel
theorem G_in {g:Nat} (h:(G g).isSome=true) (h0:1000≤g):g∈([1000126,1000137,1000152,1000213,1000220,1000229,1000243,1000248,1000250,1000251,1000258,1000264]++[1000306,1000307,1000319,1000320,1000321,1000322,1000323,1000324,1000325,1000326,1000335,1000345]++[1000348,1000376,1000386,1000389,1000390,1000394,1000396,1000401,1000422,1000426,1000433,1000434]++[1000435,1000436,1000437,1000438,1000439,1000440,1000448,1000457,1000458,1000459,1000466,1000467]++[1000470,1000479,1000481,1000483,1000484,1000485,1000486,1000487,1000488,1000489,1000490,1000491]++[1000492,1000493,1000494,2000040,2000051,2000056,2000097,2000163,2000205,2000236,2000254,2000465]++[2000345,2000466,2000058,2000079,2000107,2000180,2000264,2000282,2000283,4900345,4800466,3000044]++[3000085,3000239,3000297,3000375,3000393,3000212,3000214,3000215,3000207,4000212,4000214,4000215]++[5000329,4500207,4700044,4700085,4700239,4700375,4720011,4720040,4720191,4300058,4300107,4300180]++[4300282,4300283,4320107,4310180,4330180,4310282,4320282,4310283,4100242,4100346,4100441,4130346]++[4130441,4110079,4120264]:List Nat):=by
 unfold G at h
 rw[if_neg (show ¬ g<1000 by omega)]at h
 split at h
 ·rename_i h2
  simpa only[List.contains_eq_mem,decide_eq_true_eq]using h2
 ·simp at h
theorem flag_of {L:List Nat} {o g:Nat} (h:o+g∈L):g∈(L.filter fun x=>decide (o≤x)).map fun x=>x - o:=List.mem_map.2 ⟨o+g,List.mem_filter.2 ⟨h,decide_eq_true (Nat.le_add_right _ _)⟩,Nat.add_sub_cancel_left ..⟩
theorem chunks_are {g:Nat} (h:chunks G g=true):g=329:=by
 have e:=flag_of (G_in h (by omega))
 rw[show (List.filter (fun x=>decide (5000000≤x)) ([1000126,1000137,1000152,1000213,1000220,1000229,1000243,1000248,1000250,1000251,1000258,1000264]++[1000306,1000307,1000319,1000320,1000321,1000322,1000323,1000324,1000325,1000326,1000335,1000345]++[1000348,1000376,1000386,1000389,1000390,1000394,1000396,1000401,1000422,1000426,1000433,1000434]++[1000435,1000436,1000437,1000438,1000439,1000440,1000448,1000457,1000458,1000459,1000466,1000467]++[1000470,1000479,1000481,1000483,1000484,1000485,1000486,1000487,1000488,1000489,1000490,1000491]++[1000492,1000493,1000494,2000040,2000051,2000056,2000097,2000163,2000205,2000236,2000254,2000465]++[2000345,2000466,2000058,2000079,2000107,2000180,2000264,2000282,2000283,4900345,4800466,3000044]++[3000085,3000239,3000297,3000375,3000393,3000212,3000214,3000215,3000207,4000212,4000214,4000215]++[5000329,4500207,4700044,4700085,4700239,4700375,4720011,4720040,4720191,4300058,4300107,4300180]++[4300282,4300283,4320107,4310180,4330180,4310282,4320282,4310283,4100242,4100346,4100441,4130346]++[4130441,4110079,4120264]:List Nat)).map (fun x=>x - 5000000)=[329] by decide +kernel]at e
 simp only[List.mem_cons,List.not_mem_nil,or_false]at e
 rcases e with rfl <;> first | decide | exact absurd h (by decide +kernel)
theorem keys_are {g:Nat} (h:keysF G g=true):g=242∨g=346∨g=441:=by
 have e:=flag_of (G_in (Bool.and_eq_true_iff.1 h).2 (by omega))
 rw[show (List.filter (fun x=>decide (4100000≤x)) ([1000126,1000137,1000152,1000213,1000220,1000229,1000243,1000248,1000250,1000251,1000258,1000264]++[1000306,1000307,1000319,1000320,1000321,1000322,1000323,1000324,1000325,1000326,1000335,1000345]++[1000348,1000376,1000386,1000389,1000390,1000394,1000396,1000401,1000422,1000426,1000433,1000434]++[1000435,1000436,1000437,1000438,1000439,1000440,1000448,1000457,1000458,1000459,1000466,1000467]++[1000470,1000479,1000481,1000483,1000484,1000485,1000486,1000487,1000488,1000489,1000490,1000491]++[1000492,1000493,1000494,2000040,2000051,2000056,2000097,2000163,2000205,2000236,2000254,2000465]++[2000345,2000466,2000058,2000079,2000107,2000180,2000264,2000282,2000283,4900345,4800466,3000044]++[3000085,3000239,3000297,3000375,3000393,3000212,3000214,3000215,3000207,4000212,4000214,4000215]++[5000329,4500207,4700044,4700085,4700239,4700375,4720011,4720040,4720191,4300058,4300107,4300180]++[4300282,4300283,4320107,4310180,4330180,4310282,4320282,4310283,4100242,4100346,4100441,4130346]++[4130441,4110079,4120264]:List Nat)).map (fun x=>x - 4100000)=[800345,700466,900329,400207,600044,600085,600239,600375,620011,620040,620191,200058,200107,200180,200282,200283,220107,210180,230180,210282,220282,210283,242,346,441,30346,30441,10079,20264] by decide +kernel]at e
 simp only[List.mem_cons,List.not_mem_nil,or_false]at e
 rcases e with rfl | rfl | rfl | rfl | rfl | rfl | rfl | rfl | rfl | rfl | rfl | rfl | rfl | rfl | rfl | rfl | rfl | rfl | rfl | rfl | rfl | rfl | rfl | rfl | rfl | rfl | rfl | rfl | rfl <;> first | decide | exact absurd h (by decide +kernel)
theorem texts_are {g:Nat} (h:textsF G g=true):g=346∨g=441:=by
 have e:=flag_of (G_in (Bool.and_eq_true_iff.1 h).2 (by omega))
 rw[show (List.filter (fun x=>decide (4130000≤x)) ([1000126,1000137,1000152,1000213,1000220,1000229,1000243,1000248,1000250,1000251,1000258,1000264]++[1000306,1000307,1000319,1000320,1000321,1000322,1000323,1000324,1000325,1000326,1000335,1000345]++[1000348,1000376,1000386,1000389,1000390,1000394,1000396,1000401,1000422,1000426,1000433,1000434]++[1000435,1000436,1000437,1000438,1000439,1000440,1000448,1000457,1000458,1000459,1000466,1000467]++[1000470,1000479,1000481,1000483,1000484,1000485,1000486,1000487,1000488,1000489,1000490,1000491]++[1000492,1000493,1000494,2000040,2000051,2000056,2000097,2000163,2000205,2000236,2000254,2000465]++[2000345,2000466,2000058,2000079,2000107,2000180,2000264,2000282,2000283,4900345,4800466,3000044]++[3000085,3000239,3000297,3000375,3000393,3000212,3000214,3000215,3000207,4000212,4000214,4000215]++[5000329,4500207,4700044,4700085,4700239,4700375,4720011,4720040,4720191,4300058,4300107,4300180]++[4300282,4300283,4320107,4310180,4330180,4310282,4320282,4310283,4100242,4100346,4100441,4130346]++[4130441,4110079,4120264]:List Nat)).map (fun x=>x - 4130000)=[770345,670466,870329,370207,570044,570085,570239,570375,590011,590040,590191,170058,170107,170180,170282,170283,190107,180180,200180,180282,190282,180283,346,441] by decide +kernel]at e
 simp only[List.mem_cons,List.not_mem_nil,or_false]at e
 rcases e with rfl | rfl | rfl | rfl | rfl | rfl | rfl | rfl | rfl | rfl | rfl | rfl | rfl | rfl | rfl | rfl | rfl | rfl | rfl | rfl | rfl | rfl | rfl | rfl <;> first | decide | exact absurd h (by decide +kernel)
theorem sorts_are {g:Nat} (h:sorts G g≠0):g=58∨g=79∨g=107∨g=180∨g=264∨g=282∨g=283∨g=345∨g=466:=by
 have h1:splits G g=true:=by
  unfold sorts at h
  split at h
  ·assumption
  ·exact absurd rfl h
 have e:=flag_of (G_in h1 (by omega))
 rw[show (List.filter (fun x=>decide (2000000≤x)) ([1000126,1000137,1000152,1000213,1000220,1000229,1000243,1000248,1000250,1000251,1000258,1000264]++[1000306,1000307,1000319,1000320,1000321,1000322,1000323,1000324,1000325,1000326,1000335,1000345]++[1000348,1000376,1000386,1000389,1000390,1000394,1000396,1000401,1000422,1000426,1000433,1000434]++[1000435,1000436,1000437,1000438,1000439,1000440,1000448,1000457,1000458,1000459,1000466,1000467]++[1000470,1000479,1000481,1000483,1000484,1000485,1000486,1000487,1000488,1000489,1000490,1000491]++[1000492,1000493,1000494,2000040,2000051,2000056,2000097,2000163,2000205,2000236,2000254,2000465]++[2000345,2000466,2000058,2000079,2000107,2000180,2000264,2000282,2000283,4900345,4800466,3000044]++[3000085,3000239,3000297,3000375,3000393,3000212,3000214,3000215,3000207,4000212,4000214,4000215]++[5000329,4500207,4700044,4700085,4700239,4700375,4720011,4720040,4720191,4300058,4300107,4300180]++[4300282,4300283,4320107,4310180,4330180,4310282,4320282,4310283,4100242,4100346,4100441,4130346]++[4130441,4110079,4120264]:List Nat)).map (fun x=>x - 2000000)=[40,51,56,97,163,205,236,254,465,345,466,58,79,107,180,264,282,283,2900345,2800466,1000044,1000085,1000239,1000297,1000375,1000393,1000212,1000214,1000215,1000207,2000212,2000214,2000215,3000329,2500207,2700044,2700085,2700239,2700375,2720011,2720040,2720191,2300058,2300107,2300180,2300282,2300283,2320107,2310180,2330180,2310282,2320282,2310283,2100242,2100346,2100441,2130346,2130441,2110079,2120264] by decide +kernel]at e
 simp only[List.mem_cons,List.not_mem_nil,or_false]at e
 rcases e with rfl | rfl | rfl | rfl | rfl | rfl | rfl | rfl | rfl | rfl | rfl | rfl | rfl | rfl | rfl | rfl | rfl | rfl | rfl | rfl | rfl | rfl | rfl | rfl | rfl | rfl | rfl | rfl | rfl | rfl | rfl | rfl | rfl | rfl | rfl | rfl | rfl | rfl | rfl | rfl | rfl | rfl | rfl | rfl | rfl | rfl | rfl | rfl | rfl | rfl | rfl | rfl | rfl | rfl | rfl | rfl | rfl | rfl | rfl | rfl <;> first | decide | exact absurd h (by decide +kernel)
def Hn:Hints:=fun f r=>match f,r with
 |3,8=>[1,2]
 |3,21=>[18]
 |14,1=>[10]
 |16,16=>[0]
 |18,2=>[0]
 |21,5=>[4]
 |26,7=>[4,5,8001]
 |29,16=>[0]
 |36,1=>[6]
 |37,13=>[22,8000]
 |38,18=>[3,4,6]
 |39,2=>[3]
 |39,13=>[3]
 |45,31=>[5]
 |48,4=>[1,3,4]
 |49,1=>[10]
 |52,14=>[3]
 |52,11=>[3,4,7]
 |70,46=>[11,13,15]
 |75,1=>[4,6]
 |79,37=>[1]
 |79,47=>[2,3,7004]
 |85,11=>[4,6,9]
 |93,2=>[5]
 |94,7=>[9,8000,8005]
 |94,10=>[3,7]
 |108,5=>[9,10,7000]
 |112,8=>[6]
 |125,5=>[6]
 |125,10=>[3]
 |128,5=>[4]
 |133,7=>[7,8]
 |146,14=>[5]
 |149,18=>[6,2008,3007]
 |154,17=>[0]
 |154,28=>[0,1008]
 |159,7=>[16,8008]
 |160,9=>[4,2006,3011]
 |162,4=>[3,7,2009,3006]
 |164,9=>[6]
 |167,0=>[3]
 |171,1=>[2]
 |172,26=>[1,4,6,8]
 |203,12=>[0]
 |203,17=>[7,8002,8004]
 |207,20=>[0]
 |215,1=>[10]
 |228,1=>[5,6]
 |232,13=>[3]
 |239,11=>[11,13,2015,3008]
 |239,18=>[4,2005,3002]
 |239,19=>[0]
 |240,8=>[1,8000]
 |253,4=>[6]
 |261,0=>[4]
 |335,6=>[8]
 |358,1=>[3]
 |359,1=>[3]
 |362,3=>[8,9]
 |364,1=>[8,9]
 |371,5=>[1,8000]
 |399,4=>[4]
 |413,0=>[12,13]
 |421,31=>[6]
 |446,9=>[5,7,2009,3005]
 |473,4=>[8]
 |480,4=>[8]
 |_,_=>[]
@[simp] theorem K_3_0:K 3 0=some [(5,0),(7,0),(8,0),(10,0)]:=rfl
@[simp] theorem K_4_0:K 4 0=some [(1,0),(3,0)]:=rfl
@[simp] theorem K_4_2:K 4 2=some [(4,0),(6,0),(7,0),(8,0)]:=rfl
@[simp] theorem K_4_4:K 4 4=some [(4,0),(6,0),(7,0),(8,0),(9,0)]:=rfl
@[simp] theorem K_4_6:K 4 6=some [(4,0),(7,0),(10,0),(11,0)]:=rfl
@[simp] theorem K_4_8:K 4 8=some [(4,0),(7,0),(10,0),(11,0),(12,0)]:=rfl
@[simp] theorem K_5_0:K 5 0=some [(1,0),(5,0),(6,0),(8,0)]:=rfl
@[simp] theorem K_7_0:K 7 0=some [(1,0),(3,0)]:=rfl
@[simp] theorem K_16_0:K 16 0=some [(2,0),(3,0),(7,0)]:=rfl
@[simp] theorem K_17_0:K 17 0=some [(2,0),(3,0),(5,0)]:=rfl
@[simp] theorem K_19_0:K 19 0=some [(1,0),(3,0),(4,0)]:=rfl
@[simp] theorem K_20_0:K 20 0=some [(1,0),(2,0),(5,0)]:=rfl
@[simp] theorem K_20_2:K 20 2=some [(1,0),(6,0)]:=rfl
@[simp] theorem K_21_0:K 21 0=some [(4,0),(6,0),(32,0),(33,0),(34,0)]:=rfl
@[simp] theorem K_22_0:K 22 0=some [(1,0),(3,0)]:=rfl
@[simp] theorem K_23_0:K 23 0=some [(3,0),(11,0),(12,0)]:=rfl
@[simp] theorem K_24_0:K 24 0=some [(1,0),(2,0),(7,0),(8,8),(9,0)]:=rfl
@[simp] theorem K_26_0:K 26 0=some [(1,0),(20,0),(21,0),(22,0)]:=rfl
@[simp] theorem K_39_1:K 39 1=some [(0,0),(3,0),(4,1),(59,0),(60,0),(61,0)]:=rfl
@[simp] theorem K_52_1:K 52 1=some [(0,0),(3,0),(53,0)]:=rfl
@[simp] theorem K_59_1:K 59 1=some [(2,0),(5,0),(34,0),(35,0),(36,0)]:=rfl
@[simp] theorem K_60_0:K 60 0=some [(0,0),(5,0),(16,0),(17,0),(18,0)]:=rfl
@[simp] theorem K_61_1:K 61 1=some [(0,0),(2,0),(11,0),(88,0),(89,0),(90,0)]:=rfl
@[simp] theorem K_64_0:K 64 0=some [(0,0),(3,1),(4,0),(5,0)]:=rfl
@[simp] theorem K_65_1:K 65 1=some [(0,0),(2,0),(4,0),(5,0)]:=rfl
@[simp] theorem K_66_0:K 66 0=some [(0,0),(1,0),(6,1),(7,0)]:=rfl
@[simp] theorem K_69_2:K 69 2=some [(0,0),(2,0),(5,0),(12,0)]:=rfl
@[simp] theorem K_70_2:K 70 2=some [(10,0),(12,1),(13,0)]:=rfl
@[simp] theorem K_70_4:K 70 4=some [(16,0),(18,1),(19,0)]:=rfl
@[simp] theorem K_73_0:K 73 0=some [(1,0),(3,0),(22,0),(23,0),(24,0)]:=rfl
@[simp] theorem K_82_0:K 82 0=some [(2,0),(6,1),(11,0),(12,0),(13,0)]:=rfl
@[simp] theorem K_98_0:K 98 0=some [(0,0),(5,1),(6,1),(7,0),(8,0)]:=rfl
@[simp] theorem K_100_0:K 100 0=some [(0,0),(1,0),(2,0),(3,0),(9,0),(10,0)]:=rfl
@[simp] theorem K_103_0:K 103 0=some [(0,0),(6,0)]:=rfl
@[simp] theorem K_117_0:K 117 0=some [(0,0),(1,0),(6,0),(7,0)]:=rfl
@[simp] theorem K_118_0:K 118 0=some [(0,0),(3,0),(4,0)]:=rfl
@[simp] theorem K_141_0:K 141 0=some [(19,0)]:=rfl
@[simp] theorem K_146_0:K 146 0=some [(0,0),(1,0),(2,0),(10,0),(33,0),(34,0),(35,0)]:=rfl
@[simp] theorem K_156_0:K 156 0=some [(0,0),(1,0),(17,0),(18,0),(19,0)]:=rfl
@[simp] theorem K_164_0:K 164 0=some [(1,0),(16,0),(17,0),(18,0)]:=rfl
@[simp] theorem K_166_0:K 166 0=some [(0,0),(3,1),(11,0),(12,0),(13,0)]:=rfl
@[simp] theorem K_169_0:K 169 0=some [(0,0),(8,0),(23,0),(24,0),(25,0)]:=rfl
@[simp] theorem K_172_0:K 172 0=some [(1,0),(2,0),(3,0),(4,0),(8,0),(9,0),(10,0),(55,0),(56,0),(57,0)]:=rfl
@[simp] theorem K_172_2:K 172 2=some [(1,0),(2,0),(3,0),(4,0),(9,0),(10,0)]:=rfl
@[simp] theorem K_173_0:K 173 0=some [(0,0),(6,0),(7,0),(8,0),(9,0)]:=rfl
@[simp] theorem K_175_0:K 175 0=some [(0,0),(1,0),(6,0),(7,0)]:=rfl
@[simp] theorem K_176_0:K 176 0=some [(0,0),(1,0),(5,0)]:=rfl
@[simp] theorem K_195_0:K 195 0=some [(1,0),(2,0),(23,0),(24,0),(25,0)]:=rfl
@[simp] theorem K_197_0:K 197 0=some [(0,0),(1,0),(7,0),(8,0)]:=rfl
@[simp] theorem K_240_0:K 240 0=some [(0,0),(2,0),(3,0),(4,0)]:=rfl
@[simp] theorem K_241_0:K 241 0=some [(0,0),(1,0),(12,0),(13,0)]:=rfl
@[simp] theorem K_242_0:K 242 0=some [(0,0),(5,0)]:=rfl
@[simp] theorem K_243_0:K 243 0=some [(0,0),(1,0),(2,0),(3,0),(4,0),(10,0),(11,0)]:=rfl
@[simp] theorem K_246_0:K 246 0=some [(1,0),(5,1),(8,0),(9,0),(10,0)]:=rfl
@[simp] theorem K_247_0:K 247 0=some [(0,0),(1,0),(26,0),(27,0),(28,0)]:=rfl
@[simp] theorem K_247_2:K 247 2=some [(0,0),(8,0),(9,1),(10,1),(11,1),(47,0),(48,0),(49,0)]:=rfl
@[simp] theorem K_268_0:K 268 0=some [(2,0),(3,0),(4,0),(7,0),(8,1),(16,0),(17,0),(18,0)]:=rfl
@[simp] theorem K_273_0:K 273 0=some [(2,0),(4,0)]:=rfl
@[simp] theorem K_276_1:K 276 1=some [(0,0),(1,0),(5,0),(6,0),(7,0),(8,0),(9,0),(10,0)]:=rfl
@[simp] theorem K_279_0:K 279 0=some [(5,0),(6,0),(47,0),(48,0),(49,0)]:=rfl
@[simp] theorem K_283_1:K 283 1=some [(0,0),(1,0),(5,0),(39,0),(40,0),(41,0)]:=rfl
@[simp] theorem K_283_3:K 283 3=some [(1,0),(8,0),(63,0),(64,0),(65,0)]:=rfl
@[simp] theorem K_284_0:K 284 0=some [(0,0),(1,0),(2,0),(6,0),(8,0),(12,0),(13,0),(14,0)]:=rfl
@[simp] theorem K_288_0:K 288 0=some [(0,0),(1,0),(4,0)]:=rfl
@[simp] theorem K_289_0:K 289 0=some [(0,0),(1,0),(3,0),(4,0),(10,1),(11,0),(12,0),(13,0),(14,0),(15,0),(16,0)]:=rfl
@[simp] theorem K_289_2:K 289 2=some [(0,0),(1,0),(3,0),(4,0),(10,1),(11,0),(12,0),(13,0),(17,0)]:=rfl
@[simp] theorem K_316_0:K 316 0=some [(5,0),(8,0),(9,0),(10,0)]:=rfl
@[simp] theorem K_319_0:K 319 0=some [(0,0),(1,0),(2,0),(3,0),(8,0)]:=rfl
@[simp] theorem K_319_2:K 319 2=some [(0,0),(1,0),(2,0),(3,0),(8,0),(9,0)]:=rfl
@[simp] theorem K_320_0:K 320 0=some [(0,0),(3,0),(8,0),(9,0),(10,0),(11,0)]:=rfl
@[simp] theorem K_320_2:K 320 2=some [(0,0),(3,0),(8,0),(9,0),(12,0)]:=rfl
@[simp] theorem K_321_0:K 321 0=some [(0,0),(1,0),(8,0),(9,0),(10,0),(11,0)]:=rfl
@[simp] theorem K_329_0:K 329 0=some [(0,0),(1,0),(2,0),(4,0)]:=rfl
@[simp] theorem K_338_0:K 338 0=some [(0,0),(1,0),(7,0),(8,0)]:=rfl
@[simp] theorem K_346_0:K 346 0=some [(0,0),(5,0)]:=rfl
@[simp] theorem K_356_0:K 356 0=some [(0,0),(1,0),(5,0),(6,0),(7,0),(8,0),(9,0)]:=rfl
@[simp] theorem K_356_2:K 356 2=some [(0,0),(1,0),(5,0),(6,0),(7,0),(8,0),(10,0)]:=rfl
@[simp] theorem K_400_0:K 400 0=some [(2,0),(4,1)]:=rfl
@[simp] theorem K_401_0:K 401 0=some [(0,0),(1,0),(2,0),(3,0),(8,0),(9,0)]:=rfl
@[simp] theorem K_408_0:K 408 0=some [(0,0),(4,0),(5,0)]:=rfl
@[simp] theorem K_408_2:K 408 2=some [(4,0),(6,0),(7,0),(8,0)]:=rfl
@[simp] theorem K_409_3:K 409 3=some [(1,0),(8,0),(9,0),(10,0),(11,0),(12,0),(13,0),(99,0),(100,0),(101,0)]:=rfl
@[simp] theorem K_433_0:K 433 0=some [(0,0),(1,0),(2,0),(6,0)]:=rfl
@[simp] theorem K_433_2:K 433 2=some [(0,0),(1,0),(2,0),(6,0),(7,0)]:=rfl
@[simp] theorem K_434_0:K 434 0=some [(0,0),(6,0),(7,0),(8,0),(9,0)]:=rfl
@[simp] theorem K_434_2:K 434 2=some [(0,0),(6,0),(7,0),(10,0)]:=rfl
@[simp] theorem K_435_0:K 435 0=some [(0,0),(1,0),(6,0),(7,0),(8,0),(9,0)]:=rfl
@[simp] theorem K_437_0:K 437 0=some [(0,0),(6,0),(7,0)]:=rfl
@[simp] theorem K_438_0:K 438 0=some [(0,0),(1,0),(2,0),(7,0),(8,0)]:=rfl
@[simp] theorem K_438_2:K 438 2=some [(0,0),(1,0),(2,0),(7,0),(8,0)]:=rfl
@[simp] theorem K_438_4:K 438 4=some [(0,0),(1,0),(2,0),(7,0),(8,0),(9,0)]:=rfl
@[simp] theorem K_438_6:K 438 6=some [(0,0),(1,0),(2,0),(7,0),(8,0),(10,0)]:=rfl
@[simp] theorem K_439_0:K 439 0=some [(0,0),(1,0),(9,0),(10,0)]:=rfl
@[simp] theorem K_439_2:K 439 2=some [(0,0),(1,0),(9,0),(10,0)]:=rfl
@[simp] theorem K_439_4:K 439 4=some [(0,0),(1,0),(9,0),(10,0)]:=rfl
@[simp] theorem K_440_0:K 440 0=some [(0,0),(1,0),(10,0),(11,0)]:=rfl
@[simp] theorem K_440_2:K 440 2=some [(0,0),(1,0),(10,0),(11,0)]:=rfl
@[simp] theorem K_440_4:K 440 4=some [(0,0),(1,0),(10,0),(11,0)]:=rfl
@[simp] theorem K_440_6:K 440 6=some [(0,0),(1,0),(10,0),(11,0)]:=rfl
@[simp] theorem K_440_8:K 440 8=some [(0,0),(1,0),(10,0),(11,0)]:=rfl
@[simp] theorem K_441_0:K 441 0=some [(0,0),(5,0)]:=rfl
@[simp] theorem K_443_0:K 443 0=some [(0,0),(3,0),(4,0),(5,0)]:=rfl
@[simp] theorem K_457_0:K 457 0=some [(0,0),(2,0),(3,0),(8,0)]:=rfl
@[simp] theorem K_479_0:K 479 0=some [(0,0),(1,0),(2,0),(3,0),(8,0),(9,0)]:=rfl
@[simp] theorem K_483_0:K 483 0=some [(0,0),(1,0),(2,0),(6,0)]:=rfl
@[simp] theorem K_483_2:K 483 2=some [(0,0),(1,0),(2,0),(6,0),(7,0)]:=rfl
@[simp] theorem K_484_0:K 484 0=some [(0,0),(6,0),(7,0),(8,0),(9,0)]:=rfl
@[simp] theorem K_484_2:K 484 2=some [(0,0),(6,0),(7,0),(10,0)]:=rfl
@[simp] theorem K_485_0:K 485 0=some [(0,0),(1,0),(6,0),(7,0),(8,0),(9,0)]:=rfl
@[simp] theorem K_487_0:K 487 0=some [(0,0),(6,0),(7,0)]:=rfl
@[simp] theorem K_488_0:K 488 0=some [(0,0),(1,0),(2,0),(7,0),(8,0)]:=rfl
@[simp] theorem K_488_2:K 488 2=some [(0,0),(1,0),(2,0),(7,0),(8,0)]:=rfl
@[simp] theorem K_488_4:K 488 4=some [(0,0),(1,0),(2,0),(7,0),(8,0),(9,0)]:=rfl
@[simp] theorem K_488_6:K 488 6=some [(0,0),(1,0),(2,0),(7,0),(8,0),(10,0)]:=rfl
@[simp] theorem K_489_0:K 489 0=some [(0,0),(1,0),(9,0),(10,0)]:=rfl
@[simp] theorem K_489_2:K 489 2=some [(0,0),(1,0),(9,0),(10,0)]:=rfl
@[simp] theorem K_489_4:K 489 4=some [(0,0),(1,0),(9,0),(10,0)]:=rfl
@[simp] theorem K_490_0:K 490 0=some [(0,0),(1,0),(10,0),(11,0)]:=rfl
@[simp] theorem K_490_2:K 490 2=some [(0,0),(1,0),(10,0),(11,0)]:=rfl
@[simp] theorem K_490_4:K 490 4=some [(0,0),(1,0),(10,0),(11,0)]:=rfl
@[simp] theorem K_490_6:K 490 6=some [(0,0),(1,0),(10,0),(11,0)]:=rfl
@[simp] theorem K_490_8:K 490 8=some [(0,0),(1,0),(10,0),(11,0)]:=rfl
@[simp] theorem K_491_0:K 491 0=some [(0,0),(2,0),(3,0),(8,0)]:=rfl
@[simp] theorem Hn_3_8:Hn 3 8=[1,2]:=rfl
@[simp] theorem Hn_3_21:Hn 3 21=[18]:=rfl
@[simp] theorem Hn_4_22:Hn 4 22=[]:=rfl
@[simp] theorem Hn_4_27:Hn 4 27=[]:=rfl
@[simp] theorem Hn_4_37:Hn 4 37=[]:=rfl
@[simp] theorem Hn_12_1:Hn 12 1=[]:=rfl
@[simp] theorem Hn_12_3:Hn 12 3=[]:=rfl
@[simp] theorem Hn_12_9:Hn 12 9=[]:=rfl
@[simp] theorem Hn_14_1:Hn 14 1=[10]:=rfl
@[simp] theorem Hn_15_1:Hn 15 1=[]:=rfl
@[simp] theorem Hn_16_16:Hn 16 16=[0]:=rfl
@[simp] theorem Hn_16_21:Hn 16 21=[]:=rfl
@[simp] theorem Hn_17_6:Hn 17 6=[]:=rfl
@[simp] theorem Hn_18_2:Hn 18 2=[0]:=rfl
@[simp] theorem Hn_21_5:Hn 21 5=[4]:=rfl
@[simp] theorem Hn_21_12:Hn 21 12=[]:=rfl
@[simp] theorem Hn_22_7:Hn 22 7=[]:=rfl
@[simp] theorem Hn_22_9:Hn 22 9=[]:=rfl
@[simp] theorem Hn_26_7:Hn 26 7=[4,5,8001]:=rfl
@[simp] theorem Hn_28_11:Hn 28 11=[]:=rfl
@[simp] theorem Hn_28_19:Hn 28 19=[]:=rfl
@[simp] theorem Hn_28_20:Hn 28 20=[]:=rfl
@[simp] theorem Hn_29_10:Hn 29 10=[]:=rfl
@[simp] theorem Hn_29_16:Hn 29 16=[0]:=rfl
@[simp] theorem Hn_29_25:Hn 29 25=[]:=rfl
@[simp] theorem Hn_29_26:Hn 29 26=[]:=rfl
@[simp] theorem Hn_36_1:Hn 36 1=[6]:=rfl
@[simp] theorem Hn_37_8:Hn 37 8=[]:=rfl
@[simp] theorem Hn_37_13:Hn 37 13=[22,8000]:=rfl
@[simp] theorem Hn_38_18:Hn 38 18=[3,4,6]:=rfl
@[simp] theorem Hn_39_2:Hn 39 2=[3]:=rfl
@[simp] theorem Hn_39_13:Hn 39 13=[3]:=rfl
@[simp] theorem Hn_39_15:Hn 39 15=[]:=rfl
@[simp] theorem Hn_39_17:Hn 39 17=[]:=rfl
@[simp] theorem Hn_39_4:Hn 39 4=[]:=rfl
@[simp] theorem Hn_39_5:Hn 39 5=[]:=rfl
@[simp] theorem Hn_52_1:Hn 52 1=[]:=rfl
@[simp] theorem Hn_52_3:Hn 52 3=[]:=rfl
@[simp] theorem Hn_52_13:Hn 52 13=[]:=rfl
@[simp] theorem Hn_52_14:Hn 52 14=[3]:=rfl
@[simp] theorem Hn_52_16:Hn 52 16=[]:=rfl
@[simp] theorem Hn_52_7:Hn 52 7=[]:=rfl
@[simp] theorem Hn_52_11:Hn 52 11=[3,4,7]:=rfl
@[simp] theorem Hn_60_13:Hn 60 13=[]:=rfl
@[simp] theorem Hn_70_46:Hn 70 46=[11,13,15]:=rfl
@[simp] theorem Hn_81_2:Hn 81 2=[]:=rfl
@[simp] theorem Hn_85_11:Hn 85 11=[4,6,9]:=rfl
@[simp] theorem Hn_138_1:Hn 138 1=[]:=rfl
@[simp] theorem Hn_146_14:Hn 146 14=[5]:=rfl
@[simp] theorem Hn_164_9:Hn 164 9=[6]:=rfl
@[simp] theorem Hn_171_1:Hn 171 1=[2]:=rfl
@[simp] theorem Hn_172_26:Hn 172 26=[1,4,6,8]:=rfl
@[simp] theorem Hn_240_8:Hn 240 8=[1,8000]:=rfl
@[simp] theorem Hn_241_6:Hn 241 6=[]:=rfl
@[simp] theorem Hn_243_17:Hn 243 17=[]:=rfl
@[simp] theorem Hn_288_7:Hn 288 7=[]:=rfl
@[simp] theorem Hn_288_8:Hn 288 8=[]:=rfl
@[simp] theorem Hn_288_9:Hn 288 9=[]:=rfl
@[simp] theorem Hn_288_10:Hn 288 10=[]:=rfl
@[simp] theorem Hn_288_17:Hn 288 17=[]:=rfl
@[simp] theorem Hn_288_18:Hn 288 18=[]:=rfl
@[simp] theorem Hn_288_23:Hn 288 23=[]:=rfl
@[simp] theorem Hn_314_4:Hn 314 4=[]:=rfl
@[simp] theorem Hn_319_4:Hn 319 4=[]:=rfl
@[simp] theorem Hn_319_6:Hn 319 6=[]:=rfl
@[simp] theorem Hn_320_10:Hn 320 10=[]:=rfl
@[simp] theorem Hn_321_10:Hn 321 10=[]:=rfl
@[simp] theorem Hn_329_3:Hn 329 3=[]:=rfl
@[simp] theorem Hn_358_1:Hn 358 1=[3]:=rfl
@[simp] theorem Hn_359_1:Hn 359 1=[3]:=rfl
@[simp] theorem Hn_362_3:Hn 362 3=[8,9]:=rfl
@[simp] theorem Hn_364_1:Hn 364 1=[8,9]:=rfl
@[simp] theorem Hn_388_1:Hn 388 1=[]:=rfl
@[simp] theorem Hn_388_2:Hn 388 2=[]:=rfl
@[simp] theorem Hn_388_3:Hn 388 3=[]:=rfl
@[simp] theorem Hn_401_17:Hn 401 17=[]:=rfl
@[simp] theorem Hn_413_0:Hn 413 0=[12,13]:=rfl
@[simp] theorem Hn_433_4:Hn 433 4=[]:=rfl
@[simp] theorem Hn_433_6:Hn 433 6=[]:=rfl
@[simp] theorem Hn_434_10:Hn 434 10=[]:=rfl
@[simp] theorem Hn_435_10:Hn 435 10=[]:=rfl
@[simp] theorem Hn_437_3:Hn 437 3=[]:=rfl
@[simp] theorem Hn_438_5:Hn 438 5=[]:=rfl
@[simp] theorem Hn_438_11:Hn 438 11=[]:=rfl
@[simp] theorem Hn_438_16:Hn 438 16=[]:=rfl
@[simp] theorem Hn_438_17:Hn 438 17=[]:=rfl
@[simp] theorem Hn_438_22:Hn 438 22=[]:=rfl
@[simp] theorem Hn_438_23:Hn 438 23=[]:=rfl
@[simp] theorem Hn_439_1:Hn 439 1=[]:=rfl
@[simp] theorem Hn_439_3:Hn 439 3=[]:=rfl
@[simp] theorem Hn_439_5:Hn 439 5=[]:=rfl
@[simp] theorem Hn_439_8:Hn 439 8=[]:=rfl
@[simp] theorem Hn_440_1:Hn 440 1=[]:=rfl
@[simp] theorem Hn_440_3:Hn 440 3=[]:=rfl
@[simp] theorem Hn_440_5:Hn 440 5=[]:=rfl
@[simp] theorem Hn_440_8:Hn 440 8=[]:=rfl
@[simp] theorem Hn_440_10:Hn 440 10=[]:=rfl
@[simp] theorem Hn_440_13:Hn 440 13=[]:=rfl
@[simp] theorem Hn_440_15:Hn 440 15=[]:=rfl
@[simp] theorem Hn_440_18:Hn 440 18=[]:=rfl
@[simp] theorem Hn_440_21:Hn 440 21=[]:=rfl
@[simp] theorem Hn_457_3:Hn 457 3=[]:=rfl
@[simp] theorem Hn_457_5:Hn 457 5=[]:=rfl
@[simp] theorem Hn_457_6:Hn 457 6=[]:=rfl
@[simp] theorem Hn_470_1:Hn 470 1=[]:=rfl
@[simp] theorem Hn_479_17:Hn 479 17=[]:=rfl
@[simp] theorem Hn_483_4:Hn 483 4=[]:=rfl
@[simp] theorem Hn_483_6:Hn 483 6=[]:=rfl
@[simp] theorem Hn_484_10:Hn 484 10=[]:=rfl
@[simp] theorem Hn_485_10:Hn 485 10=[]:=rfl
@[simp] theorem Hn_487_3:Hn 487 3=[]:=rfl
@[simp] theorem Hn_488_5:Hn 488 5=[]:=rfl
@[simp] theorem Hn_488_11:Hn 488 11=[]:=rfl
@[simp] theorem Hn_488_16:Hn 488 16=[]:=rfl
@[simp] theorem Hn_488_17:Hn 488 17=[]:=rfl
@[simp] theorem Hn_488_22:Hn 488 22=[]:=rfl
@[simp] theorem Hn_488_23:Hn 488 23=[]:=rfl
@[simp] theorem Hn_489_1:Hn 489 1=[]:=rfl
@[simp] theorem Hn_489_3:Hn 489 3=[]:=rfl
@[simp] theorem Hn_489_5:Hn 489 5=[]:=rfl
@[simp] theorem Hn_489_8:Hn 489 8=[]:=rfl
@[simp] theorem Hn_490_1:Hn 490 1=[]:=rfl
@[simp] theorem Hn_490_3:Hn 490 3=[]:=rfl
@[simp] theorem Hn_490_5:Hn 490 5=[]:=rfl
@[simp] theorem Hn_490_8:Hn 490 8=[]:=rfl
@[simp] theorem Hn_490_10:Hn 490 10=[]:=rfl
@[simp] theorem Hn_490_13:Hn 490 13=[]:=rfl
@[simp] theorem Hn_490_15:Hn 490 15=[]:=rfl
@[simp] theorem Hn_490_18:Hn 490 18=[]:=rfl
@[simp] theorem Hn_490_21:Hn 490 21=[]:=rfl
@[simp] theorem Hn_491_3:Hn 491 3=[]:=rfl
@[simp] theorem Hn_491_5:Hn 491 5=[]:=rfl
@[simp] theorem Hn_491_6:Hn 491 6=[]:=rfl
@[simp] theorem Hn_494_1:Hn 494 1=[]:=rfl
noncomputable abbrev R:Run:=Runs Tryz.prog G K Hn
end Go.Am.Ab
namespace Go.Am
theorem bits_u8:IntKind.bits .u8=8:=rfl
theorem bits_u32:IntKind.bits .u32=32:=rfl
theorem bits_u64:IntKind.bits .u64=64:=rfl
theorem bits_i64:IntKind.bits .i64=64:=rfl
theorem wrap_mod_u8 (x:Int):IntKind.u8.wrap x=x % 256:=by simp[IntKind.wrap,IntKind.signed,IntKind.bits]
theorem wrap_mod_u32 (x:Int):IntKind.u32.wrap x=x % 4294967296:=by simp[IntKind.wrap,IntKind.signed,IntKind.bits]
theorem wrap_mod_u64 (x:Int):IntKind.u64.wrap x=x % 18446744073709551616:=by simp[IntKind.wrap,IntKind.signed,IntKind.bits]
theorem wrap_mod_i64 (x:Int):IntKind.i64.wrap x=if x % 18446744073709551616≥9223372036854775808 then x % 18446744073709551616 - 18446744073709551616 else x % 18446744073709551616:=by
 simp[IntKind.wrap,IntKind.signed,IntKind.bits]
theorem ofInt_nat (n:Nat) (w:Nat):(BitVec.ofInt w (n:Int)).toNat=n % 2 ^ w:=by
 rw[BitVec.toNat_ofInt]
 have:(n:Int) % ((2 ^ w:Nat):Int)=((n % 2 ^ w:Nat):Int):=by rw[Int.natCast_emod]
 rw[this,Int.toNat_natCast]
theorem or_u64 {x y:Nat} (hx:x<2 ^ 64) (hy:y<2 ^ 64):IntKind.u64.wrap (BitVec.ofInt 64 (x:Int) ||| BitVec.ofInt 64 (y:Int)).toNat=((x ||| y:Nat):Int):=by
 rw[BitVec.toNat_or,ofInt_nat,ofInt_nat,Nat.mod_eq_of_lt hx,Nat.mod_eq_of_lt hy,wrap_mod_u64]
 have:=Nat.or_lt_two_pow hx hy
 omega
theorem and_u64 {x y:Nat} (hx:x<2 ^ 64) (hy:y<2 ^ 64):IntKind.u64.wrap (BitVec.ofInt 64 (x:Int) &&& BitVec.ofInt 64 (y:Int)).toNat=((x &&& y:Nat):Int):=by
 rw[BitVec.toNat_and,ofInt_nat,ofInt_nat,Nat.mod_eq_of_lt hx,Nat.mod_eq_of_lt hy,wrap_mod_u64]
 have:=Nat.and_lt_two_pow x hy
 omega
theorem xor_u64 {x y:Nat} (hx:x<2 ^ 64) (hy:y<2 ^ 64):IntKind.u64.wrap (BitVec.ofInt 64 (x:Int) ^^^ BitVec.ofInt 64 (y:Int)).toNat=((x ^^^ y:Nat):Int):=by
 rw[BitVec.toNat_xor,ofInt_nat,ofInt_nat,Nat.mod_eq_of_lt hx,Nat.mod_eq_of_lt hy,wrap_mod_u64]
 have:=Nat.xor_lt_two_pow hx hy
 omega
theorem or_u8 {x y:Nat} (hx:x<2 ^ 8) (hy:y<2 ^ 8):IntKind.u8.wrap (BitVec.ofInt 8 (x:Int) ||| BitVec.ofInt 8 (y:Int)).toNat=((x ||| y:Nat):Int):=by
 rw[BitVec.toNat_or,ofInt_nat,ofInt_nat,Nat.mod_eq_of_lt hx,Nat.mod_eq_of_lt hy,wrap_mod_u8]
 have:=Nat.or_lt_two_pow hx hy
 omega
theorem and_u8 {x y:Nat} (hx:x<2 ^ 8) (hy:y<2 ^ 8):IntKind.u8.wrap (BitVec.ofInt 8 (x:Int) &&& BitVec.ofInt 8 (y:Int)).toNat=((x &&& y:Nat):Int):=by
 rw[BitVec.toNat_and,ofInt_nat,ofInt_nat,Nat.mod_eq_of_lt hx,Nat.mod_eq_of_lt hy,wrap_mod_u8]
 have:=Nat.and_lt_two_pow x hy
 omega
theorem or_u32 {x y:Nat} (hx:x<2 ^ 32) (hy:y<2 ^ 32):IntKind.u32.wrap (BitVec.ofInt 32 (x:Int) ||| BitVec.ofInt 32 (y:Int)).toNat=((x ||| y:Nat):Int):=by
 rw[BitVec.toNat_or,ofInt_nat,ofInt_nat,Nat.mod_eq_of_lt hx,Nat.mod_eq_of_lt hy,wrap_mod_u32]
 have:=Nat.or_lt_two_pow hx hy
 omega
theorem and_u32 {x y:Nat} (hx:x<2 ^ 32) (hy:y<2 ^ 32):IntKind.u32.wrap (BitVec.ofInt 32 (x:Int) &&& BitVec.ofInt 32 (y:Int)).toNat=((x &&& y:Nat):Int):=by
 rw[BitVec.toNat_and,ofInt_nat,ofInt_nat,Nat.mod_eq_of_lt hx,Nat.mod_eq_of_lt hy,wrap_mod_u32]
 have:=Nat.and_lt_two_pow x hy
 omega
theorem xor_u32 {x y:Nat} (hx:x<2 ^ 32) (hy:y<2 ^ 32):IntKind.u32.wrap (BitVec.ofInt 32 (x:Int) ^^^ BitVec.ofInt 32 (y:Int)).toNat=((x ^^^ y:Nat):Int):=by
 rw[BitVec.toNat_xor,ofInt_nat,ofInt_nat,Nat.mod_eq_of_lt hx,Nat.mod_eq_of_lt hy,wrap_mod_u32]
 have:=Nat.xor_lt_two_pow hx hy
 omega
theorem intBin_or_u8 {x y:Int} (h1:0≤x) (h2:x<256) (h3:0≤y) (h4:y<256):intBin .or .u8 x y=some (.int .u8 ((x.toNat ||| y.toNat:Nat):Int)):=by
 obtain⟨a,rfl⟩:=Int.eq_ofNat_of_zero_le h1
 obtain⟨b,rfl⟩:=Int.eq_ofNat_of_zero_le h3
 show some (D.int .u8 _)=_
 rw[Int.toNat_natCast,Int.toNat_natCast]
 exact congrArg (fun z=>some (D.int .u8 z)) (or_u8 (by omega) (by omega))
attribute [simp] intBin_or_u8
theorem intBin_and_u8 {x y:Int} (h1:0≤x) (h2:x<256) (h3:0≤y) (h4:y<256):intBin .and .u8 x y=some (.int .u8 ((x.toNat &&& y.toNat:Nat):Int)):=by
 obtain⟨a,rfl⟩:=Int.eq_ofNat_of_zero_le h1
 obtain⟨b,rfl⟩:=Int.eq_ofNat_of_zero_le h3
 show some (D.int .u8 _)=_
 rw[Int.toNat_natCast,Int.toNat_natCast]
 exact congrArg (fun z=>some (D.int .u8 z)) (and_u8 (by omega) (by omega))
attribute [simp] intBin_and_u8
theorem intBin_or_u32 {x y:Int} (h1:0≤x) (h2:x<4294967296) (h3:0≤y) (h4:y<4294967296):intBin .or .u32 x y=some (.int .u32 ((x.toNat ||| y.toNat:Nat):Int)):=by
 obtain⟨a,rfl⟩:=Int.eq_ofNat_of_zero_le h1
 obtain⟨b,rfl⟩:=Int.eq_ofNat_of_zero_le h3
 show some (D.int .u32 _)=_
 rw[Int.toNat_natCast,Int.toNat_natCast]
 exact congrArg (fun z=>some (D.int .u32 z)) (or_u32 (by omega) (by omega))
attribute [simp] intBin_or_u32
theorem intBin_and_u32 {x y:Int} (h1:0≤x) (h2:x<4294967296) (h3:0≤y) (h4:y<4294967296):intBin .and .u32 x y=some (.int .u32 ((x.toNat &&& y.toNat:Nat):Int)):=by
 obtain⟨a,rfl⟩:=Int.eq_ofNat_of_zero_le h1
 obtain⟨b,rfl⟩:=Int.eq_ofNat_of_zero_le h3
 show some (D.int .u32 _)=_
 rw[Int.toNat_natCast,Int.toNat_natCast]
 exact congrArg (fun z=>some (D.int .u32 z)) (and_u32 (by omega) (by omega))
attribute [simp] intBin_and_u32
theorem intBin_xor_u32 {x y:Int} (h1:0≤x) (h2:x<4294967296) (h3:0≤y) (h4:y<4294967296):intBin .xor .u32 x y=some (.int .u32 ((x.toNat ^^^ y.toNat:Nat):Int)):=by
 obtain⟨a,rfl⟩:=Int.eq_ofNat_of_zero_le h1
 obtain⟨b,rfl⟩:=Int.eq_ofNat_of_zero_le h3
 show some (D.int .u32 _)=_
 rw[Int.toNat_natCast,Int.toNat_natCast]
 exact congrArg (fun z=>some (D.int .u32 z)) (xor_u32 (by omega) (by omega))
attribute [simp] intBin_xor_u32
theorem intBin_or_u64 {x y:Int} (h1:0≤x) (h2:x<18446744073709551616) (h3:0≤y) (h4:y<18446744073709551616):intBin .or .u64 x y=some (.int .u64 ((x.toNat ||| y.toNat:Nat):Int)):=by
 obtain⟨a,rfl⟩:=Int.eq_ofNat_of_zero_le h1
 obtain⟨b,rfl⟩:=Int.eq_ofNat_of_zero_le h3
 show some (D.int .u64 _)=_
 rw[Int.toNat_natCast,Int.toNat_natCast]
 exact congrArg (fun z=>some (D.int .u64 z)) (or_u64 (by omega) (by omega))
attribute [simp] intBin_or_u64
theorem intBin_and_u64 {x y:Int} (h1:0≤x) (h2:x<18446744073709551616) (h3:0≤y) (h4:y<18446744073709551616):intBin .and .u64 x y=some (.int .u64 ((x.toNat &&& y.toNat:Nat):Int)):=by
 obtain⟨a,rfl⟩:=Int.eq_ofNat_of_zero_le h1
 obtain⟨b,rfl⟩:=Int.eq_ofNat_of_zero_le h3
 show some (D.int .u64 _)=_
 rw[Int.toNat_natCast,Int.toNat_natCast]
 exact congrArg (fun z=>some (D.int .u64 z)) (and_u64 (by omega) (by omega))
attribute [simp] intBin_and_u64
theorem intBin_xor_u64 {x y:Int} (h1:0≤x) (h2:x<18446744073709551616) (h3:0≤y) (h4:y<18446744073709551616):intBin .xor .u64 x y=some (.int .u64 ((x.toNat ^^^ y.toNat:Nat):Int)):=by
 obtain⟨a,rfl⟩:=Int.eq_ofNat_of_zero_le h1
 obtain⟨b,rfl⟩:=Int.eq_ofNat_of_zero_le h3
 show some (D.int .u64 _)=_
 rw[Int.toNat_natCast,Int.toNat_natCast]
 exact congrArg (fun z=>some (D.int .u64 z)) (xor_u64 (by omega) (by omega))
attribute [simp] intBin_xor_u64
theorem or_add {x y i:Nat} (hx:x % 2 ^ i=0) (hy:y<2 ^ i):x ||| y=x+y:=by
 have e:x=2 ^ i*(x / 2 ^ i):=by
  have:=Nat.div_add_mod x (2 ^ i)
  omega
 rw[e,Nat.two_pow_add_eq_or_of_lt hy]
theorem or_add' {x y i:Nat} (hx:x % 2 ^ i=0) (hy:y<2 ^ i):y ||| x=y+x:=by rw[Nat.or_comm,or_add hx hy,Nat.add_comm]
theorem or128 (n:Nat):(n % 256 ||| 128)=n % 128+128:=by
 have h1:n % 256=n % 128+128*(n / 128 % 2):=by omega
 have h2:n / 128 % 2=0∨n / 128 % 2=1:=by omega
 have h3:n % 128<2 ^ 7:=by omega
 rcases h2 with h | h
 ·rw[h1,h,Nat.mul_zero,Nat.add_zero]
  rw[or_add' (i:=7) (by decide) h3]
 ·rw[h1,h,Nat.mul_one]
  have:n % 128+128=n % 128 ||| 128:=(or_add' (i:=7) (by decide) h3).symm
  rw[this,Nat.or_assoc,Nat.or_self]
theorem and_mask (n k:Nat):n &&& (2 ^ k - 1)=n % 2 ^ k:=Nat.and_two_pow_sub_one_eq_mod n k
theorem and127 (n:Nat):n &&& 127=n % 128:=and_mask n 7
theorem and1 (n:Nat):n &&& 1=n % 2:=and_mask n 1
theorem intBin_xor_i64_zero {x:Int} (h1: -9223372036854775808≤x) (h2:x≤9223372036854775807):intBin .xor .i64 x 0=some (.int .i64 x):=by
 show some (D.int .i64 (IntKind.i64.wrap (BitVec.ofInt 64 x ^^^ BitVec.ofInt 64 0).toNat))=_
 have:BitVec.ofInt 64 0=0#64:=rfl
 rw[this,BitVec.xor_zero,BitVec.toNat_ofInt,wrap_mod_i64]
 congr 2
 split <;> omega
theorem intBin_xor_i64_m1 {x:Int} (h1: -9223372036854775808≤x) (h2:x≤9223372036854775807):intBin .xor .i64 x (-1)=some (.int .i64 (-x - 1)):=by
 show some (D.int .i64 (IntKind.i64.wrap (BitVec.ofInt 64 x ^^^ BitVec.ofInt 64 (-1)).toNat))=_
 have:BitVec.ofInt 64 (-1)=BitVec.allOnes 64:=by decide
 rw[this,BitVec.xor_allOnes,BitVec.toNat_not,BitVec.toNat_ofInt,wrap_mod_i64]
 congr 2
 split <;> omega
attribute [simp] intBin_xor_i64_zero intBin_xor_i64_m1
def u8n (n:Nat):UInt8:=UInt8.ofNat n
theorem u8n_toNat {n:Nat} (h:n<256):(u8n n).toNat=n:=by simp[u8n];omega
theorem u8n_of (b:UInt8):u8n b.toNat=b:=by simp[u8n]
abbrev bytes (l:List UInt8):List D:=l.map byteD
@[simp] theorem mk_toList (l:List UInt8):(ByteArray.mk l.toArray).toList=l:=by rw[ByteArray.toList_eq]
@[simp] theorem mk_size (l:List UInt8):(ByteArray.mk l.toArray).size=l.length:=by simp[ByteArray.size]
@[simp] theorem bytes_comp (l:List UInt8):l.mapM (byteOf? ∘ byteD)=some l:=by rw[← List.mapM_map];exact bytes_of_map l
@[simp] theorem bytes_take (l:List UInt8) (k:Nat):((l.map byteD).take k).mapM byteOf?=some (l.take k):=by rw[← List.map_take,bytes_of_map]
@[simp] theorem bytes_drop (l:List UInt8) (k:Nat):((l.map byteD).drop k).mapM byteOf?=some (l.drop k):=by rw[← List.map_drop,bytes_of_map]
@[simp] theorem bytes_take_drop (l:List UInt8) (k j:Nat):(((l.map byteD).take k).drop j).mapM byteOf?=some ((l.take k).drop j):=by rw[← List.map_take,← List.map_drop,bytes_of_map]
@[simp] theorem allSize_bytes (l:List UInt8):allSize 1 (l.map byteD)=true:=allSize_map l fun _=>rfl
@[simp] theorem allSize_ints {α:Type} (k:IntKind) (f:α→Int) (l:List α):allSize 1 (l.map fun x=>D.int k (f x))=true:=allSize_map l fun _=>rfl
@[simp] theorem allSize_strs (l:List ByteArray):allSize 1 (l.map D.str)=true:=allSize_map l fun _=>rfl
attribute [simp] cut
@[simp] theorem take_map_len {α β:Type} (f:α→β) (l:List α):(l.map f).take l.length=l.map f:=List.take_of_length_le (by simp)
attribute [simp] byteD u8n_toNat or128 and127 and1 u8n_of
attribute [simp] wrap_mod_u8 wrap_mod_u32 bits_u8 bits_u32 bits_u64 bits_i64
@[simp] theorem toNat_mod256 (m:Nat):((m:Int) % 256).toNat=m % 256:=by omega
@[simp] theorem toNat_mod32 (m:Nat):((m:Int) % 4294967296).toNat=m % 4294967296:=by omega
@[simp] theorem toNat_mod64 (m:Nat):((m:Int) % 18446744073709551616).toNat=m % 18446744073709551616:=by omega
theorem fdiv_pos (a b:Int) (h:0≤b):a.fdiv b=a / b:=Int.fdiv_eq_ediv_of_nonneg a h
@[simp] theorem fdiv_pow (a:Int) (w:Nat):a.fdiv (2 ^ w)=a / 2 ^ w:=fdiv_pos a _ (Int.le_of_lt (Int.pow_pos (by decide)))
attribute [simp] fdiv_pos
theorem tdiv_pos (a b:Int) (h:0≤a):a.tdiv b=a / b:=Int.tdiv_eq_ediv_of_nonneg h
theorem tmod_pos (a b:Int) (h:0≤a):a.tmod b=a % b:=Int.tmod_eq_emod_of_nonneg h
attribute [simp] tdiv_pos tmod_pos
end Go.Am
namespace Go.Am.Ab
structure Fld where
 id:Int
 name:ByteArray
 kind:Int
 need:Bool
structure Sch where
 id:Int
 fields:List Fld
structure Snap where
 id:Int
 parent:Int
 seq:Int
 offset:Int
 time:Int
 schema:Int
 mans:List ByteArray
structure Tab where
 schemas:List Sch
 snaps:List Snap
 current:Int
structure Pol where
 keep:Int
 age:Int
abbrev u64 (n:Int):D:= .int .u64 n
abbrev i64 (n:Int):D:= .int .i64 n
def Fld.d (f:Fld):D:= .agg [.int .u32 f.id,.str f.name,.int .u8 f.kind,.bool f.need]
def Sch.d (s:Sch):D:= .agg [.int .u32 s.id,.list (s.fields.map Fld.d)]
def Snap.d (s:Snap):D:= .agg [.int .u64 s.id,.int .u64 s.parent,.int .u64 s.seq,.int .u64 s.offset,.int .u64 s.time,.int .u32 s.schema,.list (s.mans.map .str)]
def Tab.d (t:Tab):D:= .agg [.list (t.schemas.map Sch.d),.list (t.snaps.map Snap.d),.int .u64 t.current]
def Pol.d (p:Pol):D:= .agg [.int .i64 p.keep,.int .u64 p.age]
attribute [simp] Fld.d Sch.d Snap.d Tab.d Pol.d
end Go.Am.Ab
namespace Go.Am.Ab
theorem nI {m n:Nat}:(m:Int)=n↔m=n:=Int.natCast_inj
theorem wI {x:Int} (h1: -9223372036854775808≤x) (h2:x≤9223372036854775807):IntKind.i64.wrap x=x:=wrap_i64 h1 h2
end Go.Am.Ab
