/- Facts on the types of the program, what loops keep, numbers. -/
import Derived.Test.YtibdiacpdmhmnaaGreatDoorProg
import Derived.KernelRfl
import Derived.Test.YtibdiacpdmhmnaaGreatDoorMachD
set_option linter.all false
namespace Go.Am.Ab
open Go.Proofs
attribute [simp] Tryz.underlying0 Tryz.underlying2 Tryz.underlying3 Tryz.underlying4 Tryz.underlying5 Tryz.underlying9 Tryz.underlying20 Tryz.underlying21 Tryz.underlying22 Tryz.underlying23 Tryz.underlying24 Tryz.underlying25 Tryz.underlying26 Tryz.underlying30 Tryz.underlying31 Tryz.underlying32 Tryz.underlying34 Tryz.underlying36 Tryz.underlying39 Tryz.underlying40 Tryz.underlying41 Tryz.underlying42 Tryz.underlying43 Tryz.underlying44 Tryz.underlying47 Tryz.underlying49 Tryz.underlying50 Tryz.underlying52 Tryz.underlying54 Tryz.underlying58 Tryz.underlying62 Tryz.underlying70 Tryz.underlying71 Tryz.underlying72 Tryz.underlying73 Tryz.underlying76 Tryz.underlying77 Tryz.underlying78 Tryz.underlying90 Tryz.underlying91 Tryz.underlying92 Tryz.underlying100 Tryz.underlying107 Tryz.underlying109 Tryz.underlying110 Tryz.underlying111 Tryz.underlying113 Tryz.underlying115 Tryz.underlying117 Tryz.underlying129 Tryz.underlying130 Tryz.underlying133 Tryz.underlying137 Tryz.underlying140 Tryz.underlying141 Tryz.underlying142 Tryz.underlying143 Tryz.underlying144 Tryz.underlying145 Tryz.underlying152 Tryz.underlying156 Tryz.underlying160 Tryz.underlying162 Tryz.underlying163 Tryz.underlying164 Tryz.underlying167 Tryz.underlying170 Tryz.underlying171 Tryz.underlying173 Tryz.underlying180 Tryz.underlying187 Tryz.underlying188 Tryz.underlying198 Tryz.underlying199 Tryz.underlying202 Tryz.underlying203 Tryz.underlying204 Tryz.underlying206 Tryz.underlying209 Tryz.underlying212 Tryz.underlying217 Tryz.underlying220 Tryz.underlying223 Tryz.underlying229 Tryz.underlying230 Tryz.underlying236 Tryz.underlying238 Tryz.underlying240 Tryz.underlying244 Tryz.underlying249 Tryz.underlying251 Tryz.underlying253 Tryz.underlying254 Tryz.underlying255 Tryz.underlying259 Tryz.underlying262 Tryz.underlying263
@[simp] def sz2:sizeOf? Tryz.prog 2=some 1:=by kernel_rfl
@[simp] def zs3:zeroVs? Tryz.prog 3=some [.d (.int .i64 0)]:=by kernel_rfl
@[simp] def al3 (h:List Am.Obj):zcv Tryz.prog h 3=some (.ptr h.length 0,h++[.box [.d (.int .i64 0)]]):=zbn zs3
@[simp] def zKP (parts:List (Nat × V)):zbc Tryz.prog 24 parts=(zcq (λi=>[(0,1),(1,1)][i]?) [.d (.int .u32 0),.nilS] parts).map zcp:=zan (by kernel_rfl) (by kernel_rfl)
@[simp] def zJp:zeroVs? Tryz.prog 25=some [.d (.int .u32 0),.nilS]:=by kernel_rfl
@[simp] def zKQ (h:List Am.Obj):zcv Tryz.prog h 25=some (.ptr h.length 0,h++[.box [.d (.int .u32 0),.nilS]]):=zbn zJp
@[simp] def zKR (parts:List (Nat × V)):zbc Tryz.prog 25 parts=(zcq (λi=>[(0,1),(1,1)][i]?) [.d (.int .u32 0),.nilS] parts).map zcp:=zan (by kernel_rfl) (by kernel_rfl)
@[simp] def sz0:sizeOf? Tryz.prog 0=some 1/\agg? Tryz.prog 0=some false/\agg? Tryz.prog 2=some false/\zeroVs? Tryz.prog 2=some [.d (.int .i64 0)]/\(zero? Tryz.prog 2).isSome=true/\appElem? Tryz.prog 2=some 1/\makeElem? Tryz.prog 2=some (1,.int .i64 0)/\zeroD? Tryz.prog 2=some (.int .i64 0)/\sizeOf? Tryz.prog 3=some 1/\agg? Tryz.prog 3=some false/\(zero? Tryz.prog 3).isSome=true/\appElem? Tryz.prog 3=some 1/\zeroD? Tryz.prog 3=some (.int .i64 0)/\sizeOf? Tryz.prog 4=some 1/\agg? Tryz.prog 4=some false/\zeroVs? Tryz.prog 4=some [.d (.bool false)]/\(zero? Tryz.prog 4).isSome=true/\appElem? Tryz.prog 4=some 1/\makeElem? Tryz.prog 4=some (1,.bool false)/\zeroD? Tryz.prog 4=some (.bool false)/\sizeOf? Tryz.prog 5=some 1/\agg? Tryz.prog 5=some false/\zeroVs? Tryz.prog 5=some [.d (.int .u8 0)]/\(zero? Tryz.prog 5).isSome=true/\appElem? Tryz.prog 5=some 1/\makeElem? Tryz.prog 5=some (1,.int .u8 0)/\zeroD? Tryz.prog 5=some (.int .u8 0)/\sizeOf? Tryz.prog 9=some 1/\agg? Tryz.prog 9=some false/\zeroVs? Tryz.prog 9=some [.d (.str ⟨#[]⟩)]/\(zero? Tryz.prog 9).isSome=true/\appElem? Tryz.prog 9=some 1/\zeroD? Tryz.prog 9=some (.str ⟨#[]⟩)/\sizeOf? Tryz.prog 20=some 1/\agg? Tryz.prog 20=some false/\sizeOf? Tryz.prog 21=some 1/\agg? Tryz.prog 21=some false/\zeroVs? Tryz.prog 21=some [.d (.int .i32 0)]/\appElem? Tryz.prog 21=some 1/\zeroD? Tryz.prog 21=some (.int .i32 0)/\sizeOf? Tryz.prog 22=some 1/\agg? Tryz.prog 22=some false/\sizeOf? Tryz.prog 23=some 1/\agg? Tryz.prog 23=some false/\za3 Tryz.prog 23=4/\sizeOf? Tryz.prog 24=some 2/\agg? Tryz.prog 24=some true/\fieldOff? Tryz.prog 24 0=some (0,22)/\fieldOff? Tryz.prog 24 1=some (1,23)/\sizeOf? Tryz.prog 25=some 2/\agg? Tryz.prog 25=some true/\fieldOff? Tryz.prog 25 0=some (0,22)/\fieldOff? Tryz.prog 25 1=some (1,23)/\sizeOf? Tryz.prog 26=some 1/\agg? Tryz.prog 26=some false/\zeroVs? Tryz.prog 26=some [.nilS]/\(zero? Tryz.prog 26).isSome=true/\appElem? Tryz.prog 26=some 1/\zeroD? Tryz.prog 26=some (.list [])/\za3 Tryz.prog 26=1:=by and_intros<;>kernel_rfl
@[simp] def zJq:zeroVs? Tryz.prog 30=some [.nilS]:=by kernel_rfl
@[simp] def zKS (h:List Am.Obj):zcv Tryz.prog h 30=some (.ptr h.length 0,h++[.box [.nilS]]):=zbn zJq
@[simp] def zJr:zeroVs? Tryz.prog 31=some [.d (.int .i64 0)]:=by kernel_rfl
@[simp] def zKT (h:List Am.Obj):zcv Tryz.prog h 31=some (.ptr h.length 0,h++[.box [.d (.int .i64 0)]]):=zbn zJr
@[simp] def zJs:zeroVs? Tryz.prog 34=some [.nilS]:=by kernel_rfl
@[simp] def zKU (h:List Am.Obj):zcv Tryz.prog h 34=some (.ptr h.length 0,h++[.box [.nilS]]):=zbn zJs
@[simp] def zKV (parts:List (Nat × V)):zbc Tryz.prog 40 parts=(zcq (λi=>[(0,1),(1,1),(2,1)][i]?) [.d (.int .u8 0),.d (.int .i64 0),.d (.str ⟨#[]⟩)] parts).map zcp:=zan (by kernel_rfl) (by kernel_rfl)
@[simp] def zJt:zeroVs? Tryz.prog 41=some [.d (.int .u8 0),.d (.int .i64 0),.d (.str ⟨#[]⟩)]:=by kernel_rfl
@[simp] def zKW (h:List Am.Obj):zcv Tryz.prog h 41=some (.ptr h.length 0,h++[.box [.d (.int .u8 0),.d (.int .i64 0),.d (.str ⟨#[]⟩)]]):=zbn zJt
@[simp] def zKX (parts:List (Nat × V)):zbc Tryz.prog 41 parts=(zcq (λi=>[(0,1),(1,1),(2,1)][i]?) [.d (.int .u8 0),.d (.int .i64 0),.d (.str ⟨#[]⟩)] parts).map zcp:=zan (by kernel_rfl) (by kernel_rfl)
@[simp] def zKY (parts:List (Nat × V)):zbc Tryz.prog 43 parts=(zcq (λi=>[(0,1),(1,1),(2,3),(5,1)][i]?) [.d (.int .u8 0),.d (.int .u32 0),.d (.int .u8 0),.d (.int .i64 0),.d (.str ⟨#[]⟩),.nilS] parts).map zcp:=zan (by kernel_rfl) (by kernel_rfl)
@[simp] def zJu:zeroVs? Tryz.prog 44=some [.d (.int .u8 0),.d (.int .u32 0),.d (.int .u8 0),.d (.int .i64 0),.d (.str ⟨#[]⟩),.nilS]:=by kernel_rfl
@[simp] def zKZ (h:List Am.Obj):zcv Tryz.prog h 44=some (.ptr h.length 0,h++[.box [.d (.int .u8 0),.d (.int .u32 0),.d (.int .u8 0),.d (.int .i64 0),.d (.str ⟨#[]⟩),.nilS]]):=zbn zJu
@[simp] def zK0 (parts:List (Nat × V)):zbc Tryz.prog 44 parts=(zcq (λi=>[(0,1),(1,1),(2,3),(5,1)][i]?) [.d (.int .u8 0),.d (.int .u32 0),.d (.int .u8 0),.d (.int .i64 0),.d (.str ⟨#[]⟩),.nilS] parts).map zcp:=zan (by kernel_rfl) (by kernel_rfl)
@[simp] def zJv:zeroVs? Tryz.prog 49=some [.d .nilP]:=by kernel_rfl
@[simp] def zK1 (h:List Am.Obj):zcv Tryz.prog h 49=some (.ptr h.length 0,h++[.box [.d .nilP]]):=zbn zJv
@[simp] def zK2:sizeOf? Tryz.prog 30=some 1/\agg? Tryz.prog 30=some false/\za3 Tryz.prog 30=1/\sizeOf? Tryz.prog 31=some 1/\agg? Tryz.prog 31=some false/\sizeOf? Tryz.prog 32=some 1/\agg? Tryz.prog 32=some false/\sizeOf? Tryz.prog 34=some 1/\agg? Tryz.prog 34=some false/\za3 Tryz.prog 34=1/\sizeOf? Tryz.prog 36=some 1/\agg? Tryz.prog 36=some false/\sizeOf? Tryz.prog 39=some 1/\agg? Tryz.prog 39=some false/\sizeOf? Tryz.prog 40=some 3/\agg? Tryz.prog 40=some true/\fieldOff? Tryz.prog 40 0=some (0,39)/\fieldOff? Tryz.prog 40 1=some (1,2)/\fieldOff? Tryz.prog 40 2=some (2,9)/\zce Tryz.prog 40=some [(0,0),(1,0),(2,2)]/\sizeOf? Tryz.prog 41=some 3/\agg? Tryz.prog 41=some true/\(zero? Tryz.prog 41).isSome=true/\appElem? Tryz.prog 41=some 3/\fieldOff? Tryz.prog 41 0=some (0,39)/\fieldOff? Tryz.prog 41 1=some (1,2)/\fieldOff? Tryz.prog 41 2=some (2,9)/\zce Tryz.prog 41=some [(0,0),(1,0),(2,2)]/\zeroD? Tryz.prog 41=some (.agg [.int .u8 0,.int .i64 0,.str ⟨#[]⟩])/\sizeOf? Tryz.prog 42=some 1/\agg? Tryz.prog 42=some false/\za3 Tryz.prog 42=6/\sizeOf? Tryz.prog 43=some 6/\agg? Tryz.prog 43=some true/\fieldOff? Tryz.prog 43 0=some (0,5)/\fieldOff? Tryz.prog 43 1=some (1,22)/\fieldOff? Tryz.prog 43 2=some (2,41)/\fieldOff? Tryz.prog 43 3=some (5,42)/\sizeOf? Tryz.prog 44=some 6/\agg? Tryz.prog 44=some true/\appElem? Tryz.prog 44=some 6/\fieldOff? Tryz.prog 44 0=some (0,5)/\fieldOff? Tryz.prog 44 1=some (1,22)/\fieldOff? Tryz.prog 44 2=some (2,41)/\fieldOff? Tryz.prog 44 3=some (5,42)/\zeroD? Tryz.prog 44=some (.agg [.int .u8 0,.int .u32 0,.int .u8 0,.int .i64 0,.str ⟨#[]⟩,.list []])/\sizeOf? Tryz.prog 47=some 1/\agg? Tryz.prog 47=some false/\sizeOf? Tryz.prog 49=some 1/\agg? Tryz.prog 49=some false/\sizeOf? Tryz.prog 50=some 1/\agg? Tryz.prog 50=some false/\sizeOf? Tryz.prog 52=some 1/\agg? Tryz.prog 52=some false/\sizeOf? Tryz.prog 54=some 1/\agg? Tryz.prog 54=some false/\sizeOf? Tryz.prog 58=some 1/\agg? Tryz.prog 58=some false/\zeroVs? Tryz.prog 58=some [.nilS]/\(zero? Tryz.prog 58).isSome=true:=by and_intros<;>kernel_rfl
@[simp] def zK3 (parts:List (Nat × V)):zbc Tryz.prog 72 parts=(zcq (λi=>[(0,1),(1,1),(2,1),(3,1)][i]?) [.d (.int .u32 0),.d (.str ⟨#[]⟩),.d (.int .u8 0),.d (.bool false)] parts).map zcp:=zan (by kernel_rfl) (by kernel_rfl)
@[simp] def zJw:zeroVs? Tryz.prog 73=some [.d (.int .u32 0),.d (.str ⟨#[]⟩),.d (.int .u8 0),.d (.bool false)]:=by kernel_rfl
@[simp] def zK4 (h:List Am.Obj):zcv Tryz.prog h 73=some (.ptr h.length 0,h++[.box [.d (.int .u32 0),.d (.str ⟨#[]⟩),.d (.int .u8 0),.d (.bool false)]]):=zbn zJw
@[simp] def zK5 (parts:List (Nat × V)):zbc Tryz.prog 73 parts=(zcq (λi=>[(0,1),(1,1),(2,1),(3,1)][i]?) [.d (.int .u32 0),.d (.str ⟨#[]⟩),.d (.int .u8 0),.d (.bool false)] parts).map zcp:=zan (by kernel_rfl) (by kernel_rfl)
@[simp] def zK6 (parts:List (Nat × V)):zbc Tryz.prog 76 parts=(zcq (λi=>[(0,1),(1,1),(2,1),(3,1),(4,3),(7,3)][i]?) [.d (.int .i64 0),.d (.int .i64 0),.d (.bool false),.d (.bool false),.d (.int .u8 0),.d (.int .i64 0),.d (.str ⟨#[]⟩),.d (.int .u8 0),.d (.int .i64 0),.d (.str ⟨#[]⟩)] parts).map zcp:=zan (by kernel_rfl) (by kernel_rfl)
@[simp] def zJx:zeroVs? Tryz.prog 77=some [.d (.int .i64 0),.d (.int .i64 0),.d (.bool false),.d (.bool false),.d (.int .u8 0),.d (.int .i64 0),.d (.str ⟨#[]⟩),.d (.int .u8 0),.d (.int .i64 0),.d (.str ⟨#[]⟩)]:=by kernel_rfl
@[simp] def zK7 (h:List Am.Obj):zcv Tryz.prog h 77=some (.ptr h.length 0,h++[.box [.d (.int .i64 0),.d (.int .i64 0),.d (.bool false),.d (.bool false),.d (.int .u8 0),.d (.int .i64 0),.d (.str ⟨#[]⟩),.d (.int .u8 0),.d (.int .i64 0),.d (.str ⟨#[]⟩)]]):=zbn zJx
@[simp] def zK8 (parts:List (Nat × V)):zbc Tryz.prog 77 parts=(zcq (λi=>[(0,1),(1,1),(2,1),(3,1),(4,3),(7,3)][i]?) [.d (.int .i64 0),.d (.int .i64 0),.d (.bool false),.d (.bool false),.d (.int .u8 0),.d (.int .i64 0),.d (.str ⟨#[]⟩),.d (.int .u8 0),.d (.int .i64 0),.d (.str ⟨#[]⟩)] parts).map zcp:=zan (by kernel_rfl) (by kernel_rfl)
@[simp] def zK9:appElem? Tryz.prog 58=some 1/\zeroD? Tryz.prog 58=some (.list [])/\za3 Tryz.prog 58=3/\sizeOf? Tryz.prog 62=some 1/\agg? Tryz.prog 62=some false/\sizeOf? Tryz.prog 70=some 1/\agg? Tryz.prog 70=some false/\zeroVs? Tryz.prog 70=some [.d .nilI]/\(zero? Tryz.prog 70).isSome=true/\appElem? Tryz.prog 70=some 1/\makeElem? Tryz.prog 70=some (1,.nilI)/\zeroD? Tryz.prog 70=some (.nilI)/\sizeOf? Tryz.prog 71=some 1/\agg? Tryz.prog 71=some false/\zeroVs? Tryz.prog 71=some [.nilS]/\(zero? Tryz.prog 71).isSome=true/\appElem? Tryz.prog 71=some 1/\makeElem? Tryz.prog 71=some (1,.list [])/\zeroD? Tryz.prog 71=some (.list [])/\za3 Tryz.prog 71=1/\sizeOf? Tryz.prog 72=some 4/\agg? Tryz.prog 72=some true/\fieldOff? Tryz.prog 72 0=some (0,22)/\fieldOff? Tryz.prog 72 1=some (1,9)/\fieldOff? Tryz.prog 72 2=some (2,39)/\fieldOff? Tryz.prog 72 3=some (3,4)/\zce Tryz.prog 72=some [(0,0),(1,2),(2,0),(3,1)]/\sizeOf? Tryz.prog 73=some 4/\agg? Tryz.prog 73=some true/\(zero? Tryz.prog 73).isSome=true/\appElem? Tryz.prog 73=some 4/\fieldOff? Tryz.prog 73 0=some (0,22)/\fieldOff? Tryz.prog 73 1=some (1,9)/\fieldOff? Tryz.prog 73 2=some (2,39)/\fieldOff? Tryz.prog 73 3=some (3,4)/\zce Tryz.prog 73=some [(0,0),(1,2),(2,0),(3,1)]/\zeroD? Tryz.prog 73=some (.agg [.int .u32 0,.str ⟨#[]⟩,.int .u8 0,.bool false])/\sizeOf? Tryz.prog 76=some 10/\agg? Tryz.prog 76=some true/\fieldOff? Tryz.prog 76 0=some (0,3)/\fieldOff? Tryz.prog 76 1=some (1,3)/\fieldOff? Tryz.prog 76 2=some (2,4)/\fieldOff? Tryz.prog 76 3=some (3,4)/\fieldOff? Tryz.prog 76 4=some (4,41)/\fieldOff? Tryz.prog 76 5=some (7,41)/\zce Tryz.prog 76=some [(0,0),(1,0),(2,1),(3,1),(4,0),(5,0),(6,2),(7,0),(8,0),(9,2)]/\sizeOf? Tryz.prog 77=some 10/\agg? Tryz.prog 77=some true/\(zero? Tryz.prog 77).isSome=true/\appElem? Tryz.prog 77=some 10/\fieldOff? Tryz.prog 77 0=some (0,3)/\fieldOff? Tryz.prog 77 1=some (1,3)/\fieldOff? Tryz.prog 77 2=some (2,4)/\fieldOff? Tryz.prog 77 3=some (3,4)/\fieldOff? Tryz.prog 77 4=some (4,41)/\fieldOff? Tryz.prog 77 5=some (7,41)/\zce Tryz.prog 77=some [(0,0),(1,0),(2,1),(3,1),(4,0),(5,0),(6,2),(7,0),(8,0),(9,2)]/\zeroD? Tryz.prog 77=some (.agg [.int .i64 0,.int .i64 0,.bool false,.bool false,.int .u8 0,.int .i64 0,.str ⟨#[]⟩,.int .u8 0,.int .i64 0,.str ⟨#[]⟩])/\sizeOf? Tryz.prog 78=some 1/\agg? Tryz.prog 78=some false:=by and_intros<;>kernel_rfl
@[simp] def zJy (parts:List (Nat × V)):zbc Tryz.prog 110 parts=(zcq (λi=>[(0,2),(2,1),(3,1),(4,1)][i]?) [.d (.int .u32 0),.nilS,.nilS,.d (.int .i64 0),.nilS] parts).map zcp:=zan (by kernel_rfl) (by kernel_rfl)
@[simp] def zJz (parts:List (Nat × V)):zbc Tryz.prog 111 parts=(zcq (λi=>[(0,2),(2,1),(3,1),(4,1)][i]?) [.d (.int .u32 0),.nilS,.nilS,.d (.int .i64 0),.nilS] parts).map zcp:=zan (by kernel_rfl) (by kernel_rfl)
@[simp] def zGL:zeroVs? Tryz.prog 115=some [.d (.bool false),.d (.bool false),.d (.bool false)]:=by kernel_rfl
@[simp] def zJA (h:List Am.Obj):zcv Tryz.prog h 115=some (.ptr h.length 0,h++[.box [.d (.bool false),.d (.bool false),.d (.bool false)]]):=zbn zGL
@[simp] def zJB (parts:List (Nat × V)):zbc Tryz.prog 115 parts=(zcq (λi=>some (i*1,1)) [.d (.bool false),.d (.bool false),.d (.bool false)] parts).map zcp:=zeS (by kernel_rfl) Tryz.underlying115 (by kernel_rfl)
@[simp] def zLa:sizeOf? Tryz.prog 90=some 1/\agg? Tryz.prog 90=some false/\zeroVs? Tryz.prog 90=some [.d (.int .u64 0)]/\(zero? Tryz.prog 90).isSome=true/\appElem? Tryz.prog 90=some 1/\makeElem? Tryz.prog 90=some (1,.int .u64 0)/\zeroD? Tryz.prog 90=some (.int .u64 0)/\sizeOf? Tryz.prog 91=some 1/\agg? Tryz.prog 91=some false/\sizeOf? Tryz.prog 92=some 1/\agg? Tryz.prog 92=some false/\sizeOf? Tryz.prog 100=some 1/\agg? Tryz.prog 100=some false/\za3 Tryz.prog 100=1/\sizeOf? Tryz.prog 107=some 1/\agg? Tryz.prog 107=some false/\sizeOf? Tryz.prog 109=some 1/\agg? Tryz.prog 109=some false/\za3 Tryz.prog 109=1/\sizeOf? Tryz.prog 110=some 5/\agg? Tryz.prog 110=some true/\fieldOff? Tryz.prog 110 0=some (0,25)/\fieldOff? Tryz.prog 110 1=some (2,34)/\fieldOff? Tryz.prog 110 2=some (3,3)/\fieldOff? Tryz.prog 110 3=some (4,109)/\sizeOf? Tryz.prog 111=some 5/\agg? Tryz.prog 111=some true/\zeroVs? Tryz.prog 111=some [.d (.int .u32 0),.nilS,.nilS,.d (.int .i64 0),.nilS]/\fieldOff? Tryz.prog 111 0=some (0,25)/\fieldOff? Tryz.prog 111 1=some (2,34)/\fieldOff? Tryz.prog 111 2=some (3,3)/\fieldOff? Tryz.prog 111 3=some (4,109)/\sizeOf? Tryz.prog 113=some 1/\agg? Tryz.prog 113=some false/\zeroVs? Tryz.prog 113=some [.nilS]/\(zero? Tryz.prog 113).isSome=true/\appElem? Tryz.prog 113=some 1/\zeroD? Tryz.prog 113=some (.list [])/\za3 Tryz.prog 113=10/\sizeOf? Tryz.prog 115=some 3/\agg? Tryz.prog 115=some true/\sizeOf? Tryz.prog 117=some 1/\agg? Tryz.prog 117=some false/\sizeOf? Tryz.prog 129=some 1/\agg? Tryz.prog 129=some false/\za3 Tryz.prog 129=1/\sizeOf? Tryz.prog 130=some 1/\agg? Tryz.prog 130=some false/\sizeOf? Tryz.prog 133=some 1/\agg? Tryz.prog 133=some false/\sizeOf? Tryz.prog 137=some 1/\agg? Tryz.prog 137=some false/\sizeOf? Tryz.prog 140=some 1/\agg? Tryz.prog 140=some false/\sizeOf? Tryz.prog 141=some 1/\agg? Tryz.prog 141=some false/\za3 Tryz.prog 141=1/\sizeOf? Tryz.prog 142=some 1/\agg? Tryz.prog 142=some false/\za3 Tryz.prog 142=1:=by and_intros<;>kernel_rfl
@[simp] def zJC (parts:List (Nat × V)):zbc Tryz.prog 163 parts=(zcq (λi=>[(0,1),(1,1)][i]?) [.nilS,.d (.bool false)] parts).map zcp:=zan (by kernel_rfl) (by kernel_rfl)
@[simp] def zJD (parts:List (Nat × V)):zbc Tryz.prog 164 parts=(zcq (λi=>[(0,1),(1,1)][i]?) [.nilS,.d (.bool false)] parts).map zcp:=zan (by kernel_rfl) (by kernel_rfl)
@[simp] def zJE (parts:List (Nat × V)):zbc Tryz.prog 203 parts=(zcq (λi=>[(0,1),(1,1)][i]?) [.nilS,.d (.int .i64 0)] parts).map zcp:=zan (by kernel_rfl) (by kernel_rfl)
@[simp] def zJF (parts:List (Nat × V)):zbc Tryz.prog 204 parts=(zcq (λi=>[(0,1),(1,1)][i]?) [.nilS,.d (.int .i64 0)] parts).map zcp:=zan (by kernel_rfl) (by kernel_rfl)
@[simp] def zJG:sizeOf? Tryz.prog 143=some 1/\agg? Tryz.prog 143=some false/\za3 Tryz.prog 143=1/\sizeOf? Tryz.prog 144=some 1/\agg? Tryz.prog 144=some false/\sizeOf? Tryz.prog 145=some 1/\agg? Tryz.prog 145=some false/\sizeOf? Tryz.prog 152=some 1/\agg? Tryz.prog 152=some false/\sizeOf? Tryz.prog 156=some 1/\agg? Tryz.prog 156=some false/\za3 Tryz.prog 156=1/\sizeOf? Tryz.prog 160=some 1/\agg? Tryz.prog 160=some false/\sizeOf? Tryz.prog 162=some 1/\agg? Tryz.prog 162=some false/\sizeOf? Tryz.prog 163=some 2/\agg? Tryz.prog 163=some true/\fieldOff? Tryz.prog 163 0=some (0,30)/\fieldOff? Tryz.prog 163 1=some (1,4)/\sizeOf? Tryz.prog 164=some 2/\agg? Tryz.prog 164=some true/\zeroVs? Tryz.prog 164=some [.nilS,.d (.bool false)]/\fieldOff? Tryz.prog 164 0=some (0,30)/\fieldOff? Tryz.prog 164 1=some (1,4)/\sizeOf? Tryz.prog 167=some 1/\agg? Tryz.prog 167=some false/\sizeOf? Tryz.prog 170=some 1/\agg? Tryz.prog 170=some false/\sizeOf? Tryz.prog 171=some 1/\agg? Tryz.prog 171=some false/\sizeOf? Tryz.prog 173=some 1/\agg? Tryz.prog 173=some false/\sizeOf? Tryz.prog 180=some 1/\agg? Tryz.prog 180=some false/\sizeOf? Tryz.prog 187=some 1/\agg? Tryz.prog 187=some false/\sizeOf? Tryz.prog 188=some 1/\agg? Tryz.prog 188=some false/\sizeOf? Tryz.prog 198=some 1/\agg? Tryz.prog 198=some false/\za3 Tryz.prog 198=1/\sizeOf? Tryz.prog 199=some 1/\agg? Tryz.prog 199=some false/\sizeOf? Tryz.prog 202=some 1/\agg? Tryz.prog 202=some false/\sizeOf? Tryz.prog 203=some 2/\agg? Tryz.prog 203=some true/\fieldOff? Tryz.prog 203 0=some (0,30)/\fieldOff? Tryz.prog 203 1=some (1,31)/\sizeOf? Tryz.prog 204=some 2/\agg? Tryz.prog 204=some true/\zeroVs? Tryz.prog 204=some [.nilS,.d (.int .i64 0)]/\fieldOff? Tryz.prog 204 0=some (0,30)/\fieldOff? Tryz.prog 204 1=some (1,31)/\sizeOf? Tryz.prog 206=some 1/\agg? Tryz.prog 206=some false/\sizeOf? Tryz.prog 209=some 1/\agg? Tryz.prog 209=some false/\sizeOf? Tryz.prog 212=some 5:=by and_intros<;>kernel_rfl
@[simp] def zGM:zeroVs? Tryz.prog 212=some [.d .nilF,.d .nilF,.d .nilF,.d .nilF,.d .nilF]:=by kernel_rfl
@[simp] def zJH (h:List Am.Obj):zcv Tryz.prog h 212=some (.ptr h.length 0,h++[.box [.d .nilF,.d .nilF,.d .nilF,.d .nilF,.d .nilF]]):=zbn zGM
@[simp] def zJI (parts:List (Nat × V)):zbc Tryz.prog 212 parts=(zcq (λi=>some (i*1,1)) [.d .nilF,.d .nilF,.d .nilF,.d .nilF,.d .nilF] parts).map zcp:=zeS (by kernel_rfl) Tryz.underlying212 (by kernel_rfl)
@[simp] def zJJ (parts:List (Nat × V)):zbc Tryz.prog 217 parts=(zcq (λi=>some (i*1,1)) [.d (.int .u32 0),.d (.int .u32 0),.d (.int .u32 0),.d (.int .u32 0),.d (.int .u32 0),.d (.int .u32 0),.d (.int .u32 0),.d (.int .u32 0),.d (.int .u32 0),.d (.int .u32 0),.d (.int .u32 0),.d (.int .u32 0),.d (.int .u32 0),.d (.int .u32 0),.d (.int .u32 0),.d (.int .u32 0)] parts).map zcp:=zeS (by kernel_rfl) Tryz.underlying217 (by kernel_rfl)
@[simp] def zGN:zeroVs? Tryz.prog 244=some [.d (.int .u64 0)]:=by kernel_rfl
@[simp] def zJK (h:List Am.Obj):zcv Tryz.prog h 244=some (.ptr h.length 0,h++[.box [.d (.int .u64 0)]]):=zbn zGN
@[simp] def zJL (parts:List (Nat × V)):zbc Tryz.prog 254 parts=(zcq (λi=>[(0,1),(1,1)][i]?) [.nilS,.d (.int .i64 0)] parts).map zcp:=zan (by kernel_rfl) (by kernel_rfl)
@[simp] def zJM (parts:List (Nat × V)):zbc Tryz.prog 255 parts=(zcq (λi=>[(0,1),(1,1)][i]?) [.nilS,.d (.int .i64 0)] parts).map zcp:=zan (by kernel_rfl) (by kernel_rfl)
@[simp] def zJN:agg? Tryz.prog 212=some true/\sizeOf? Tryz.prog 217=some 16/\agg? Tryz.prog 217=some true/\sizeOf? Tryz.prog 220=some 1/\agg? Tryz.prog 220=some false/\sizeOf? Tryz.prog 223=some 1/\agg? Tryz.prog 223=some false/\sizeOf? Tryz.prog 229=some 1/\agg? Tryz.prog 229=some false/\sizeOf? Tryz.prog 230=some 1/\agg? Tryz.prog 230=some false/\sizeOf? Tryz.prog 236=some 1/\agg? Tryz.prog 236=some false/\sizeOf? Tryz.prog 238=some 1/\agg? Tryz.prog 238=some false/\sizeOf? Tryz.prog 240=some 1/\agg? Tryz.prog 240=some false/\sizeOf? Tryz.prog 244=some 1/\agg? Tryz.prog 244=some false/\sizeOf? Tryz.prog 249=some 1/\agg? Tryz.prog 249=some false/\sizeOf? Tryz.prog 251=some 1/\agg? Tryz.prog 251=some false/\sizeOf? Tryz.prog 253=some 1/\agg? Tryz.prog 253=some false/\sizeOf? Tryz.prog 254=some 2/\agg? Tryz.prog 254=some true/\fieldOff? Tryz.prog 254 0=some (0,30)/\fieldOff? Tryz.prog 254 1=some (1,31)/\sizeOf? Tryz.prog 255=some 2/\agg? Tryz.prog 255=some true/\zeroVs? Tryz.prog 255=some [.nilS,.d (.int .i64 0)]/\fieldOff? Tryz.prog 255 0=some (0,30)/\fieldOff? Tryz.prog 255 1=some (1,31)/\sizeOf? Tryz.prog 259=some 1/\agg? Tryz.prog 259=some false/\sizeOf? Tryz.prog 262=some 1/\agg? Tryz.prog 262=some false/\sizeOf? Tryz.prog 263=some 1/\agg? Tryz.prog 263=some false:=by and_intros<;>kernel_rfl
def K:zhA:=λf b=>match f,b with
 |4,0=>some [(4,0),(7,0),(9,0),(14,0),(15,0),(16,0),(17,0),(18,1),(19,0)]
 |5,0=>some [(0,0),(5,0),(9,0),(10,0)]
 |7,0=>some [(2,0),(5,0),(7,0),(9,0),(11,0)]
 |7,2=>some [(2,0),(5,0),(9,0),(12,0),(13,0)]
 |10,0=>some [(1,0),(3,0),(4,0)]
 |11,0=>some [(0,0),(3,1),(4,0)]
 |12,0=>some [(1,0),(2,0),(3,0),(6,0),(7,0),(35,0),(36,0),(37,0)]
 |12,2=>some [(3,0),(6,0),(7,0),(12,0),(13,0)]
 |12,4=>some [(3,0),(6,0),(7,0),(12,0),(13,0),(14,0),(67,0),(68,0),(69,0)]
 |13,0=>some [(0,0),(3,1),(4,0)]
 |14,0=>some [(1,0),(2,0),(3,0),(9,0)]
 |14,2=>some [(3,0),(10,0),(11,0),(12,0),(13,0)]
 |14,4=>some [(3,0),(10,0),(11,0),(12,0),(13,0),(14,0)]
 |14,6=>some [(10,0),(18,0),(19,0)]
 |15,0=>some [(1,0),(3,0)]
 |17,0=>some [(2,0),(3,0),(7,1),(8,0),(9,0)]
 |18,0=>some [(2,0),(3,0),(6,0)]
 |18,2=>some [(2,0),(3,0),(6,0),(9,0),(10,0),(75,0),(76,0)]
 |19,0=>some [(2,0),(3,0),(4,1),(5,0),(6,0),(7,0),(8,0)]
 |19,2=>some [(2,0),(3,0),(4,1),(5,0),(6,0),(7,0),(8,0),(50,0),(51,0),(52,0)]
 |20,0=>some [(4,0),(7,0),(10,1),(11,0),(12,0),(13,0)]
 |20,2=>some [(4,0),(7,0),(10,1),(11,0),(12,0),(13,0),(14,10),(15,0)]
 |20,4=>some [(4,0),(7,0),(10,1),(11,0),(12,0),(13,0),(16,0)]
 |22,1=>some [(2,0),(3,0),(4,0),(7,0),(8,0)]
 |22,3=>some [(2,0),(3,0),(4,0),(9,0),(10,0)]
 |24,0=>some [(3,1),(4,0),(5,0)]
 |26,0=>some [(0,0),(3,1),(4,0)]
 |30,0=>some [(2,0),(3,0),(5,0)]
 |33,0=>some [(0,0),(2,0),(3,0),(4,0),(5,0),(6,0),(7,0)]
 |34,0=>some [(0,0),(1,0),(5,3),(6,0)]
 |36,0=>some [(0,0),(1,0),(5,0)]
 |37,0=>some [(0,0),(3,3),(4,0)]
 |38,0=>some [(0,0),(3,3),(4,0)]
 |39,0=>some [(1,0),(3,0),(22,0),(23,0),(24,0)]
 |40,0=>some [(1,0),(16,0),(17,0),(18,0)]
 |41,0=>some [(3,0),(18,0),(19,0),(20,0)]
 |42,0=>some [(0,0),(3,1)]
 |44,0=>some [(1,0),(5,1),(8,0),(9,0),(10,0)]
 |45,0=>some [(0,0),(1,0),(26,0),(27,0),(28,0)]
 |45,2=>some [(0,0),(8,0),(9,1),(10,1),(11,1),(47,0),(48,0),(49,0)]
 |47,0=>some [(2,0),(3,0),(4,0),(5,0),(6,0),(18,0),(19,0),(20,0)]
 |49,0=>some [(0,0),(3,1),(4,0)]
 |50,0=>some [(1,0),(2,0),(5,0)]
 |53,0=>some [(0,0),(1,0),(5,1),(6,0)]
 |56,0=>some [(3,0),(5,0),(6,0)]
 |57,0=>some [(0,0),(1,0),(5,0)]
 |58,0=>some [(1,0),(2,0),(5,0),(6,0)]
 |60,0=>some [(0,0),(6,0),(9,0),(10,0),(11,0)]
 |60,2=>some [(0,0),(6,0),(9,0),(10,0),(11,0),(12,0),(13,0),(117,0),(118,0),(119,0)]
 |60,4=>some [(0,0),(6,0),(9,0),(10,0),(11,0),(12,0),(13,0),(117,0),(118,0),(119,0),(154,0),(155,0),(156,0)]
 |61,0=>some [(0,0),(1,0),(12,0),(13,0)]
 |63,1=>some [(2,0),(4,0),(6,0),(7,0),(9,0),(26,0),(27,0),(28,0)]
 |64,1=>some [(2,0),(4,0),(7,0),(20,0),(21,0),(22,0)]
 |64,3=>some [(2,0),(4,0),(10,0),(37,0),(38,0),(39,0)]
 |66,0=>some [(2,0),(3,0),(4,0),(6,0),(7,0),(8,0)]
 |66,2=>some [(2,0),(3,0),(4,0),(6,0),(7,0),(8,0),(9,0),(10,0),(11,0)]
 |66,4=>some [(2,0),(3,0),(4,0),(6,0),(7,0),(8,0),(9,0),(10,0),(11,0),(12,0)]
 |67,0=>some [(1,0),(2,0),(5,0),(6,0)]
 |68,0=>some [(2,0),(3,0),(5,0)]
 |69,0=>some [(1,0),(2,0),(5,0)]
 |74,0=>some [(0,0),(1,0),(5,0)]
 |78,0=>some [(0,0),(5,1),(6,1),(7,0),(8,0)]
 |80,0=>some [(0,0),(6,0),(1000007,0),(9,0)]
 |82,0=>some [(19,0)]
 |87,0=>some [(0,0),(1,0),(2,0),(4,0)]
 |90,0=>some [(3,0),(11,0),(12,0),(13,0)]
 |91,0=>some [(0,0),(4,1),(11,0)]
 |92,0=>some [(0,0),(3,0),(4,0),(5,1),(20,0),(21,0),(22,0)]
 |94,0=>some [(0,0),(6,0)]
 |96,0=>some [(0,0),(1,0),(7,0)]
 |97,0=>some [(6,0)]
 |107,0=>some [(2,0),(5,0),(6,0),(7,0)]
 |109,0=>some [(0,0),(1,0),(4,0)]
 |111,0=>some [(1,0),(2,0),(23,0),(24,0),(25,0)]
 |112,1=>some [(3,0),(44,0),(45,0),(46,0)]
 |115,0=>some [(2,0),(3,0),(4,0),(6,0),(7,0),(10,0)]
 |115,2=>some [(2,0),(3,0),(4,0),(6,0),(7,0),(8,0),(10,0),(13,0)]
 |121,0=>some [(0,0),(1,0),(5,0),(6,0)]
 |121,2=>some [(0,0),(1,0),(5,0),(6,0),(7,0),(8,0)]
 |121,4=>some [(0,0),(1,0),(5,0),(6,0),(7,0),(8,0),(9,0)]
 |122,0=>some [(0,0),(6,0),(7,0),(8,0),(9,0)]
 |124,0=>some [(0,0),(1,0),(7,0),(8,0)]
 |125,0=>some [(0,0),(1,0),(7,0),(8,0)]
 |126,0=>some [(1,0),(6,0),(36,0),(37,0),(38,0)]
 |126,2=>some [(1,0),(6,0),(7,0),(8,0),(9,0),(36,0),(37,0),(38,0)]
 |128,0=>some [(0,0),(5,1),(6,1),(9,0),(10,0),(11,0)]
 |132,0=>some [(0,0),(3,0)]
 |132,2=>some [(0,0),(3,0),(4,0),(5,0)]
 |133,0=>some [(0,0),(1,0),(6,0),(7,0),(8,0)]
 |141,0=>some [(3,0),(5,0)]
 |143,0=>some [(0,0),(9,0),(10,0),(11,0)]
 |149,0=>some [(5,0),(8,0),(9,0),(10,0)]
 |152,0=>some [(0,0),(1,0),(2,0),(9,0),(12,0),(56,0),(57,0),(58,0)]
 |152,2=>some [(1000015,0),(17,0),(79,0),(80,0),(81,0)]
 |157,0=>some [(5,0),(6,0),(21,0)]
 |157,2=>some [(5,0),(6,0),(8,0),(9,0),(21,0),(38,0),(39,0),(40,0)]
 |158,0=>some [(3,0),(6,0),(7,0),(8,0)]
 |159,0=>some [(3,1),(6,0),(7,0),(8,0)]
 |160,0=>some [(3,1),(4,0),(7,0),(8,0),(9,0)]
 |161,0=>some [(0,0),(3,1),(4,0)]
 |161,2=>some [(0,0),(3,1),(4,0),(5,0)]
 |162,0=>some [(0,0),(3,0),(4,0),(18,0),(19,0),(20,0)]
 |162,2=>some [(3,0),(4,0),(7,0),(47,0),(48,0),(49,0)]
 |163,0=>some [(3,0),(4,0),(16,0),(17,0),(18,0)]
 |164,0=>some [(0,0),(1,0),(2,0),(3,0),(8,0),(9,0)]
 |177,0=>some [(7,0),(8,0)]
 |178,0=>some [(0,0),(2,0),(9,0),(56,0),(57,0)]
 |178,2=>some [(0,0),(2,0),(9,0),(10,0),(11,0),(56,0),(57,0)]
 |179,1=>some [(8,1),(10,0),(30,0),(31,0),(32,0)]
 |179,3=>some [(8,1),(14,0),(52,0),(53,0),(54,0)]
 |179,5=>some [(8,1),(18,0),(73,0),(74,0),(75,0)]
 |182,0=>some [(0,0),(1,0),(6,0),(7,0),(8,0)]
 |184,0=>some [(0,0),(3,0),(4,0)]
 |185,0=>some [(0,0),(1,0),(2,0),(6,0)]
 |185,2=>some [(0,0),(1,0),(2,0),(6,0),(7,0)]
 |186,0=>some [(0,0),(6,0),(7,0),(8,0),(9,0)]
 |186,2=>some [(0,0),(6,0),(7,0),(10,0)]
 |187,0=>some [(0,0),(1,0),(6,0),(7,0),(8,0),(9,0)]
 |189,0=>some [(0,0),(6,0),(7,0)]
 |190,0=>some [(0,0),(1,0),(2,0),(7,0),(8,0)]
 |190,2=>some [(0,0),(1,0),(2,0),(7,0),(8,0)]
 |190,4=>some [(0,0),(1,0),(2,0),(7,0),(8,0),(9,0)]
 |190,6=>some [(0,0),(1,0),(2,0),(7,0),(8,0),(10,0)]
 |191,0=>some [(0,0),(1,0),(9,0),(10,0)]
 |191,2=>some [(0,0),(1,0),(9,0),(10,0)]
 |191,4=>some [(0,0),(1,0),(9,0),(10,0)]
 |192,0=>some [(0,0),(1,0),(10,0),(11,0)]
 |192,2=>some [(0,0),(1,0),(10,0),(11,0)]
 |192,4=>some [(0,0),(1,0),(10,0),(11,0)]
 |192,6=>some [(0,0),(1,0),(10,0),(11,0)]
 |192,8=>some [(0,0),(1,0),(10,0),(11,0)]
 |195,2=>some [(0,0),(1,0),(6,0),(7,1),(8,0)]
 |196,0=>some [(12,0),(15,1),(85,0),(86,0),(87,0)]
 |199,0=>some [(0,0),(3,0)]
 |199,2=>some [(0,0),(3,0),(4,0),(5,0)]
 |202,0=>some [(0,0),(2,0),(3,0),(8,0)]
 |210,0=>some [(0,0),(1,0),(5,1)]
 |211,0=>some [(0,0),(1,0),(5,0),(6,1)]
 |211,2=>some [(0,0),(5,0),(6,1),(9,1),(104,0),(105,0),(106,0)]
 |212,0=>some [(5,0),(7,1),(36,0),(37,0),(38,0)]
 |214,0=>some [(0,0),(11,1),(45,0),(46,0),(47,0)]
 |215,0=>some [(0,0),(1,0),(2,0),(3,0),(8,0),(9,0)]
 |218,0=>some [(7,0),(8,0)]
 |220,0=>some [(0,0),(1,0),(2,0),(6,0)]
 |220,2=>some [(0,0),(1,0),(2,0),(6,0),(7,0)]
 |221,0=>some [(0,0),(6,0),(7,0),(8,0),(9,0)]
 |221,2=>some [(0,0),(6,0),(7,0),(10,0)]
 |222,0=>some [(0,0),(1,0),(6,0),(7,0),(8,0),(9,0)]
 |224,0=>some [(0,0),(6,0),(7,0)]
 |225,0=>some [(0,0),(1,0),(2,0),(7,0),(8,0)]
 |225,2=>some [(0,0),(1,0),(2,0),(7,0),(8,0)]
 |225,4=>some [(0,0),(1,0),(2,0),(7,0),(8,0),(9,0)]
 |225,6=>some [(0,0),(1,0),(2,0),(7,0),(8,0),(10,0)]
 |226,0=>some [(0,0),(1,0),(9,0),(10,0)]
 |226,2=>some [(0,0),(1,0),(9,0),(10,0)]
 |226,4=>some [(0,0),(1,0),(9,0),(10,0)]
 |227,0=>some [(0,0),(1,0),(10,0),(11,0)]
 |227,2=>some [(0,0),(1,0),(10,0),(11,0)]
 |227,4=>some [(0,0),(1,0),(10,0),(11,0)]
 |227,6=>some [(0,0),(1,0),(10,0),(11,0)]
 |227,8=>some [(0,0),(1,0),(10,0),(11,0)]
 |228,0=>some [(0,0),(2,0),(3,0),(8,0)]
 |_,_=>none
def zpX:List D:=[.int .u32 0,.int .u32 498536548,.int .u32 997073096,.int .u32 651767980,.int .u32 1994146192,.int .u32 1802195444,.int .u32 1303535960,.int .u32 1342533948,.int .u32 3988292384,.int .u32 4027552580,.int .u32 3604390888,.int .u32 3412177804,.int .u32 2607071920,.int .u32 2262029012,.int .u32 2685067896,.int .u32 3183342108]
def G:Nat->Option (List D):=λg=>if g=0 then some zpX else if ([1000046,1000093,1000097,1000128,1000131,1000132,1000164,1000177,1000185,1000186,1000187,1000188]++[1000189,1000190,1000191,1000192,1000198,1000199,1000202,1000205,1000206,1000215,1000216,1000218]++[1000220,1000221,1000222,1000223,1000224,1000225,1000226,1000227,1000228,1000229,1000230,1000231]++[2000065,2000077,2000100,2000130,2000197,2000131,2000198,4900131,4800198,3000017,3000107,3000110]++[3000127,3000027,3000028,3000029,3000031,3000018,4000027,4000028,4000029,4000031,5000087,4500018]++[4700017,4700107,4700110]).contains g then some [] else none
def zJO:splits G 4=false:=by decide +kernel
def zGO:splits G 10=false:=by decide +kernel
def zGP:splits G 11=false:=by decide +kernel
def zGQ:splits G 12=false:=by decide +kernel
def zGR:splits G 13=false:=by decide +kernel
def zGS:splits G 15=false:=by decide +kernel
def zGT:splits G 16=false:=by decide +kernel
def zGU:splits G 17=false:=by decide +kernel
def zGV:splits G 18=false:=by decide +kernel
def zGW:splits G 19=false:=by decide +kernel
def zGX:splits G 20=false:=by decide +kernel
def zGY:splits G 21=false:=by decide +kernel
def zGZ:splits G 22=false:=by decide +kernel
def zG0:splits G 23=false:=by decide +kernel
def zG1:splits G 26=false:=by decide +kernel
@[simp] def zLb:zab G 2=false/\zac G 2=false/\zab G 3=false/\zac G 3=false/\zab G 4=false/\zac G 4=false/\zab G 5=false/\zac G 5=false/\zab G 6=false/\zac G 6=false/\zab G 7=false/\zac G 7=false/\zab G 8=false/\zac G 8=false/\zab G 9=false/\zac G 9=false/\zab G 10=false/\zac G 10=false/\zab G 11=false/\zac G 11=false/\zab G 12=false/\zac G 12=false/\zab G 13=false/\zac G 13=false/\zab G 14=false/\zac G 14=false/\zab G 15=false/\zac G 15=false/\zab G 16=false/\zac G 16=false/\zab G 17=false/\zac G 17=true/\zab G 18=false/\zac G 18=true/\zab G 19=false/\zac G 19=false/\zab G 20=false/\zac G 20=false/\zab G 21=false/\zac G 21=false/\zab G 22=false/\zac G 22=false/\zab G 23=false/\zac G 23=false/\zab G 24=false/\zac G 24=false/\zab G 25=false/\zac G 25=false/\zab G 26=false/\zac G 26=false/\zab G 27=false/\zac G 27=true/\zab G 28=false/\zac G 28=true/\zab G 29=false/\zac G 29=true/\zab G 30=false/\zac G 30=false/\zab G 31=false/\zac G 31=true:=by and_intros<;>decide +kernel
def zG2:splits G 33=false:=by decide +kernel
def zG3:splits G 34=false:=by decide +kernel
def zG4:splits G 36=false:=by decide +kernel
def zG5:splits G 37=false:=by decide +kernel
def zG6:splits G 38=false:=by decide +kernel
def zG7:splits G 39=false:=by decide +kernel
def zG8:splits G 40=false:=by decide +kernel
def zG9:splits G 41=false:=by decide +kernel
def zHa:splits G 42=false:=by decide +kernel
def zHb:splits G 43=false:=by decide +kernel
def zHc:splits G 44=false:=by decide +kernel
def zHd:splits G 45=false:=by decide +kernel
def zHe:splits G 46=false:=by decide +kernel
def zHf:splits G 47=false:=by decide +kernel
def zHg:splits G 48=false:=by decide +kernel
def zHh:splits G 49=false:=by decide +kernel
def zHi:splits G 50=false:=by decide +kernel
def zHj:splits G 53=false:=by decide +kernel
def zHk:splits G 56=false:=by decide +kernel
def zHl:splits G 57=false:=by decide +kernel
def zHm:splits G 58=false:=by decide +kernel
def zHn:splits G 59=false:=by decide +kernel
def zHo:splits G 60=false:=by decide +kernel
def zHp:splits G 61=false:=by decide +kernel
def zHq:splits G 62=false:=by decide +kernel
def zHr:splits G 63=false:=by decide +kernel
def zHs:splits G 64=false:=by decide +kernel
def zCM:splits G 65=true/\zcw G 65=0:=by decide +kernel
@[simp] def zJP:zab G 32=false/\zac G 32=false/\zab G 33=false/\zac G 33=false/\zab G 34=false/\zac G 34=false/\zab G 35=false/\zac G 35=false/\zab G 36=false/\zac G 36=false/\zab G 37=false/\zac G 37=false/\zab G 38=false/\zac G 38=false/\zab G 39=false/\zac G 39=false/\zab G 40=false/\zac G 40=false/\zab G 41=false/\zac G 41=false/\zab G 42=false/\zac G 42=false/\zab G 43=false/\zac G 43=false/\zab G 44=false/\zac G 44=false/\zab G 45=false/\zac G 45=false/\zab G 46=true/\zac G 46=false/\zab G 47=false/\zac G 47=false/\zab G 48=false/\zac G 48=false/\zab G 49=false/\zac G 49=false/\zab G 50=false/\zac G 50=false/\zab G 53=false/\zac G 53=false/\zab G 56=false/\zac G 56=false/\zab G 57=false/\zac G 57=false/\zab G 58=false/\zac G 58=false/\zab G 59=false/\zac G 59=false/\zab G 60=false/\zac G 60=false/\zab G 61=false/\zac G 61=false/\zab G 62=false/\zac G 62=false/\zab G 63=false/\zac G 63=false/\zab G 64=false/\zac G 64=false/\zab G 65=false/\zac G 65=false:=by and_intros<;>decide +kernel
def zHt:splits G 66=false:=by decide +kernel
def zHu:splits G 67=false:=by decide +kernel
def zHv:splits G 68=false:=by decide +kernel
def zHw:splits G 69=false:=by decide +kernel
def zHx:splits G 70=false:=by decide +kernel
def zHy:splits G 71=false:=by decide +kernel
def zHz:splits G 72=false:=by decide +kernel
def zHA:splits G 73=false:=by decide +kernel
def zHB:splits G 74=false:=by decide +kernel
def zHC:splits G 78=false:=by decide +kernel
def zHD:splits G 79=false:=by decide +kernel
def zHE:splits G 80=false:=by decide +kernel
def zHF:splits G 81=false:=by decide +kernel
def zHG:splits G 82=false:=by decide +kernel
def zHH:splits G 83=false:=by decide +kernel
def zHI:splits G 84=false:=by decide +kernel
def zHJ:splits G 85=false:=by decide +kernel
def zHK:splits G 86=false:=by decide +kernel
def zHL:splits G 88=false:=by decide +kernel
def zHM:splits G 89=false:=by decide +kernel
def zHN:splits G 90=false:=by decide +kernel
def zHO:splits G 91=false:=by decide +kernel
def zHP:splits G 92=false:=by decide +kernel
def zHQ:splits G 93=false:=by decide +kernel
def zHR:splits G 94=false:=by decide +kernel
def zHS:splits G 95=false:=by decide +kernel
def zHT:splits G 96=false:=by decide +kernel
def zHU:splits G 97=false:=by decide +kernel
def zHV:splits G 98=false:=by decide +kernel
@[simp] def zJQ:zab G 66=false/\zac G 66=false/\zab G 67=false/\zac G 67=false/\zab G 68=false/\zac G 68=false/\zab G 69=false/\zac G 69=false/\zab G 70=false/\zac G 70=false/\zab G 71=false/\zac G 71=false/\zab G 72=false/\zac G 72=false/\zab G 73=false/\zac G 73=false/\zab G 74=false/\zac G 74=false/\zab G 78=false/\zac G 78=false/\zab G 79=false/\zac G 79=false/\zab G 80=false/\zac G 80=false/\zab G 81=false/\zac G 81=false/\zab G 82=false/\zac G 82=false/\zab G 83=false/\zac G 83=false/\zab G 84=false/\zac G 84=false/\zab G 85=false/\zac G 85=false/\zab G 86=false/\zac G 86=false/\zab G 87=false/\zac G 87=false/\zab G 88=false/\zac G 88=false/\zab G 89=false/\zac G 89=false/\zab G 90=false/\zac G 90=false/\zab G 91=false/\zac G 91=false/\zab G 92=false/\zac G 92=false/\zab G 93=true/\zac G 93=false/\zab G 94=false/\zac G 94=false/\zab G 95=false/\zac G 95=false/\zab G 96=false/\zac G 96=false/\zab G 97=true/\zac G 97=false/\zab G 98=false/\zac G 98=false:=by and_intros<;>decide +kernel
def zHW:splits G 99=false:=by decide +kernel
def zzd:splits G 100=true/\zcw G 100=0:=by decide +kernel
def zCN:splits G 101=false:=by decide +kernel
def zCO:splits G 107=false:=by decide +kernel
def zCP:splits G 108=false:=by decide +kernel
def zCQ:splits G 109=false:=by decide +kernel
def zCR:splits G 110=false:=by decide +kernel
def zCS:splits G 111=false:=by decide +kernel
def zCT:splits G 112=false:=by decide +kernel
def zCU:splits G 113=false:=by decide +kernel
def zCV:splits G 114=false:=by decide +kernel
def zCW:splits G 116=false:=by decide +kernel
def zCX:splits G 117=false:=by decide +kernel
def zCY:splits G 118=false:=by decide +kernel
def zCZ:splits G 119=false:=by decide +kernel
def zC0:splits G 120=false:=by decide +kernel
def zC1:splits G 121=false:=by decide +kernel
def zC2:splits G 122=false:=by decide +kernel
def zC3:splits G 123=false:=by decide +kernel
def zC4:splits G 124=false:=by decide +kernel
def zC5:splits G 125=false:=by decide +kernel
def zC6:splits G 126=false:=by decide +kernel
def zC7:splits G 127=false:=by decide +kernel
def zC8:splits G 128=false:=by decide +kernel
def zC9:splits G 129=false:=by decide +kernel
def zze:splits G 130=true/\zcw G 130=0:=by decide +kernel
def zzf:zcw G 131=2:=by decide +kernel
def zDa:splits G 132=false:=by decide +kernel
def zDb:splits G 133=false:=by decide +kernel
def zDc:splits G 134=false:=by decide +kernel
@[simp] def zJR:zab G 99=false/\zac G 99=false/\zab G 100=false/\zac G 100=false/\zab G 101=false/\zac G 101=false/\zab G 107=false/\zac G 107=true/\zab G 108=false/\zac G 108=false/\zab G 109=false/\zac G 109=false/\zab G 110=false/\zac G 110=true/\zab G 111=false/\zac G 111=false/\zab G 112=false/\zac G 112=false/\zab G 113=false/\zac G 113=false/\zab G 114=false/\zac G 114=false/\zab G 116=false/\zac G 116=false/\zab G 117=false/\zac G 117=false/\zab G 118=false/\zac G 118=false/\zab G 119=false/\zac G 119=false/\zab G 120=false/\zac G 120=false/\zab G 121=false/\zac G 121=false/\zab G 122=false/\zac G 122=false/\zab G 123=false/\zac G 123=false/\zab G 124=false/\zac G 124=false/\zab G 125=false/\zac G 125=false/\zab G 126=false/\zac G 126=false/\zab G 127=false/\zac G 127=true/\zab G 128=true/\zac G 128=false/\zab G 129=false/\zac G 129=false/\zab G 130=false/\zac G 130=false/\zab G 131=true/\zac G 131=false/\zab G 132=true/\zac G 132=false/\zab G 133=false/\zac G 133=false/\zab G 134=false/\zac G 134=false:=by and_intros<;>decide +kernel
def zDd:splits G 135=false:=by decide +kernel
def zDe:splits G 136=false:=by decide +kernel
def zDf:splits G 137=false:=by decide +kernel
def zDg:splits G 138=false:=by decide +kernel
def zDh:splits G 139=false:=by decide +kernel
def zDi:splits G 140=false:=by decide +kernel
def zDj:splits G 141=false:=by decide +kernel
def zDk:splits G 142=false:=by decide +kernel
def zDl:splits G 143=false:=by decide +kernel
def zDm:splits G 148=false:=by decide +kernel
def zDn:splits G 149=false:=by decide +kernel
def zDo:splits G 150=false:=by decide +kernel
def zDp:splits G 151=false:=by decide +kernel
def zDq:splits G 152=false:=by decide +kernel
def zDr:splits G 153=false:=by decide +kernel
def zDs:splits G 154=false:=by decide +kernel
def zDt:splits G 155=false:=by decide +kernel
def zDu:splits G 156=false:=by decide +kernel
def zDv:splits G 157=false:=by decide +kernel
def zDw:splits G 158=false:=by decide +kernel
def zDx:splits G 159=false:=by decide +kernel
def zDy:splits G 160=false:=by decide +kernel
def zDz:splits G 161=false:=by decide +kernel
def zDA:splits G 162=false:=by decide +kernel
def zDB:splits G 163=false:=by decide +kernel
def zDC:splits G 166=false:=by decide +kernel
def zDD:splits G 168=false:=by decide +kernel
def zDE:splits G 169=false:=by decide +kernel
@[simp] def zIN:zab G 135=false/\zac G 135=false/\zab G 136=false/\zac G 136=false/\zab G 137=false/\zac G 137=false/\zab G 138=false/\zac G 138=false/\zab G 139=false/\zac G 139=false/\zab G 140=false/\zac G 140=false/\zab G 141=false/\zac G 141=false/\zab G 142=false/\zac G 142=false/\zab G 143=false/\zac G 143=false/\zab G 148=false/\zac G 148=false/\zab G 149=false/\zac G 149=false/\zab G 150=false/\zac G 150=false/\zab G 151=false/\zac G 151=false/\zab G 152=false/\zac G 152=false/\zab G 153=false/\zac G 153=false/\zab G 154=false/\zac G 154=false/\zab G 155=false/\zac G 155=false/\zab G 156=false/\zac G 156=false/\zab G 157=false/\zac G 157=false/\zab G 158=false/\zac G 158=false/\zab G 159=false/\zac G 159=false/\zab G 160=false/\zac G 160=false/\zab G 161=false/\zac G 161=false/\zab G 162=false/\zac G 162=false/\zab G 163=false/\zac G 163=false/\zab G 164=true/\zac G 164=false/\zab G 165=false/\zac G 165=false/\zab G 166=false/\zac G 166=false/\zab G 168=false/\zac G 168=false/\zab G 169=false/\zac G 169=false:=by and_intros<;>decide +kernel
def zDF:splits G 170=false:=by decide +kernel
def zDG:splits G 171=false:=by decide +kernel
def zDH:splits G 172=false:=by decide +kernel
def zDI:splits G 176=false:=by decide +kernel
def zDJ:splits G 177=false:=by decide +kernel
def zDK:splits G 178=false:=by decide +kernel
def zDL:splits G 179=false:=by decide +kernel
def zDM:splits G 180=false:=by decide +kernel
def zDN:splits G 181=false:=by decide +kernel
def zDO:splits G 182=false:=by decide +kernel
def zDP:splits G 183=false:=by decide +kernel
def zDQ:splits G 184=false:=by decide +kernel
def zDR:splits G 194=false:=by decide +kernel
def zDS:splits G 195=false:=by decide +kernel
def zDT:splits G 196=false:=by decide +kernel
def zzg:splits G 197=true/\zcw G 197=0:=by decide +kernel
def zzh:zcw G 198=1:=by decide +kernel
def zDU:splits G 199=false:=by decide +kernel
def zDV:splits G 200=false:=by decide +kernel
@[simp] def zIO:zab G 170=false/\zac G 170=false/\zab G 171=false/\zac G 171=false/\zab G 172=false/\zac G 172=false/\zab G 176=false/\zac G 176=false/\zab G 177=true/\zac G 177=false/\zab G 178=false/\zac G 178=false/\zab G 179=false/\zac G 179=false/\zab G 180=false/\zac G 180=false/\zab G 181=false/\zac G 181=false/\zab G 182=false/\zac G 182=false/\zab G 183=false/\zac G 183=false/\zab G 184=false/\zac G 184=false/\zab G 185=true/\zac G 185=false/\zab G 186=true/\zac G 186=false/\zab G 187=true/\zac G 187=false/\zab G 188=true/\zac G 188=false/\zab G 189=true/\zac G 189=false/\zab G 190=true/\zac G 190=false/\zab G 191=true/\zac G 191=false/\zab G 192=true/\zac G 192=false/\zab G 193=false/\zac G 193=false/\zab G 194=false/\zac G 194=false/\zab G 195=false/\zac G 195=false/\zab G 196=false/\zac G 196=false/\zab G 197=false/\zac G 197=false/\zab G 198=true/\zac G 198=false/\zab G 199=true/\zac G 199=false/\zab G 200=false/\zac G 200=false/\zab G 202=true/\zac G 202=false/\zab G 203=false/\zac G 203=false:=by and_intros<;>decide +kernel
def zDW:splits G 208=false:=by decide +kernel
def zDX:splits G 209=false:=by decide +kernel
def zDY:splits G 210=false:=by decide +kernel
def zDZ:splits G 211=false:=by decide +kernel
def zD0:splits G 212=false:=by decide +kernel
def zD1:splits G 213=false:=by decide +kernel
def zD2:splits G 214=false:=by decide +kernel
def zD3:splits G 217=false:=by decide +kernel
def zD4:splits G 218=false:=by decide +kernel
def zD5:splits G 219=false:=by decide +kernel
@[simp] def zIP:zab G 204=false/\zac G 204=false/\zab G 205=true/\zac G 205=false/\zab G 206=true/\zac G 206=false/\zab G 208=false/\zac G 208=false/\zab G 209=false/\zac G 209=false/\zab G 210=false/\zac G 210=false/\zab G 211=false/\zac G 211=false/\zab G 212=false/\zac G 212=false/\zab G 213=false/\zac G 213=false/\zab G 214=false/\zac G 214=false/\zab G 215=true/\zac G 215=false/\zab G 216=true/\zac G 216=false/\zab G 217=false/\zac G 217=false/\zab G 218=true/\zac G 218=false/\zab G 219=false/\zac G 219=false/\zab G 220=true/\zac G 220=false/\zab G 221=true/\zac G 221=false/\zab G 222=true/\zac G 222=false/\zab G 223=true/\zac G 223=false/\zab G 224=true/\zac G 224=false/\zab G 225=true/\zac G 225=false/\zab G 226=true/\zac G 226=false/\zab G 227=true/\zac G 227=false/\zab G 228=true/\zac G 228=false/\zab G 229=true/\zac G 229=false/\zab G 230=true/\zac G 230=false/\zab G 231=true/\zac G 231=false/\ziN G 17=false/\ziN G 107=false/\ziN G 110=false/\ziN G 127=false/\ziN G 27=true/\ziN G 28=true:=by and_intros<;>decide +kernel
@[simp] def zJS:ziN G 29=true/\ziN G 31=true/\ziN G 18=false/\zsc G 17=false/\znp G 17=true/\zsc G 107=false/\znp G 107=true/\zsc G 110=false/\znp G 110=true/\zsc G 127=false/\znp G 127=false/\zsc G 18=true/\zdR G 87=true:=by and_intros<;>decide +kernel
def zHX {g:Nat} (h:(G g).isSome=true) (h0:g≠0):g∈([1000046,1000093,1000097,1000128,1000131,1000132,1000164,1000177,1000185,1000186,1000187,1000188]++[1000189,1000190,1000191,1000192,1000198,1000199,1000202,1000205,1000206,1000215,1000216,1000218]++[1000220,1000221,1000222,1000223,1000224,1000225,1000226,1000227,1000228,1000229,1000230,1000231]++[2000065,2000077,2000100,2000130,2000197,2000131,2000198,4900131,4800198,3000017,3000107,3000110]++[3000127,3000027,3000028,3000029,3000031,3000018,4000027,4000028,4000029,4000031,5000087,4500018]++[4700017,4700107,4700110]:List Nat):=by
 unfold G at h;rw[yac h0]at h;split at h
 ·rename_i h2
  simpa only[List.contains_eq_mem,yaB]using h2
 ·simp at h
def zsL {g:Nat} (h:zdR G g=true):g=87:=by
 have:=zHX h (by omega)
 simp only[ycU,ybI,ydf,or_false]at this;omega
def zn8 {g:Nat} (h:zcw G g≠0):g=131\/g=198:=by
 unfold zcw at h;split at h
 ·rename_i h1
  split at h
  ·rename_i h3
   have e:=zHX h3 (by omega)
   simp only[ycU,ybI,ydf,or_false]at e;have e2:g=100131\/g=198\/g=200087:=by omega
   rcases e2 with rfl | rfl | rfl <;> first | decide | exact absurd h1 (by decide +kernel)
  ·split at h
   ·rename_i h3
    have e:=zHX h3 (by omega)
    simp only[ycU,ybI,ydf,or_false]at e;have e2:g=131\/g=100087:=by omega
    rcases e2 with rfl | rfl <;> first | decide | exact absurd h1 (by decide +kernel)
   ·omega
 ·omega
def Hn:zhz:=λf r=>match f,r with
 |3,6=>[0]
 |4,7=>[0]
 |6,7=>[0]
 |7,22=>[7]
 |8,7=>[0]
 |8,11=>[2,9,16]
 |8,16=>[2]
 |12,17=>[0]
 |12,28=>[0,1008]
 |18,20=>[0,1,4]
 |19,7=>[0,1,4,5,8,9,10,11,12]
 |19,15=>[0]
 |25,1=>[12]
 |28,1=>[4]
 |40,9=>[6]
 |41,1=>[5,6]
 |63,12=>[0]
 |63,17=>[1,2,3,4,6]
 |66,9=>[1,3,4,5,7]
 |66,26=>[1,2,3,4,6]
 |80,15=>[3,4,5]
 |93,6=>[8]
 |107,11=>[11,13,2015,3008]
 |107,18=>[4,2005,3002]
 |107,19=>[0]
 |152,31=>[6]
 |209,4=>[8]
 |217,4=>[8]
 |_,_=>[]
@[simp] def G_0:G 0=some zpX/\K 4 0=some [(4,0),(7,0),(9,0),(14,0),(15,0),(16,0),(17,0),(18,1),(19,0)]/\K 5 0=some [(0,0),(5,0),(9,0),(10,0)]/\K 7 0=some [(2,0),(5,0),(7,0),(9,0),(11,0)]/\K 7 2=some [(2,0),(5,0),(9,0),(12,0),(13,0)]/\K 10 0=some [(1,0),(3,0),(4,0)]/\K 11 0=some [(0,0),(3,1),(4,0)]/\K 12 0=some [(1,0),(2,0),(3,0),(6,0),(7,0),(35,0),(36,0),(37,0)]/\K 12 2=some [(3,0),(6,0),(7,0),(12,0),(13,0)]/\K 12 4=some [(3,0),(6,0),(7,0),(12,0),(13,0),(14,0),(67,0),(68,0),(69,0)]/\K 13 0=some [(0,0),(3,1),(4,0)]/\K 14 0=some [(1,0),(2,0),(3,0),(9,0)]/\K 14 2=some [(3,0),(10,0),(11,0),(12,0),(13,0)]/\K 14 4=some [(3,0),(10,0),(11,0),(12,0),(13,0),(14,0)]/\K 14 6=some [(10,0),(18,0),(19,0)]/\K 15 0=some [(1,0),(3,0)]/\K 17 0=some [(2,0),(3,0),(7,1),(8,0),(9,0)]/\K 18 0=some [(2,0),(3,0),(6,0)]/\K 18 2=some [(2,0),(3,0),(6,0),(9,0),(10,0),(75,0),(76,0)]/\K 19 0=some [(2,0),(3,0),(4,1),(5,0),(6,0),(7,0),(8,0)]/\K 19 2=some [(2,0),(3,0),(4,1),(5,0),(6,0),(7,0),(8,0),(50,0),(51,0),(52,0)]/\K 20 0=some [(4,0),(7,0),(10,1),(11,0),(12,0),(13,0)]/\K 20 2=some [(4,0),(7,0),(10,1),(11,0),(12,0),(13,0),(14,10),(15,0)]/\K 20 4=some [(4,0),(7,0),(10,1),(11,0),(12,0),(13,0),(16,0)]/\K 22 1=some [(2,0),(3,0),(4,0),(7,0),(8,0)]/\K 22 3=some [(2,0),(3,0),(4,0),(9,0),(10,0)]/\K 24 0=some [(3,1),(4,0),(5,0)]/\K 26 0=some [(0,0),(3,1),(4,0)]/\K 30 0=some [(2,0),(3,0),(5,0)]/\K 33 0=some [(0,0),(2,0),(3,0),(4,0),(5,0),(6,0),(7,0)]/\K 34 0=some [(0,0),(1,0),(5,3),(6,0)]/\K 36 0=some [(0,0),(1,0),(5,0)]/\K 37 0=some [(0,0),(3,3),(4,0)]/\K 38 0=some [(0,0),(3,3),(4,0)]/\K 39 0=some [(1,0),(3,0),(22,0),(23,0),(24,0)]/\K 40 0=some [(1,0),(16,0),(17,0),(18,0)]/\K 41 0=some [(3,0),(18,0),(19,0),(20,0)]/\K 42 0=some [(0,0),(3,1)]/\K 44 0=some [(1,0),(5,1),(8,0),(9,0),(10,0)]/\K 45 0=some [(0,0),(1,0),(26,0),(27,0),(28,0)]/\K 45 2=some [(0,0),(8,0),(9,1),(10,1),(11,1),(47,0),(48,0),(49,0)]/\K 47 0=some [(2,0),(3,0),(4,0),(5,0),(6,0),(18,0),(19,0),(20,0)]/\K 49 0=some [(0,0),(3,1),(4,0)]/\K 50 0=some [(1,0),(2,0),(5,0)]/\K 53 0=some [(0,0),(1,0),(5,1),(6,0)]/\K 56 0=some [(3,0),(5,0),(6,0)]/\K 57 0=some [(0,0),(1,0),(5,0)]/\K 58 0=some [(1,0),(2,0),(5,0),(6,0)]/\K 60 0=some [(0,0),(6,0),(9,0),(10,0),(11,0)]/\K 60 2=some [(0,0),(6,0),(9,0),(10,0),(11,0),(12,0),(13,0),(117,0),(118,0),(119,0)]/\K 60 4=some [(0,0),(6,0),(9,0),(10,0),(11,0),(12,0),(13,0),(117,0),(118,0),(119,0),(154,0),(155,0),(156,0)]/\K 61 0=some [(0,0),(1,0),(12,0),(13,0)]/\K 63 1=some [(2,0),(4,0),(6,0),(7,0),(9,0),(26,0),(27,0),(28,0)]/\K 64 1=some [(2,0),(4,0),(7,0),(20,0),(21,0),(22,0)]/\K 64 3=some [(2,0),(4,0),(10,0),(37,0),(38,0),(39,0)]/\K 66 0=some [(2,0),(3,0),(4,0),(6,0),(7,0),(8,0)]/\K 66 2=some [(2,0),(3,0),(4,0),(6,0),(7,0),(8,0),(9,0),(10,0),(11,0)]/\K 66 4=some [(2,0),(3,0),(4,0),(6,0),(7,0),(8,0),(9,0),(10,0),(11,0),(12,0)]/\K 67 0=some [(1,0),(2,0),(5,0),(6,0)]/\K 68 0=some [(2,0),(3,0),(5,0)]:=by and_intros<;>rfl
@[simp] def zIQ:K 69 0=some [(1,0),(2,0),(5,0)]/\K 74 0=some [(0,0),(1,0),(5,0)]/\K 78 0=some [(0,0),(5,1),(6,1),(7,0),(8,0)]/\K 80 0=some [(0,0),(6,0),(1000007,0),(9,0)]/\K 82 0=some [(19,0)]/\K 87 0=some [(0,0),(1,0),(2,0),(4,0)]/\K 90 0=some [(3,0),(11,0),(12,0),(13,0)]/\K 91 0=some [(0,0),(4,1),(11,0)]/\K 92 0=some [(0,0),(3,0),(4,0),(5,1),(20,0),(21,0),(22,0)]/\K 94 0=some [(0,0),(6,0)]/\K 96 0=some [(0,0),(1,0),(7,0)]/\K 97 0=some [(6,0)]/\K 107 0=some [(2,0),(5,0),(6,0),(7,0)]/\K 109 0=some [(0,0),(1,0),(4,0)]/\K 111 0=some [(1,0),(2,0),(23,0),(24,0),(25,0)]/\K 112 1=some [(3,0),(44,0),(45,0),(46,0)]/\K 121 0=some [(0,0),(1,0),(5,0),(6,0)]/\K 121 2=some [(0,0),(1,0),(5,0),(6,0),(7,0),(8,0)]/\K 121 4=some [(0,0),(1,0),(5,0),(6,0),(7,0),(8,0),(9,0)]/\K 122 0=some [(0,0),(6,0),(7,0),(8,0),(9,0)]/\K 124 0=some [(0,0),(1,0),(7,0),(8,0)]/\K 125 0=some [(0,0),(1,0),(7,0),(8,0)]/\K 126 0=some [(1,0),(6,0),(36,0),(37,0),(38,0)]/\K 126 2=some [(1,0),(6,0),(7,0),(8,0),(9,0),(36,0),(37,0),(38,0)]/\K 128 0=some [(0,0),(5,1),(6,1),(9,0),(10,0),(11,0)]/\K 132 0=some [(0,0),(3,0)]/\K 132 2=some [(0,0),(3,0),(4,0),(5,0)]/\K 133 0=some [(0,0),(1,0),(6,0),(7,0),(8,0)]/\K 141 0=some [(3,0),(5,0)]/\K 143 0=some [(0,0),(9,0),(10,0),(11,0)]/\K 149 0=some [(5,0),(8,0),(9,0),(10,0)]/\K 152 0=some [(0,0),(1,0),(2,0),(9,0),(12,0),(56,0),(57,0),(58,0)]/\K 152 2=some [(1000015,0),(17,0),(79,0),(80,0),(81,0)]/\K 157 0=some [(5,0),(6,0),(21,0)]/\K 157 2=some [(5,0),(6,0),(8,0),(9,0),(21,0),(38,0),(39,0),(40,0)]/\K 158 0=some [(3,0),(6,0),(7,0),(8,0)]/\K 159 0=some [(3,1),(6,0),(7,0),(8,0)]/\K 160 0=some [(3,1),(4,0),(7,0),(8,0),(9,0)]/\K 161 0=some [(0,0),(3,1),(4,0)]/\K 161 2=some [(0,0),(3,1),(4,0),(5,0)]/\K 162 0=some [(0,0),(3,0),(4,0),(18,0),(19,0),(20,0)]/\K 162 2=some [(3,0),(4,0),(7,0),(47,0),(48,0),(49,0)]/\K 163 0=some [(3,0),(4,0),(16,0),(17,0),(18,0)]/\K 164 0=some [(0,0),(1,0),(2,0),(3,0),(8,0),(9,0)]/\K 177 0=some [(7,0),(8,0)]/\K 178 0=some [(0,0),(2,0),(9,0),(56,0),(57,0)]/\K 178 2=some [(0,0),(2,0),(9,0),(10,0),(11,0),(56,0),(57,0)]/\K 179 1=some [(8,1),(10,0),(30,0),(31,0),(32,0)]/\K 179 3=some [(8,1),(14,0),(52,0),(53,0),(54,0)]/\K 179 5=some [(8,1),(18,0),(73,0),(74,0),(75,0)]/\K 182 0=some [(0,0),(1,0),(6,0),(7,0),(8,0)]/\K 184 0=some [(0,0),(3,0),(4,0)]/\K 185 0=some [(0,0),(1,0),(2,0),(6,0)]/\K 185 2=some [(0,0),(1,0),(2,0),(6,0),(7,0)]/\K 186 0=some [(0,0),(6,0),(7,0),(8,0),(9,0)]/\K 186 2=some [(0,0),(6,0),(7,0),(10,0)]/\K 187 0=some [(0,0),(1,0),(6,0),(7,0),(8,0),(9,0)]/\K 189 0=some [(0,0),(6,0),(7,0)]/\K 190 0=some [(0,0),(1,0),(2,0),(7,0),(8,0)]/\K 190 2=some [(0,0),(1,0),(2,0),(7,0),(8,0)]:=by and_intros<;>rfl
@[simp] def zHY:K 190 4=some [(0,0),(1,0),(2,0),(7,0),(8,0),(9,0)]/\K 190 6=some [(0,0),(1,0),(2,0),(7,0),(8,0),(10,0)]/\K 191 0=some [(0,0),(1,0),(9,0),(10,0)]/\K 191 2=some [(0,0),(1,0),(9,0),(10,0)]/\K 191 4=some [(0,0),(1,0),(9,0),(10,0)]/\K 192 0=some [(0,0),(1,0),(10,0),(11,0)]/\K 192 2=some [(0,0),(1,0),(10,0),(11,0)]/\K 192 4=some [(0,0),(1,0),(10,0),(11,0)]/\K 192 6=some [(0,0),(1,0),(10,0),(11,0)]/\K 192 8=some [(0,0),(1,0),(10,0),(11,0)]/\K 195 2=some [(0,0),(1,0),(6,0),(7,1),(8,0)]/\K 196 0=some [(12,0),(15,1),(85,0),(86,0),(87,0)]/\K 199 0=some [(0,0),(3,0)]/\K 199 2=some [(0,0),(3,0),(4,0),(5,0)]/\K 202 0=some [(0,0),(2,0),(3,0),(8,0)]/\K 210 0=some [(0,0),(1,0),(5,1)]/\K 211 0=some [(0,0),(1,0),(5,0),(6,1)]/\K 211 2=some [(0,0),(5,0),(6,1),(9,1),(104,0),(105,0),(106,0)]/\K 212 0=some [(5,0),(7,1),(36,0),(37,0),(38,0)]/\K 214 0=some [(0,0),(11,1),(45,0),(46,0),(47,0)]/\K 215 0=some [(0,0),(1,0),(2,0),(3,0),(8,0),(9,0)]/\K 218 0=some [(7,0),(8,0)]/\K 220 0=some [(0,0),(1,0),(2,0),(6,0)]/\K 220 2=some [(0,0),(1,0),(2,0),(6,0),(7,0)]/\K 221 0=some [(0,0),(6,0),(7,0),(8,0),(9,0)]/\K 221 2=some [(0,0),(6,0),(7,0),(10,0)]/\K 222 0=some [(0,0),(1,0),(6,0),(7,0),(8,0),(9,0)]/\K 224 0=some [(0,0),(6,0),(7,0)]/\K 225 0=some [(0,0),(1,0),(2,0),(7,0),(8,0)]/\K 225 2=some [(0,0),(1,0),(2,0),(7,0),(8,0)]/\K 225 4=some [(0,0),(1,0),(2,0),(7,0),(8,0),(9,0)]/\K 225 6=some [(0,0),(1,0),(2,0),(7,0),(8,0),(10,0)]/\K 226 0=some [(0,0),(1,0),(9,0),(10,0)]/\K 226 2=some [(0,0),(1,0),(9,0),(10,0)]/\K 226 4=some [(0,0),(1,0),(9,0),(10,0)]/\K 227 0=some [(0,0),(1,0),(10,0),(11,0)]/\K 227 2=some [(0,0),(1,0),(10,0),(11,0)]/\K 227 4=some [(0,0),(1,0),(10,0),(11,0)]/\K 227 6=some [(0,0),(1,0),(10,0),(11,0)]/\K 227 8=some [(0,0),(1,0),(10,0),(11,0)]/\K 228 0=some [(0,0),(2,0),(3,0),(8,0)]/\Hn 3 6=[0]/\Hn 4 7=[0]/\Hn 4 17=[]/\Hn 6 7=[0]/\Hn 7 22=[7]/\Hn 8 7=[0]/\Hn 8 11=[2,9,16]/\Hn 8 16=[2]/\Hn 11 5=[]/\Hn 12 17=[0]/\Hn 12 28=[0,1008]/\Hn 14 11=[]/\Hn 15 7=[]/\Hn 15 9=[]/\Hn 17 6=[]/\Hn 18 9=[]/\Hn 18 12=[]/\Hn 18 20=[0,1,4]/\Hn 19 1=[]:=by and_intros<;>rfl
@[simp] def zHZ:Hn 19 5=[]/\Hn 19 7=[0,1,4,5,8,9,10,11,12]/\Hn 19 14=[]/\Hn 19 15=[0]/\Hn 19 17=[]/\Hn 20 19=[]/\Hn 22 7=[]/\Hn 22 14=[]/\Hn 22 19=[]/\Hn 25 1=[12]/\Hn 28 1=[4]/\Hn 30 6=[]/\Hn 36 6=[]/\Hn 40 9=[6]/\Hn 41 1=[5,6]/\Hn 50 10=[]/\Hn 60 4=[]/\Hn 60 29=[]/\Hn 61 6=[]/\Hn 63 12=[0]/\Hn 63 17=[1,2,3,4,6]/\Hn 63 23=[]/\Hn 64 20=[]/\Hn 64 25=[]/\Hn 66 9=[1,3,4,5,7]/\Hn 66 26=[1,2,3,4,6]/\Hn 68 9=[]/\Hn 68 27=[]/\Hn 74 6=[]/\Hn 80 15=[3,4,5]/\Hn 87 3=[]/\Hn 93 6=[8]/\Hn 95 10=[]/\Hn 107 11=[11,13,2015,3008]/\Hn 107 18=[4,2005,3002]/\Hn 107 19=[0]/\Hn 121 16=[]/\Hn 126 11=[]/\Hn 132 6=[]/\Hn 132 11=[]/\Hn 152 31=[6]/\Hn 161 5=[]/\Hn 164 17=[]/\Hn 177 9=[]/\Hn 178 16=[]/\Hn 185 4=[]/\Hn 185 6=[]/\Hn 186 10=[]/\Hn 187 10=[]/\Hn 189 3=[]/\Hn 190 5=[]/\Hn 190 11=[]/\Hn 190 16=[]/\Hn 190 17=[]/\Hn 190 22=[]/\Hn 190 23=[]/\Hn 191 1=[]/\Hn 191 3=[]/\Hn 191 5=[]/\Hn 191 8=[]:=by and_intros<;>rfl
@[simp] def zFG:Hn 192 1=[]/\Hn 192 3=[]/\Hn 192 5=[]/\Hn 192 8=[]/\Hn 192 10=[]/\Hn 192 13=[]/\Hn 192 15=[]/\Hn 192 18=[]/\Hn 192 21=[]/\Hn 195 29=[]/\Hn 199 6=[]/\Hn 199 11=[]/\Hn 202 3=[]/\Hn 202 5=[]/\Hn 202 6=[]/\Hn 204 1=[]/\Hn 204 2=[]/\Hn 204 3=[]/\Hn 209 4=[8]/\Hn 215 17=[]/\Hn 216 1=[]/\Hn 217 4=[8]/\Hn 218 9=[]/\Hn 220 4=[]/\Hn 220 6=[]/\Hn 221 10=[]/\Hn 222 10=[]/\Hn 224 3=[]/\Hn 225 5=[]/\Hn 225 11=[]/\Hn 225 16=[]/\Hn 225 17=[]/\Hn 225 22=[]/\Hn 225 23=[]/\Hn 226 1=[]/\Hn 226 3=[]/\Hn 226 5=[]/\Hn 226 8=[]/\Hn 227 1=[]/\Hn 227 3=[]/\Hn 227 5=[]/\Hn 227 8=[]/\Hn 227 10=[]/\Hn 227 13=[]/\Hn 227 15=[]/\Hn 227 18=[]/\Hn 227 21=[]/\Hn 228 3=[]/\Hn 228 5=[]/\Hn 228 6=[]/\Hn 231 1=[]:=by and_intros<;>rfl
noncomputable abbrev R:Run:=zfV Tryz.prog G K Hn
end Go.Am.Ab
namespace Go.Am
def zAl:IntKind.bits .u8=8:=rfl
def zxS:IntKind.bits .u32=32:=rfl
def zxT:IntKind.bits .u64=64:=rfl
def zxU:IntKind.bits .i64=64:=rfl
def zcb (x:Int):IntKind.u8.wrap x=x % 256:=by simp[IntKind.wrap,IntKind.signed,IntKind.bits]
def zcY (x:Int):IntKind.u32.wrap x=x % 4294967296:=by simp[IntKind.wrap,IntKind.signed,IntKind.bits]
def zai (x:Int):IntKind.u64.wrap x=x % 18446744073709551616:=by simp[IntKind.wrap,IntKind.signed,IntKind.bits]
def za0 (x:Int):IntKind.i64.wrap x=if x % 18446744073709551616>=9223372036854775808 then x % 18446744073709551616 - 18446744073709551616 else x % 18446744073709551616:=by
 simp[IntKind.wrap,IntKind.signed,IntKind.bits]
def zaT (n:Nat) (w:Nat):(BitVec.ofInt w (n:Int)).toNat=n % 2 ^ w:=by
 rw[ydv];have:(n:Int) % ((2 ^ w:Nat):Int)=((n % 2 ^ w:Nat):Int):=by rw[Int.natCast_emod]
 rw[this,yat]
def zD6 {x y:Nat} (hx:x<2 ^ 64) (hy:y<2 ^ 64):IntKind.u64.wrap (BitVec.ofInt 64 (x:Int) ||| BitVec.ofInt 64 (y:Int)).toNat=((x ||| y:Nat):Int):=by
 rw[ydr,zaT,zaT,yaK hx,yaK hy,zai];have:=yc3 hx hy;omega
def zAm {x y:Nat} (hx:x<2 ^ 64) (hy:y<2 ^ 64):IntKind.u64.wrap (BitVec.ofInt 64 (x:Int) &&& BitVec.ofInt 64 (y:Int)).toNat=((x &&& y:Nat):Int):=by
 rw[ycK,zaT,zaT,yaK hx,yaK hy,zai];have:=ydw x hy;omega
def zAn {x y:Nat} (hx:x<2 ^ 64) (hy:y<2 ^ 64):IntKind.u64.wrap (BitVec.ofInt 64 (x:Int) ^^^ BitVec.ofInt 64 (y:Int)).toNat=((x ^^^ y:Nat):Int):=by
 rw[ycL,zaT,zaT,yaK hx,yaK hy,zai];have:=Nat.xor_lt_two_pow hx hy;omega
def zH0 {x y:Nat} (hx:x<2 ^ 8) (hy:y<2 ^ 8):IntKind.u8.wrap (BitVec.ofInt 8 (x:Int) ||| BitVec.ofInt 8 (y:Int)).toNat=((x ||| y:Nat):Int):=by
 rw[ydr,zaT,zaT,yaK hx,yaK hy,zcb];have:=yc3 hx hy;omega
def zD7 {x y:Nat} (hx:x<2 ^ 8) (hy:y<2 ^ 8):IntKind.u8.wrap (BitVec.ofInt 8 (x:Int) &&& BitVec.ofInt 8 (y:Int)).toNat=((x &&& y:Nat):Int):=by
 rw[ycK,zaT,zaT,yaK hx,yaK hy,zcb];have:=ydw x hy;omega
def zD8 {x y:Nat} (hx:x<2 ^ 32) (hy:y<2 ^ 32):IntKind.u32.wrap (BitVec.ofInt 32 (x:Int) ||| BitVec.ofInt 32 (y:Int)).toNat=((x ||| y:Nat):Int):=by
 rw[ydr,zaT,zaT,yaK hx,yaK hy,zcY];have:=yc3 hx hy;omega
def zAo {x y:Nat} (hx:x<2 ^ 32) (hy:y<2 ^ 32):IntKind.u32.wrap (BitVec.ofInt 32 (x:Int) &&& BitVec.ofInt 32 (y:Int)).toNat=((x &&& y:Nat):Int):=by
 rw[ycK,zaT,zaT,yaK hx,yaK hy,zcY];have:=ydw x hy;omega
def zAp {x y:Nat} (hx:x<2 ^ 32) (hy:y<2 ^ 32):IntKind.u32.wrap (BitVec.ofInt 32 (x:Int) ^^^ BitVec.ofInt 32 (y:Int)).toNat=((x ^^^ y:Nat):Int):=by
 rw[ycL,zaT,zaT,yaK hx,yaK hy,zcY];have:=Nat.xor_lt_two_pow hx hy;omega
def zn9 {x y:Int} (h1:0<=x) (h2:x<256) (h3:0<=y) (h4:y<256):zbq .or .u8 x y=some (.int .u8 ((x.toNat ||| y.toNat:Nat):Int)):=by
 obtain⟨a,rfl⟩:=yaC h1;obtain⟨b,rfl⟩:=yaC h3
 show some (D.int .u8 _)=_
 rw[yat,yat];exact congrArg (λz=>some (D.int .u8 z)) (zH0 (by omega) (by omega))
attribute [simp] zn9
def zmC {x y:Int} (h1:0<=x) (h2:x<256) (h3:0<=y) (h4:y<256):zbq .and .u8 x y=some (.int .u8 ((x.toNat &&& y.toNat:Nat):Int)):=by
 obtain⟨a,rfl⟩:=yaC h1;obtain⟨b,rfl⟩:=yaC h3
 show some (D.int .u8 _)=_
 rw[yat,yat];exact congrArg (λz=>some (D.int .u8 z)) (zD7 (by omega) (by omega))
attribute [simp] zmC
def zmD {x y:Int} (h1:0<=x) (h2:x<4294967296) (h3:0<=y) (h4:y<4294967296):zbq .or .u32 x y=some (.int .u32 ((x.toNat ||| y.toNat:Nat):Int)):=by
 obtain⟨a,rfl⟩:=yaC h1;obtain⟨b,rfl⟩:=yaC h3
 show some (D.int .u32 _)=_
 rw[yat,yat];exact congrArg (λz=>some (D.int .u32 z)) (zD8 (by omega) (by omega))
attribute [simp] zmD
def zkY {x y:Int} (h1:0<=x) (h2:x<4294967296) (h3:0<=y) (h4:y<4294967296):zbq .and .u32 x y=some (.int .u32 ((x.toNat &&& y.toNat:Nat):Int)):=by
 obtain⟨a,rfl⟩:=yaC h1;obtain⟨b,rfl⟩:=yaC h3
 show some (D.int .u32 _)=_
 rw[yat,yat];exact congrArg (λz=>some (D.int .u32 z)) (zAo (by omega) (by omega))
attribute [simp] zkY
def zkZ {x y:Int} (h1:0<=x) (h2:x<4294967296) (h3:0<=y) (h4:y<4294967296):zbq .xor .u32 x y=some (.int .u32 ((x.toNat ^^^ y.toNat:Nat):Int)):=by
 obtain⟨a,rfl⟩:=yaC h1;obtain⟨b,rfl⟩:=yaC h3
 show some (D.int .u32 _)=_
 rw[yat,yat];exact congrArg (λz=>some (D.int .u32 z)) (zAp (by omega) (by omega))
attribute [simp] zkZ
def zmE {x y:Int} (h1:0<=x) (h2:x<18446744073709551616) (h3:0<=y) (h4:y<18446744073709551616):zbq .or .u64 x y=some (.int .u64 ((x.toNat ||| y.toNat:Nat):Int)):=by
 obtain⟨a,rfl⟩:=yaC h1;obtain⟨b,rfl⟩:=yaC h3
 show some (D.int .u64 _)=_
 rw[yat,yat];exact congrArg (λz=>some (D.int .u64 z)) (zD6 (by omega) (by omega))
attribute [simp] zmE
def zk0 {x y:Int} (h1:0<=x) (h2:x<18446744073709551616) (h3:0<=y) (h4:y<18446744073709551616):zbq .and .u64 x y=some (.int .u64 ((x.toNat &&& y.toNat:Nat):Int)):=by
 obtain⟨a,rfl⟩:=yaC h1;obtain⟨b,rfl⟩:=yaC h3
 show some (D.int .u64 _)=_
 rw[yat,yat];exact congrArg (λz=>some (D.int .u64 z)) (zAm (by omega) (by omega))
attribute [simp] zk0
def zk1 {x y:Int} (h1:0<=x) (h2:x<18446744073709551616) (h3:0<=y) (h4:y<18446744073709551616):zbq .xor .u64 x y=some (.int .u64 ((x.toNat ^^^ y.toNat:Nat):Int)):=by
 obtain⟨a,rfl⟩:=yaC h1;obtain⟨b,rfl⟩:=yaC h3
 show some (D.int .u64 _)=_
 rw[yat,yat];exact congrArg (λz=>some (D.int .u64 z)) (zAn (by omega) (by omega))
attribute [simp] zk1
def zD9 {x y i:Nat} (hx:x % 2 ^ i=0) (hy:y<2 ^ i):x ||| y=x+y:=by
 have e:x=2 ^ i*(x / 2 ^ i):=by
  have:=ycR x (2 ^ i);omega
 rw[e,Nat.two_pow_add_eq_or_of_lt hy]
def zgf {x y i:Nat} (hx:x % 2 ^ i=0) (hy:y<2 ^ i):y ||| x=y+x:=by rw[Nat.or_comm,zD9 hx hy,yb4]
def zH1 (n:Nat):(n % 256 ||| 128)=n % 128+128:=by
 have h1:n % 256=n % 128+128*(n / 128 % 2):=by omega
 have h2:n / 128 % 2=0\/n / 128 % 2=1:=by omega
 have h3:n % 128<2 ^ 7:=by omega
 rcases h2 with h | h
 ·rw[h1,h,Nat.mul_zero,ycu]
  rw[zgf (i:=7) (by decide) h3]
 ·rw[h1,h,yb9]
  have:n % 128+128=n % 128 ||| 128:=(zgf (i:=7) (by decide) h3).symm
  rw[this,Nat.or_assoc,Nat.or_self]
def zg0 (n k:Nat):n &&& (2 ^ k - 1)=n % 2 ^ k:=Nat.and_two_pow_sub_one_eq_mod n k
def zEa (n:Nat):n &&& 127=n % 128:=zg0 n 7
def zJT (n:Nat):n &&& 1=n % 2:=zg0 n 1
def zxV {x:Nat} (hx:x<2 ^ 64):x ^^^ 18446744073709551615=18446744073709551615 - x:=by
 have h:(BitVec.ofNat 64 x ^^^ BitVec.allOnes 64).toNat=(~~~ BitVec.ofNat 64 x).toNat:=by rw[BitVec.xor_allOnes]
 rw[ycL,BitVec.toNat_not,ycV,BitVec.toNat_allOnes,yaK hx]at h;exact h
def zgg {x:Int} (h1: -9223372036854775808<=x) (h2:x<=9223372036854775807):zbq .xor .i64 x 0=some (.int .i64 x):=by
 show some (D.int .i64 (IntKind.i64.wrap (BitVec.ofInt 64 x ^^^ BitVec.ofInt 64 0).toNat))=_
 have:BitVec.ofInt 64 0=0#64:=rfl;rw[this,ydR,ydv,za0];congr 2;split <;> omega
def zhP {x:Int} (h1: -9223372036854775808<=x) (h2:x<=9223372036854775807):zbq .xor .i64 x (-1)=some (.int .i64 (-x - 1)):=by
 show some (D.int .i64 (IntKind.i64.wrap (BitVec.ofInt 64 x ^^^ BitVec.ofInt 64 (-1)).toNat))=_
 have:BitVec.ofInt 64 (-1)=BitVec.allOnes 64:=by decide
 rw[this,BitVec.xor_allOnes,BitVec.toNat_not,ydv,za0];congr 2;split <;> omega
attribute [simp] zgg zhP
def u8n (n:Nat):UInt8:=UInt8.ofNat n
def zdo {n:Nat} (h:n<256):(u8n n).toNat=n:=by simp[u8n];omega
def zEb (b:UInt8):u8n b.toNat=b:=by simp[u8n]
abbrev bytes (l:List UInt8):List D:=l.map zbh
def zmF {b:UInt8} {x:Int} (h:(b.toNat:Int)=x):zbh b= .int .u8 x:=by simp[zbh,h]
def zcA {n:Nat} (h:n<256):(UInt8.ofNat n).toNat=n:=by simp;omega
@[simp] def zEc (l:List UInt8):(ByteArray.mk l.toArray).toList=l:=by rw[ByteArray.toList_eq]
@[simp] def zH2 (l:List UInt8):(ByteArray.mk l.toArray).size=l.length:=by simp[ByteArray.size]
@[simp] def zBJ (l:List UInt8):l.mapM (byteOf? ∘ zbh)=some l:=by rw[<- List.mapM_map];exact zdt l
@[simp] def zBK (l:List UInt8) (k:Nat):((l.map zbh).take k).mapM byteOf?=some (l.take k):=by rw[<- ybQ,zdt]
@[simp] def zBL (l:List UInt8) (k:Nat):((l.map zbh).drop k).mapM byteOf?=some (l.drop k):=by rw[<- ycc,zdt]
@[simp] def zuL (l:List UInt8) (k j:Nat):(((l.map zbh).take k).drop j).mapM byteOf?=some ((l.take k).drop j):=by rw[<- ybQ,<- ycc,zdt]
@[simp] def zxW (l:List UInt8):zam 1 (l.map zbh)=true:=zaJ l λ_=>rfl
@[simp] def zzi {α:Type} (k:IntKind) (f:α->Int) (l:List α):zam 1 (l.map λx=>D.int k (f x))=true:=zaJ l λ_=>rfl
@[simp] def zzj (l:List ByteArray):zam 1 (l.map D.str)=true:=zaJ l λ_=>rfl
attribute [simp] cut
@[simp] def zzk {α β:Type} (f:α->β) (l:List α):(l.map f).take l.length=l.map f:=yaA (by simp)
attribute [simp] zbh zdo zH1 zEa zJT zEb
attribute [simp] zcb zcY zAl zxS zxT zxU
@[simp] def zzl (m:Nat):((m:Int) % 256).toNat=m % 256:=by omega
@[simp] def zAq (m:Nat):((m:Int) % 4294967296).toNat=m % 4294967296:=by omega
@[simp] def zAr (m:Nat):((m:Int) % 18446744073709551616).toNat=m % 18446744073709551616:=by omega
def zq9 (a b:Int) (h:0<=b):a.fdiv b=a / b:=Int.fdiv_eq_ediv_of_nonneg a h
@[simp] def zFH (a:Int) (w:Nat):a.fdiv (2 ^ w)=a / 2 ^ w:=zq9 a _ (ydS (Int.pow_pos (by decide)))
attribute [simp] zq9
def zxX (a b:Int) (h:0<=a):a.tdiv b=a / b:=Int.tdiv_eq_ediv_of_nonneg h
def zxY (a b:Int) (h:0<=a):a.tmod b=a % b:=Int.tmod_eq_emod_of_nonneg h
attribute [simp] zxX zxY
end Go.Am
namespace Go.Am.Ab
structure Fld where
 id:Int
 name:ByteArray
 kind:Int
 need:Bool
structure Sch where
 id:Int
 fields:List Fld
structure Snap where
 id:Int
 parent:Int
 seq:Int
 offset:Int
 time:Int
 schema:Int
 mans:List ByteArray
structure Tab where
 schemas:List Sch
 snaps:List Snap
 current:Int
structure Pol where
 keep:Int
 age:Int
abbrev u64 (n:Int):D:= .int .u64 n
abbrev i64 (n:Int):D:= .int .i64 n
def Fld.d (f:Fld):D:= .agg [.int .u32 f.id,.str f.name,.int .u8 f.kind,.bool f.need]
def Sch.d (s:Sch):D:= .agg [.int .u32 s.id,.list (s.fields.map Fld.d)]
def Snap.d (s:Snap):D:= .agg [.int .u64 s.id,.int .u64 s.parent,.int .u64 s.seq,.int .u64 s.offset,.int .u64 s.time,.int .u32 s.schema,.list (s.mans.map .str)]
def Tab.d (t:Tab):D:= .agg [.list (t.schemas.map Sch.d),.list (t.snaps.map Snap.d),.int .u64 t.current]
def Pol.d (p:Pol):D:= .agg [.int .i64 p.keep,.int .u64 p.age]
attribute [simp] Fld.d Sch.d Snap.d Tab.d Pol.d
end Go.Am.Ab
namespace Go.Am.Ab
def nI {m n:Nat}:(m:Int)=n↔m=n:=Int.natCast_inj
def wI {x:Int} (h1: -9223372036854775808<=x) (h2:x<=9223372036854775807):IntKind.i64.wrap x=x:=zxR h1 h2
end Go.Am.Ab
namespace Go.Am.Ab
open Go.Proofs
structure Bun (f:FuncId) (fn:Func) (c:Code) (rs:List ResultVar) (ts:List TypeId):Prop where
 a:Tryz.prog.funcs[f]? =some fn
 b:fn.body=some c
 j:fn.results.toList=rs
 d:fn.resultTypes.toList=ts
 e:codeOk Tryz.prog (Hn f) fn.ntmps c=true
 g : (fn.name == "runtime.NumGoroutine") = false
 i:splits G f=false
def rg {f:FuncId} {fn:Func} {c:Code} {rs:List ResultVar} {ts:List TypeId} {args:List V} {h:List Obj} {r:List V × List Obj} (u:Bun f fn c rs ts) (hl:Nat.ble args.length fn.ntmps=true) (hr: ∀T:Option (List V × List Obj)->Prop,T (some r)->T (zuK Tryz.prog h.length rs ts (zcL Tryz.prog G K Hn (zfV Tryz.prog G K Hn) f h.length 0 c ⟨⟩ (zao 0 args) h))):zfV Tryz.prog G K Hn f args h=some r:=zgY u.a u.b u.j u.d u.e u.g (.inl u.i) (ycx hl) hr
def ra {f:FuncId} {fn:Func} {c:Code} {rs:List ResultVar} {ts:List TypeId} {args:List V} {h:List Obj} {p:Option (List V × List Obj)->Prop} (u:Bun f fn c rs ts) (hl:Nat.ble args.length fn.ntmps=true) (hp: ¬ p none) (hr:p (zuK Tryz.prog h.length rs ts (zcL Tryz.prog G K Hn (zfV Tryz.prog G K Hn) f h.length 0 c ⟨⟩ (zao 0 args) h))):p (zfV Tryz.prog G K Hn f args h):=zAi u.a u.b u.j u.d u.e u.g (.inl u.i) (ycx hl) hp hr
def b4:=Bun.mk (f:=4) (rs:=[.tmp 8]) (ts:=[4]) Tryz.func4 rfl rfl rfl (by kernel_rfl) (by kernel_rfl) zJO
def b10:=Bun.mk (f:=10) (rs:=[.tmp 2]) (ts:=[4]) Tryz.func10 rfl rfl rfl (by kernel_rfl) (by kernel_rfl) zGO
def b11:=Bun.mk (f:=11) (rs:=[.tmp 2]) (ts:=[26]) Tryz.func11 rfl rfl rfl (by kernel_rfl) (by kernel_rfl) zGP
def b12:=Bun.mk (f:=12) (rs:=[.cell 6 30,.cell 7 31]) (ts:=[30,31]) Tryz.func12 rfl rfl rfl (by kernel_rfl) (by kernel_rfl) zGQ
def b13:=Bun.mk (f:=13) (rs:=[.tmp 2]) (ts:=[34]) Tryz.func13 rfl rfl rfl (by kernel_rfl) (by kernel_rfl) zGR
def b15:=Bun.mk (f:=15) (rs:=[.tmp 2]) (ts:=[3]) Tryz.func15 rfl rfl rfl (by kernel_rfl) (by kernel_rfl) zGS
def b16:=Bun.mk (f:=16) (rs:=[.tmp 2]) (ts:=[4]) Tryz.func16 rfl rfl rfl (by kernel_rfl) (by kernel_rfl) zGT
def b17:=Bun.mk (f:=17) (rs:=[.tmp 6]) (ts:=[26]) Tryz.func17 rfl rfl rfl (by kernel_rfl) (by kernel_rfl) zGU
def b18:=Bun.mk (f:=18) (rs:=[.tmp 2,.tmp 3]) (ts:=[49,31]) Tryz.func18 rfl rfl rfl (by kernel_rfl) (by kernel_rfl) zGV
def b19:=Bun.mk (f:=19) (rs:=[.tmp 4,.tmp 5]) (ts:=[34,3]) Tryz.func19 rfl rfl rfl (by kernel_rfl) (by kernel_rfl) zGW
def b20:=Bun.mk (f:=20) (rs:=[.tmp 8,.tmp 9]) (ts:=[26,3]) Tryz.func20 rfl rfl rfl (by kernel_rfl) (by kernel_rfl) zGX
def b21:=Bun.mk (f:=21) (rs:=[.tmp 4]) (ts:=[3]) Tryz.func21 rfl rfl rfl (by kernel_rfl) (by kernel_rfl) zGY
def b22:=Bun.mk (f:=22) (rs:=[.tmp 6]) (ts:=[3]) Tryz.func22 rfl rfl rfl (by kernel_rfl) (by kernel_rfl) zGZ
def b23:=Bun.mk (f:=23) (rs:=[.tmp 4]) (ts:=[4]) Tryz.func23 rfl rfl rfl (by kernel_rfl) (by kernel_rfl) zG0
def b26:=Bun.mk (f:=26) (rs:=[.tmp 2]) (ts:=[26]) Tryz.func26 rfl rfl rfl (by kernel_rfl) (by kernel_rfl) zG1
def b33:=Bun.mk (f:=33) (rs:=[.cell 2 77]) (ts:=[77]) Tryz.func33 rfl rfl rfl (by kernel_rfl) (by kernel_rfl) zG2
def b34:=Bun.mk (f:=34) (rs:=[.tmp 4]) (ts:=[58]) Tryz.func34 rfl rfl rfl (by kernel_rfl) (by kernel_rfl) zG3
def b36:=Bun.mk (f:=36) (rs:=[.tmp 4]) (ts:=[4]) Tryz.func36 rfl rfl rfl (by kernel_rfl) (by kernel_rfl) zG4
def b37:=Bun.mk (f:=37) (rs:=[.tmp 2]) (ts:=[58]) Tryz.func37 rfl rfl rfl (by kernel_rfl) (by kernel_rfl) zG5
def b38:=Bun.mk (f:=38) (rs:=[.tmp 2]) (ts:=[58]) Tryz.func38 rfl rfl rfl (by kernel_rfl) (by kernel_rfl) zG6
def b39:=Bun.mk (f:=39) (rs:=[.tmp 2]) (ts:=[31]) Tryz.func39 rfl rfl rfl (by kernel_rfl) (by kernel_rfl) zG7
def b40:=Bun.mk (f:=40) (rs:=[.tmp 4]) (ts:=[31]) Tryz.func40 rfl rfl rfl (by kernel_rfl) (by kernel_rfl) zG8
def b41:=Bun.mk (f:=41) (rs:=[.tmp 2]) (ts:=[30]) Tryz.func41 rfl rfl rfl (by kernel_rfl) (by kernel_rfl) zG9
def b42:=Bun.mk (f:=42) (rs:=[.tmp 2]) (ts:=[30]) Tryz.func42 rfl rfl rfl (by kernel_rfl) (by kernel_rfl) zHa
def b43:=Bun.mk (f:=43) (rs:=[.tmp 4]) (ts:=[92]) Tryz.func43 rfl rfl rfl (by kernel_rfl) (by kernel_rfl) zHb
def b44:=Bun.mk (f:=44) (rs:=[.tmp 4]) (ts:=[71]) Tryz.func44 rfl rfl rfl (by kernel_rfl) (by kernel_rfl) zHc
def b45:=Bun.mk (f:=45) (rs:=[.tmp 4,.tmp 5]) (ts:=[30,31]) Tryz.func45 rfl rfl rfl (by kernel_rfl) (by kernel_rfl) zHd
def b46:=Bun.mk (f:=46) (rs:=[.tmp 4]) (ts:=[30]) Tryz.func46 rfl rfl rfl (by kernel_rfl) (by kernel_rfl) zHe
def b47:=Bun.mk (f:=47) (rs:=[.cell 2 77]) (ts:=[77]) Tryz.func47 rfl rfl rfl (by kernel_rfl) (by kernel_rfl) zHf
def b48:=Bun.mk (f:=48) (rs:=[.tmp 2]) (ts:=[30]) Tryz.func48 rfl rfl rfl (by kernel_rfl) (by kernel_rfl) zHg
def b49:=Bun.mk (f:=49) (rs:=[.tmp 2]) (ts:=[71]) Tryz.func49 rfl rfl rfl (by kernel_rfl) (by kernel_rfl) zHh
def b50:=Bun.mk (f:=50) (rs:=[.tmp 4]) (ts:=[3]) Tryz.func50 rfl rfl rfl (by kernel_rfl) (by kernel_rfl) zHi
def b53:=Bun.mk (f:=53) (rs:=[.tmp 4]) (ts:=[100]) Tryz.func53 rfl rfl rfl (by kernel_rfl) (by kernel_rfl) zHj
def b56:=Bun.mk (f:=56) (rs:=[.tmp 2]) (ts:=[4]) Tryz.func56 rfl rfl rfl (by kernel_rfl) (by kernel_rfl) zHk
def b57:=Bun.mk (f:=57) (rs:=[.tmp 4]) (ts:=[4]) Tryz.func57 rfl rfl rfl (by kernel_rfl) (by kernel_rfl) zHl
def b58:=Bun.mk (f:=58) (rs:=[.tmp 4]) (ts:=[3]) Tryz.func58 rfl rfl rfl (by kernel_rfl) (by kernel_rfl) zHm
def b59:=Bun.mk (f:=59) (rs:=[.tmp 2,.tmp 3]) (ts:=[30,4]) Tryz.func59 rfl rfl rfl (by kernel_rfl) (by kernel_rfl) zHn
def b60:=Bun.mk (f:=60) (rs:=[.tmp 2,.tmp 3]) (ts:=[49,4]) Tryz.func60 rfl rfl rfl (by kernel_rfl) (by kernel_rfl) zHo
def b61:=Bun.mk (f:=61) (rs:=[.tmp 4]) (ts:=[4]) Tryz.func61 rfl rfl rfl (by kernel_rfl) (by kernel_rfl) zHp
def b62:=Bun.mk (f:=62) (rs:=[.tmp 4]) (ts:=[31]) Tryz.func62 rfl rfl rfl (by kernel_rfl) (by kernel_rfl) zHq
def b63:=Bun.mk (f:=63) (rs:=[.cell 6 115]) (ts:=[115]) Tryz.func63 rfl rfl rfl (by kernel_rfl) (by kernel_rfl) zHr
def b64:=Bun.mk (f:=64) (rs:=[.tmp 6]) (ts:=[117]) Tryz.func64 rfl rfl rfl (by kernel_rfl) (by kernel_rfl) zHs
def b66:=Bun.mk (f:=66) (rs:=[.cell 6 115]) (ts:=[115]) Tryz.func66 rfl rfl rfl (by kernel_rfl) (by kernel_rfl) zHt
def b67:=Bun.mk (f:=67) (rs:=[.tmp 4]) (ts:=[3]) Tryz.func67 rfl rfl rfl (by kernel_rfl) (by kernel_rfl) zHu
def b68:=Bun.mk (f:=68) (rs:=[.tmp 4]) (ts:=[3]) Tryz.func68 rfl rfl rfl (by kernel_rfl) (by kernel_rfl) zHv
def b69:=Bun.mk (f:=69) (rs:=[.tmp 4]) (ts:=[3]) Tryz.func69 rfl rfl rfl (by kernel_rfl) (by kernel_rfl) zHw
def b70:=Bun.mk (f:=70) (rs:=[.tmp 2]) (ts:=[3]) Tryz.func70 rfl rfl rfl (by kernel_rfl) (by kernel_rfl) zHx
def b71:=Bun.mk (f:=71) (rs:=[.cell 2 41]) (ts:=[41]) Tryz.func71 rfl rfl rfl (by kernel_rfl) (by kernel_rfl) zHy
def b72:=Bun.mk (f:=72) (rs:=[.tmp 4]) (ts:=[4]) Tryz.func72 rfl rfl rfl (by kernel_rfl) (by kernel_rfl) zHz
def b73:=Bun.mk (f:=73) (rs:=[.tmp 4]) (ts:=[4]) Tryz.func73 rfl rfl rfl (by kernel_rfl) (by kernel_rfl) zHA
def b74:=Bun.mk (f:=74) (rs:=[.tmp 4]) (ts:=[4]) Tryz.func74 rfl rfl rfl (by kernel_rfl) (by kernel_rfl) zHB
def b78:=Bun.mk (f:=78) (rs:=[.tmp 2,.tmp 3,.tmp 4]) (ts:=[129,129,4]) Tryz.func78 rfl rfl rfl (by kernel_rfl) (by kernel_rfl) zHC
def b79:=Bun.mk (f:=79) (rs:=[.tmp 4]) (ts:=[9]) Tryz.func79 rfl rfl rfl (by kernel_rfl) (by kernel_rfl) zHD
def b80:=Bun.mk (f:=80) (rs:=[.tmp 4,.tmp 5]) (ts:=[9,4]) Tryz.func80 rfl rfl rfl (by kernel_rfl) (by kernel_rfl) zHE
def b81:=Bun.mk (f:=81) (rs:=[.cell 2 41]) (ts:=[41]) Tryz.func81 rfl rfl rfl (by kernel_rfl) (by kernel_rfl) zHF
def b82:=Bun.mk (f:=82) (rs:=[.tmp 2]) (ts:=[4]) Tryz.func82 rfl rfl rfl (by kernel_rfl) (by kernel_rfl) zHG
def b83:=Bun.mk (f:=83) (rs:=[.tmp 4]) (ts:=[4]) Tryz.func83 rfl rfl rfl (by kernel_rfl) (by kernel_rfl) zHH
def b84:=Bun.mk (f:=84) (rs:=[.tmp 3]) (ts:=[4]) Tryz.func84 rfl rfl rfl (by kernel_rfl) (by kernel_rfl) zHI
def b85:=Bun.mk (f:=85) (rs:=[.tmp 2]) (ts:=[4]) Tryz.func85 rfl rfl rfl (by kernel_rfl) (by kernel_rfl) zHJ
def b86:=Bun.mk (f:=86) (rs:=[.tmp 2]) (ts:=[39]) Tryz.func86 rfl rfl rfl (by kernel_rfl) (by kernel_rfl) zHK
def b88:=Bun.mk (f:=88) (rs:=[.tmp 2]) (ts:=[4]) Tryz.func88 rfl rfl rfl (by kernel_rfl) (by kernel_rfl) zHL
def b89:=Bun.mk (f:=89) (rs:=[.tmp 4]) (ts:=[4]) Tryz.func89 rfl rfl rfl (by kernel_rfl) (by kernel_rfl) zHM
def b90:=Bun.mk (f:=90) (rs:=[.tmp 2]) (ts:=[30]) Tryz.func90 rfl rfl rfl (by kernel_rfl) (by kernel_rfl) zHN
def b91:=Bun.mk (f:=91) (rs:=[.tmp 2,.tmp 3]) (ts:=[30,4]) Tryz.func91 rfl rfl rfl (by kernel_rfl) (by kernel_rfl) zHO
def b92:=Bun.mk (f:=92) (rs:=[.tmp 2]) (ts:=[30]) Tryz.func92 rfl rfl rfl (by kernel_rfl) (by kernel_rfl) zHP
def b93:=Bun.mk (f:=93) (rs:=[.tmp 4]) (ts:=[30]) Tryz.func93 rfl rfl rfl (by kernel_rfl) (by kernel_rfl) zHQ
def b94:=Bun.mk (f:=94) (rs:=[.tmp 2]) (ts:=[4]) Tryz.func94 rfl rfl rfl (by kernel_rfl) (by kernel_rfl) zHR
def b95:=Bun.mk (f:=95) (rs:=[.tmp 4]) (ts:=[3]) Tryz.func95 rfl rfl rfl (by kernel_rfl) (by kernel_rfl) zHS
def b96:=Bun.mk (f:=96) (rs:=[.tmp 4]) (ts:=[9]) Tryz.func96 rfl rfl rfl (by kernel_rfl) (by kernel_rfl) zHT
def b97:=Bun.mk (f:=97) (rs:=[.tmp 4,.tmp 5]) (ts:=[9,4]) Tryz.func97 rfl rfl rfl (by kernel_rfl) (by kernel_rfl) zHU
def b98:=Bun.mk (f:=98) (rs:=[.cell 2 41,.tmp 3]) (ts:=[41,4]) Tryz.func98 rfl rfl rfl (by kernel_rfl) (by kernel_rfl) zHV
def b99:=Bun.mk (f:=99) (rs:=[.tmp 2]) (ts:=[22]) Tryz.func99 rfl rfl rfl (by kernel_rfl) (by kernel_rfl) zHW
def zJU:=Bun.mk (f:=101) (rs:=[.tmp 2]) (ts:=[70]) Tryz.func101 rfl rfl rfl (by kernel_rfl) (by kernel_rfl) zCN
def zJV:=Bun.mk (f:=107) (rs:=[.cell 2 25,.tmp 3,.tmp 4]) (ts:=[25,30,31]) Tryz.func107 rfl rfl rfl (by kernel_rfl) (by kernel_rfl) zCO
def zFI:=Bun.mk (f:=108) (rs:=[.tmp 4]) (ts:=[3]) Tryz.func108 rfl rfl rfl (by kernel_rfl) (by kernel_rfl) zCP
def zJW:=Bun.mk (f:=109) (rs:=[]) (ts:=[]) Tryz.func109 rfl rfl rfl (by kernel_rfl) (by kernel_rfl) zCQ
def zBM:=Bun.mk (f:=110) (rs:=[.tmp 6,.tmp 7]) (ts:=[71,31]) Tryz.func110 rfl rfl rfl (by kernel_rfl) (by kernel_rfl) zCR
def zH3:=Bun.mk (f:=111) (rs:=[.tmp 6]) (ts:=[4]) Tryz.func111 rfl rfl rfl (by kernel_rfl) (by kernel_rfl) zCS
def zzm:=Bun.mk (f:=112) (rs:=[.tmp 4]) (ts:=[31]) Tryz.func112 rfl rfl rfl (by kernel_rfl) (by kernel_rfl) zCT
def zIR:=Bun.mk (f:=113) (rs:=[.tmp 4]) (ts:=[117]) Tryz.func113 rfl rfl rfl (by kernel_rfl) (by kernel_rfl) zCU
def zIS:=Bun.mk (f:=114) (rs:=[.tmp 4]) (ts:=[117]) Tryz.func114 rfl rfl rfl (by kernel_rfl) (by kernel_rfl) zCV
def zJX:=Bun.mk (f:=116) (rs:=[.tmp 4,.tmp 5]) (ts:=[3,4]) Tryz.func116 rfl rfl rfl (by kernel_rfl) (by kernel_rfl) zCW
def zzn:=Bun.mk (f:=117) (rs:=[.cell 4 115]) (ts:=[115]) Tryz.func117 rfl rfl rfl (by kernel_rfl) (by kernel_rfl) zCX
def zJY:=Bun.mk (f:=118) (rs:=[.tmp 2]) (ts:=[117]) Tryz.func118 rfl rfl rfl (by kernel_rfl) (by kernel_rfl) zCY
def zzo:=Bun.mk (f:=119) (rs:=[.tmp 4]) (ts:=[117]) Tryz.func119 rfl rfl rfl (by kernel_rfl) (by kernel_rfl) zCZ
def zIT:=Bun.mk (f:=120) (rs:=[.tmp 2]) (ts:=[3]) Tryz.func120 rfl rfl rfl (by kernel_rfl) (by kernel_rfl) zC0
def zJZ:=Bun.mk (f:=121) (rs:=[.tmp 4]) (ts:=[4]) Tryz.func121 rfl rfl rfl (by kernel_rfl) (by kernel_rfl) zC1
def zxZ:=Bun.mk (f:=122) (rs:=[.tmp 2,.tmp 3,.tmp 4]) (ts:=[3,3,4]) Tryz.func122 rfl rfl rfl (by kernel_rfl) (by kernel_rfl) zC2
def zFJ:=Bun.mk (f:=123) (rs:=[.tmp 2]) (ts:=[30]) Tryz.func123 rfl rfl rfl (by kernel_rfl) (by kernel_rfl) zC3
def zIU:=Bun.mk (f:=124) (rs:=[.tmp 4]) (ts:=[3]) Tryz.func124 rfl rfl rfl (by kernel_rfl) (by kernel_rfl) zC4
def zIV:=Bun.mk (f:=125) (rs:=[.tmp 4]) (ts:=[3]) Tryz.func125 rfl rfl rfl (by kernel_rfl) (by kernel_rfl) zC5
def zJ0:=Bun.mk (f:=126) (rs:=[.tmp 4,.tmp 5]) (ts:=[30,4]) Tryz.func126 rfl rfl rfl (by kernel_rfl) (by kernel_rfl) zC6
def zEd:=Bun.mk (f:=127) (rs:=[.tmp 4,.tmp 5]) (ts:=[30,4]) Tryz.func127 rfl rfl rfl (by kernel_rfl) (by kernel_rfl) zC7
def zH4:=Bun.mk (f:=128) (rs:=[.tmp 4]) (ts:=[30]) Tryz.func128 rfl rfl rfl (by kernel_rfl) (by kernel_rfl) zC8
def zJ1:=Bun.mk (f:=129) (rs:=[.tmp 2]) (ts:=[30]) Tryz.func129 rfl rfl rfl (by kernel_rfl) (by kernel_rfl) zC9
def zIW:=Bun.mk (f:=132) (rs:=[.tmp 2]) (ts:=[143]) Tryz.func132 rfl rfl rfl (by kernel_rfl) (by kernel_rfl) zDa
def zJ2:=Bun.mk (f:=133) (rs:=[.tmp 4,.tmp 5]) (ts:=[3,4]) Tryz.func133 rfl rfl rfl (by kernel_rfl) (by kernel_rfl) zDb
def zIX:=Bun.mk (f:=134) (rs:=[.tmp 2]) (ts:=[30]) Tryz.func134 rfl rfl rfl (by kernel_rfl) (by kernel_rfl) zDc
def zJ3:=Bun.mk (f:=135) (rs:=[.tmp 4]) (ts:=[4]) Tryz.func135 rfl rfl rfl (by kernel_rfl) (by kernel_rfl) zDd
def zH5:=Bun.mk (f:=136) (rs:=[.tmp 4]) (ts:=[3]) Tryz.func136 rfl rfl rfl (by kernel_rfl) (by kernel_rfl) zDe
def zH6:=Bun.mk (f:=137) (rs:=[.tmp 4]) (ts:=[3]) Tryz.func137 rfl rfl rfl (by kernel_rfl) (by kernel_rfl) zDf
def zH7:=Bun.mk (f:=138) (rs:=[.tmp 4]) (ts:=[3]) Tryz.func138 rfl rfl rfl (by kernel_rfl) (by kernel_rfl) zDg
def zJ4:=Bun.mk (f:=139) (rs:=[.tmp 2]) (ts:=[117]) Tryz.func139 rfl rfl rfl (by kernel_rfl) (by kernel_rfl) zDh
def zH8:=Bun.mk (f:=140) (rs:=[.tmp 4]) (ts:=[3]) Tryz.func140 rfl rfl rfl (by kernel_rfl) (by kernel_rfl) zDi
def zJ5:=Bun.mk (f:=141) (rs:=[.tmp 2]) (ts:=[3]) Tryz.func141 rfl rfl rfl (by kernel_rfl) (by kernel_rfl) zDj
def zH9:=Bun.mk (f:=142) (rs:=[.tmp 2,.tmp 3]) (ts:=[21,4]) Tryz.func142 rfl rfl rfl (by kernel_rfl) (by kernel_rfl) zDk
def zJ6:=Bun.mk (f:=143) (rs:=[.tmp 4]) (ts:=[22]) Tryz.func143 rfl rfl rfl (by kernel_rfl) (by kernel_rfl) zDl
def zFK:=Bun.mk (f:=148) (rs:=[.tmp 4]) (ts:=[90]) Tryz.func148 rfl rfl rfl (by kernel_rfl) (by kernel_rfl) zDm
def zJ7:=Bun.mk (f:=149) (rs:=[.tmp 2,.tmp 3,.tmp 4]) (ts:=[90,3,31]) Tryz.func149 rfl rfl rfl (by kernel_rfl) (by kernel_rfl) zDn
def zIa:=Bun.mk (f:=150) (rs:=[]) (ts:=[]) Tryz.func150 rfl rfl rfl (by kernel_rfl) (by kernel_rfl) zDo
def zFL:=Bun.mk (f:=151) (rs:=[]) (ts:=[]) Tryz.func151 rfl rfl rfl (by kernel_rfl) (by kernel_rfl) zDp
def zBN:=Bun.mk (f:=152) (rs:=[.tmp 6,.tmp 7]) (ts:=[71,31]) Tryz.func152 rfl rfl rfl (by kernel_rfl) (by kernel_rfl) zDq
def zsM:=Bun.mk (f:=153) (rs:=[.tmp 4]) (ts:=[31]) Tryz.func153 rfl rfl rfl (by kernel_rfl) (by kernel_rfl) zDr
def zJ8:=Bun.mk (f:=154) (rs:=[.tmp 2]) (ts:=[117]) Tryz.func154 rfl rfl rfl (by kernel_rfl) (by kernel_rfl) zDs
def zJ9:=Bun.mk (f:=155) (rs:=[.tmp 3]) (ts:=[4]) Tryz.func155 rfl rfl rfl (by kernel_rfl) (by kernel_rfl) zDt
def zsN:=Bun.mk (f:=156) (rs:=[.tmp 2,.tmp 3]) (ts:=[70,31]) Tryz.func156 rfl rfl rfl (by kernel_rfl) (by kernel_rfl) zDu
def zKa:=Bun.mk (f:=157) (rs:=[.tmp 4]) (ts:=[4]) Tryz.func157 rfl rfl rfl (by kernel_rfl) (by kernel_rfl) zDv
def zKb:=Bun.mk (f:=158) (rs:=[.tmp 2]) (ts:=[3]) Tryz.func158 rfl rfl rfl (by kernel_rfl) (by kernel_rfl) zDw
def zKc:=Bun.mk (f:=159) (rs:=[.tmp 2]) (ts:=[30]) Tryz.func159 rfl rfl rfl (by kernel_rfl) (by kernel_rfl) zDx
def zKd:=Bun.mk (f:=160) (rs:=[.tmp 2]) (ts:=[30]) Tryz.func160 rfl rfl rfl (by kernel_rfl) (by kernel_rfl) zDy
def zKe:=Bun.mk (f:=161) (rs:=[.tmp 2]) (ts:=[30]) Tryz.func161 rfl rfl rfl (by kernel_rfl) (by kernel_rfl) zDz
def zIY:=Bun.mk (f:=162) (rs:=[.tmp 2]) (ts:=[30]) Tryz.func162 rfl rfl rfl (by kernel_rfl) (by kernel_rfl) zDA
def zIZ:=Bun.mk (f:=163) (rs:=[.tmp 2]) (ts:=[30]) Tryz.func163 rfl rfl rfl (by kernel_rfl) (by kernel_rfl) zDB
def zKf:=Bun.mk (f:=166) (rs:=[.tmp 4]) (ts:=[4]) Tryz.func166 rfl rfl rfl (by kernel_rfl) (by kernel_rfl) zDC
def zI0:=Bun.mk (f:=168) (rs:=[.tmp 4]) (ts:=[4]) Tryz.func168 rfl rfl rfl (by kernel_rfl) (by kernel_rfl) zDD
def zKg:=Bun.mk (f:=169) (rs:=[.tmp 2]) (ts:=[4]) Tryz.func169 rfl rfl rfl (by kernel_rfl) (by kernel_rfl) zDE
def zI1:=Bun.mk (f:=170) (rs:=[.tmp 2]) (ts:=[4]) Tryz.func170 rfl rfl rfl (by kernel_rfl) (by kernel_rfl) zDF
def zKh:=Bun.mk (f:=171) (rs:=[.tmp 2]) (ts:=[4]) Tryz.func171 rfl rfl rfl (by kernel_rfl) (by kernel_rfl) zDG
def zI2:=Bun.mk (f:=172) (rs:=[.tmp 2]) (ts:=[4]) Tryz.func172 rfl rfl rfl (by kernel_rfl) (by kernel_rfl) zDH
def zI3:=Bun.mk (f:=176) (rs:=[.tmp 2,.tmp 3,.tmp 4]) (ts:=[2,3,31]) Tryz.func176 rfl rfl rfl (by kernel_rfl) (by kernel_rfl) zDI
def zI4:=Bun.mk (f:=177) (rs:=[.tmp 4]) (ts:=[156]) Tryz.func177 rfl rfl rfl (by kernel_rfl) (by kernel_rfl) zDJ
def zIb:=Bun.mk (f:=178) (rs:=[.tmp 6,.tmp 7]) (ts:=[156,31]) Tryz.func178 rfl rfl rfl (by kernel_rfl) (by kernel_rfl) zDK
def zIc:=Bun.mk (f:=179) (rs:=[.tmp 6,.tmp 7]) (ts:=[71,31]) Tryz.func179 rfl rfl rfl (by kernel_rfl) (by kernel_rfl) zDL
def zKi:=Bun.mk (f:=180) (rs:=[.tmp 2]) (ts:=[3]) Tryz.func180 rfl rfl rfl (by kernel_rfl) (by kernel_rfl) zDM
def zI5:=Bun.mk (f:=181) (rs:=[.tmp 2]) (ts:=[142]) Tryz.func181 rfl rfl rfl (by kernel_rfl) (by kernel_rfl) zDN
def zKj:=Bun.mk (f:=182) (rs:=[.tmp 4,.tmp 5]) (ts:=[3,4]) Tryz.func182 rfl rfl rfl (by kernel_rfl) (by kernel_rfl) zDO
def zKk:=Bun.mk (f:=183) (rs:=[.tmp 2]) (ts:=[30]) Tryz.func183 rfl rfl rfl (by kernel_rfl) (by kernel_rfl) zDP
def zKl:=Bun.mk (f:=184) (rs:=[.tmp 2]) (ts:=[2]) Tryz.func184 rfl rfl rfl (by kernel_rfl) (by kernel_rfl) zDQ
def zKm:=Bun.mk (f:=194) (rs:=[.tmp 4,.tmp 5]) (ts:=[47,47]) Tryz.func194 rfl rfl rfl (by kernel_rfl) (by kernel_rfl) zDR
def zEe:=Bun.mk (f:=195) (rs:=[.tmp 4,.tmp 5]) (ts:=[142,31]) Tryz.func195 rfl rfl rfl (by kernel_rfl) (by kernel_rfl) zDS
def zw2:=Bun.mk (f:=196) (rs:=[.tmp 4,.tmp 5]) (ts:=[143,31]) Tryz.func196 rfl rfl rfl (by kernel_rfl) (by kernel_rfl) zDT
def zI6:=Bun.mk (f:=199) (rs:=[.tmp 2]) (ts:=[142]) Tryz.func199 rfl rfl rfl (by kernel_rfl) (by kernel_rfl) zDU
def zKn:=Bun.mk (f:=200) (rs:=[.tmp 4]) (ts:=[4]) Tryz.func200 rfl rfl rfl (by kernel_rfl) (by kernel_rfl) zDV
def zKo:=Bun.mk (f:=208) (rs:=[.tmp 4,.tmp 5]) (ts:=[90,90]) Tryz.func208 rfl rfl rfl (by kernel_rfl) (by kernel_rfl) zDW
def zKp:=Bun.mk (f:=209) (rs:=[.tmp 2]) (ts:=[2]) Tryz.func209 rfl rfl rfl (by kernel_rfl) (by kernel_rfl) zDX
def zKq:=Bun.mk (f:=210) (rs:=[.tmp 4]) (ts:=[142]) Tryz.func210 rfl rfl rfl (by kernel_rfl) (by kernel_rfl) zDY
def zEf:=Bun.mk (f:=211) (rs:=[.tmp 4]) (ts:=[142]) Tryz.func211 rfl rfl rfl (by kernel_rfl) (by kernel_rfl) zDZ
def zBO:=Bun.mk (f:=212) (rs:=[.tmp 4]) (ts:=[142]) Tryz.func212 rfl rfl rfl (by kernel_rfl) (by kernel_rfl) zD0
def zId:=Bun.mk (f:=213) (rs:=[]) (ts:=[]) Tryz.func213 rfl rfl rfl (by kernel_rfl) (by kernel_rfl) zD1
def zFM:=Bun.mk (f:=214) (rs:=[.tmp 4,.tmp 5,.tmp 6]) (ts:=[143,30,31]) Tryz.func214 rfl rfl rfl (by kernel_rfl) (by kernel_rfl) zD2
def zI7:=Bun.mk (f:=217) (rs:=[.tmp 2]) (ts:=[90]) Tryz.func217 rfl rfl rfl (by kernel_rfl) (by kernel_rfl) zD3
def zI8:=Bun.mk (f:=218) (rs:=[.tmp 4]) (ts:=[142]) Tryz.func218 rfl rfl rfl (by kernel_rfl) (by kernel_rfl) zD4
def zFN:=Bun.mk (f:=219) (rs:=[.tmp 6]) (ts:=[156]) Tryz.func219 rfl rfl rfl (by kernel_rfl) (by kernel_rfl) zD5
attribute [simp] zao nI wI
end Go.Am.Ab
