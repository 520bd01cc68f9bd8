/- Facts on the types of the program, what loops keep, numbers. -/
import Derived.Test.YtibdiacpdmhmnaaGreatDoorProg
import Derived.KernelRfl
import Derived.Test.YtibdiacpdmhmnaaGreatDoorMachD
set_option linter.all false
namespace Go.Am.Ab
open Go.Proofs
attribute [simp] Tryz.underlying0 Tryz.underlying2 Tryz.underlying3 Tryz.underlying4 Tryz.underlying5 Tryz.underlying9 Tryz.underlying20 Tryz.underlying21 Tryz.underlying22 Tryz.underlying23 Tryz.underlying24 Tryz.underlying25 Tryz.underlying26 Tryz.underlying30 Tryz.underlying31 Tryz.underlying32 Tryz.underlying34 Tryz.underlying36 Tryz.underlying39 Tryz.underlying40 Tryz.underlying41 Tryz.underlying42 Tryz.underlying43 Tryz.underlying44 Tryz.underlying47 Tryz.underlying49 Tryz.underlying50 Tryz.underlying52 Tryz.underlying54 Tryz.underlying58 Tryz.underlying62 Tryz.underlying70 Tryz.underlying71 Tryz.underlying72 Tryz.underlying73 Tryz.underlying76 Tryz.underlying77 Tryz.underlying78 Tryz.underlying90 Tryz.underlying91 Tryz.underlying92 Tryz.underlying100 Tryz.underlying107 Tryz.underlying109 Tryz.underlying110 Tryz.underlying111 Tryz.underlying113 Tryz.underlying115 Tryz.underlying117 Tryz.underlying129 Tryz.underlying130 Tryz.underlying133 Tryz.underlying137 Tryz.underlying140 Tryz.underlying141 Tryz.underlying142 Tryz.underlying143 Tryz.underlying144 Tryz.underlying145 Tryz.underlying152 Tryz.underlying156 Tryz.underlying160 Tryz.underlying162 Tryz.underlying163 Tryz.underlying164 Tryz.underlying167 Tryz.underlying170 Tryz.underlying171 Tryz.underlying173 Tryz.underlying180 Tryz.underlying187 Tryz.underlying188 Tryz.underlying198 Tryz.underlying199 Tryz.underlying202 Tryz.underlying203 Tryz.underlying204 Tryz.underlying206 Tryz.underlying209 Tryz.underlying212 Tryz.underlying217 Tryz.underlying220 Tryz.underlying223 Tryz.underlying229 Tryz.underlying230 Tryz.underlying236 Tryz.underlying238 Tryz.underlying240 Tryz.underlying244 Tryz.underlying249 Tryz.underlying251 Tryz.underlying253 Tryz.underlying254 Tryz.underlying255 Tryz.underlying259 Tryz.underlying262 Tryz.underlying263
@[simp] def sz2:sizeOf? Tryz.prog 2=some 1:=by kernel_rfl
@[simp] def zs3:zeroVs? Tryz.prog 3=some [.d (.int .i64 0)]:=by kernel_rfl
@[simp] def al3 (h:List Am.Obj):zcV Tryz.prog h 3=some (.ptr h.length 0,h++[.box [.d (.int .i64 0)]]):=zcs zs3
@[simp] def zCD (parts:List (Nat × V)):za6 Tryz.prog 24 parts=(zb8 (λi=>[(0,1),(1,1)][i]?) [.d (.int .u32 0),.nilS] parts).map zb7:=zal (by kernel_rfl) (by kernel_rfl)
@[simp] def zCE (parts:List (Nat × V)):za6 Tryz.prog 25 parts=(zb8 (λi=>[(0,1),(1,1)][i]?) [.d (.int .u32 0),.nilS] parts).map zb7:=zal (by kernel_rfl) (by kernel_rfl)
@[simp] def sz0:sizeOf? Tryz.prog 0=some 1/\agg? Tryz.prog 0=some false/\agg? Tryz.prog 2=some false/\zeroVs? Tryz.prog 2=some [.d (.int .i64 0)]/\(zero? Tryz.prog 2).isSome=true/\appElem? Tryz.prog 2=some 1/\zeroD? Tryz.prog 2=some (.int .i64 0)/\sizeOf? Tryz.prog 3=some 1/\agg? Tryz.prog 3=some false/\(zero? Tryz.prog 3).isSome=true/\appElem? Tryz.prog 3=some 1/\zeroD? Tryz.prog 3=some (.int .i64 0)/\sizeOf? Tryz.prog 4=some 1/\agg? Tryz.prog 4=some false/\zeroVs? Tryz.prog 4=some [.d (.bool false)]/\(zero? Tryz.prog 4).isSome=true/\appElem? Tryz.prog 4=some 1/\makeElem? Tryz.prog 4=some (1,.bool false)/\zeroD? Tryz.prog 4=some (.bool false)/\sizeOf? Tryz.prog 5=some 1/\agg? Tryz.prog 5=some false/\zeroVs? Tryz.prog 5=some [.d (.int .u8 0)]/\(zero? Tryz.prog 5).isSome=true/\appElem? Tryz.prog 5=some 1/\makeElem? Tryz.prog 5=some (1,.int .u8 0)/\zeroD? Tryz.prog 5=some (.int .u8 0)/\sizeOf? Tryz.prog 9=some 1/\agg? Tryz.prog 9=some false/\zeroVs? Tryz.prog 9=some [.d (.str ⟨#[]⟩)]/\(zero? Tryz.prog 9).isSome=true/\appElem? Tryz.prog 9=some 1/\zeroD? Tryz.prog 9=some (.str ⟨#[]⟩)/\sizeOf? Tryz.prog 20=some 1/\agg? Tryz.prog 20=some false/\sizeOf? Tryz.prog 21=some 1/\agg? Tryz.prog 21=some false/\zeroVs? Tryz.prog 21=some [.d (.int .i32 0)]/\appElem? Tryz.prog 21=some 1/\zeroD? Tryz.prog 21=some (.int .i32 0)/\sizeOf? Tryz.prog 22=some 1/\agg? Tryz.prog 22=some false/\sizeOf? Tryz.prog 23=some 1/\agg? Tryz.prog 23=some false/\zaZ Tryz.prog 23=4/\sizeOf? Tryz.prog 24=some 2/\agg? Tryz.prog 24=some true/\fieldOff? Tryz.prog 24 0=some (0,22)/\fieldOff? Tryz.prog 24 1=some (1,23)/\sizeOf? Tryz.prog 25=some 2/\agg? Tryz.prog 25=some true/\fieldOff? Tryz.prog 25 0=some (0,22)/\fieldOff? Tryz.prog 25 1=some (1,23)/\sizeOf? Tryz.prog 26=some 1/\agg? Tryz.prog 26=some false/\zeroVs? Tryz.prog 26=some [.nilS]/\(zero? Tryz.prog 26).isSome=true/\appElem? Tryz.prog 26=some 1/\zeroD? Tryz.prog 26=some (.list [])/\zaZ Tryz.prog 26=1/\sizeOf? Tryz.prog 30=some 1:=by and_intros<;>kernel_rfl
@[simp] def zAX:zeroVs? Tryz.prog 30=some [.nilS]:=by kernel_rfl
@[simp] def zCF (h:List Am.Obj):zcV Tryz.prog h 30=some (.ptr h.length 0,h++[.box [.nilS]]):=zcs zAX
@[simp] def zAY:zeroVs? Tryz.prog 31=some [.d (.int .i64 0)]:=by kernel_rfl
@[simp] def zCG (h:List Am.Obj):zcV Tryz.prog h 31=some (.ptr h.length 0,h++[.box [.d (.int .i64 0)]]):=zcs zAY
@[simp] def zCH (parts:List (Nat × V)):za6 Tryz.prog 40 parts=(zb8 (λi=>[(0,1),(1,1),(2,1)][i]?) [.d (.int .u8 0),.d (.int .i64 0),.d (.str ⟨#[]⟩)] parts).map zb7:=zal (by kernel_rfl) (by kernel_rfl)
@[simp] def zAZ:zeroVs? Tryz.prog 41=some [.d (.int .u8 0),.d (.int .i64 0),.d (.str ⟨#[]⟩)]:=by kernel_rfl
@[simp] def zCI (h:List Am.Obj):zcV Tryz.prog h 41=some (.ptr h.length 0,h++[.box [.d (.int .u8 0),.d (.int .i64 0),.d (.str ⟨#[]⟩)]]):=zcs zAZ
@[simp] def zCJ (parts:List (Nat × V)):za6 Tryz.prog 41 parts=(zb8 (λi=>[(0,1),(1,1),(2,1)][i]?) [.d (.int .u8 0),.d (.int .i64 0),.d (.str ⟨#[]⟩)] parts).map zb7:=zal (by kernel_rfl) (by kernel_rfl)
@[simp] def zCK (parts:List (Nat × V)):za6 Tryz.prog 43 parts=(zb8 (λi=>[(0,1),(1,1),(2,3),(5,1)][i]?) [.d (.int .u8 0),.d (.int .u32 0),.d (.int .u8 0),.d (.int .i64 0),.d (.str ⟨#[]⟩),.nilS] parts).map zb7:=zal (by kernel_rfl) (by kernel_rfl)
@[simp] def zCL (parts:List (Nat × V)):za6 Tryz.prog 44 parts=(zb8 (λi=>[(0,1),(1,1),(2,3),(5,1)][i]?) [.d (.int .u8 0),.d (.int .u32 0),.d (.int .u8 0),.d (.int .i64 0),.d (.str ⟨#[]⟩),.nilS] parts).map zb7:=zal (by kernel_rfl) (by kernel_rfl)
@[simp] def zCM:agg? Tryz.prog 30=some false/\zaZ Tryz.prog 30=1/\sizeOf? Tryz.prog 31=some 1/\agg? Tryz.prog 31=some false/\sizeOf? Tryz.prog 32=some 1/\agg? Tryz.prog 32=some false/\sizeOf? Tryz.prog 34=some 1/\agg? Tryz.prog 34=some false/\zaZ Tryz.prog 34=1/\sizeOf? Tryz.prog 36=some 1/\agg? Tryz.prog 36=some false/\sizeOf? Tryz.prog 39=some 1/\agg? Tryz.prog 39=some false/\sizeOf? Tryz.prog 40=some 3/\agg? Tryz.prog 40=some true/\fieldOff? Tryz.prog 40 0=some (0,39)/\fieldOff? Tryz.prog 40 1=some (1,2)/\fieldOff? Tryz.prog 40 2=some (2,9)/\zcG Tryz.prog 40=some [(0,0),(1,0),(2,2)]/\sizeOf? Tryz.prog 41=some 3/\agg? Tryz.prog 41=some true/\(zero? Tryz.prog 41).isSome=true/\appElem? Tryz.prog 41=some 3/\fieldOff? Tryz.prog 41 0=some (0,39)/\fieldOff? Tryz.prog 41 1=some (1,2)/\fieldOff? Tryz.prog 41 2=some (2,9)/\zcG Tryz.prog 41=some [(0,0),(1,0),(2,2)]/\zeroD? Tryz.prog 41=some (.agg [.int .u8 0,.int .i64 0,.str ⟨#[]⟩])/\sizeOf? Tryz.prog 42=some 1/\agg? Tryz.prog 42=some false/\zaZ Tryz.prog 42=6/\sizeOf? Tryz.prog 43=some 6/\agg? Tryz.prog 43=some true/\fieldOff? Tryz.prog 43 0=some (0,5)/\fieldOff? Tryz.prog 43 1=some (1,22)/\fieldOff? Tryz.prog 43 2=some (2,41)/\fieldOff? Tryz.prog 43 3=some (5,42)/\sizeOf? Tryz.prog 44=some 6/\agg? Tryz.prog 44=some true/\fieldOff? Tryz.prog 44 0=some (0,5)/\fieldOff? Tryz.prog 44 1=some (1,22)/\fieldOff? Tryz.prog 44 2=some (2,41)/\fieldOff? Tryz.prog 44 3=some (5,42)/\sizeOf? Tryz.prog 47=some 1/\agg? Tryz.prog 47=some false/\sizeOf? Tryz.prog 49=some 1/\agg? Tryz.prog 49=some false/\sizeOf? Tryz.prog 50=some 1/\agg? Tryz.prog 50=some false/\sizeOf? Tryz.prog 52=some 1/\agg? Tryz.prog 52=some false/\sizeOf? Tryz.prog 54=some 1/\agg? Tryz.prog 54=some false/\sizeOf? Tryz.prog 58=some 1/\agg? Tryz.prog 58=some false/\zeroVs? Tryz.prog 58=some [.nilS]/\(zero? Tryz.prog 58).isSome=true/\appElem? Tryz.prog 58=some 1/\zeroD? Tryz.prog 58=some (.list [])/\zaZ Tryz.prog 58=3:=by and_intros<;>kernel_rfl
@[simp] def zCN (parts:List (Nat × V)):za6 Tryz.prog 72 parts=(zb8 (λi=>[(0,1),(1,1),(2,1),(3,1)][i]?) [.d (.int .u32 0),.d (.str ⟨#[]⟩),.d (.int .u8 0),.d (.bool false)] parts).map zb7:=zal (by kernel_rfl) (by kernel_rfl)
@[simp] def zA0:zeroVs? Tryz.prog 73=some [.d (.int .u32 0),.d (.str ⟨#[]⟩),.d (.int .u8 0),.d (.bool false)]:=by kernel_rfl
@[simp] def zCO (h:List Am.Obj):zcV Tryz.prog h 73=some (.ptr h.length 0,h++[.box [.d (.int .u32 0),.d (.str ⟨#[]⟩),.d (.int .u8 0),.d (.bool false)]]):=zcs zA0
@[simp] def zCP (parts:List (Nat × V)):za6 Tryz.prog 73 parts=(zb8 (λi=>[(0,1),(1,1),(2,1),(3,1)][i]?) [.d (.int .u32 0),.d (.str ⟨#[]⟩),.d (.int .u8 0),.d (.bool false)] parts).map zb7:=zal (by kernel_rfl) (by kernel_rfl)
@[simp] def zCQ (parts:List (Nat × V)):za6 Tryz.prog 76 parts=(zb8 (λi=>[(0,1),(1,1),(2,1),(3,1),(4,3),(7,3)][i]?) [.d (.int .i64 0),.d (.int .i64 0),.d (.bool false),.d (.bool false),.d (.int .u8 0),.d (.int .i64 0),.d (.str ⟨#[]⟩),.d (.int .u8 0),.d (.int .i64 0),.d (.str ⟨#[]⟩)] parts).map zb7:=zal (by kernel_rfl) (by kernel_rfl)
@[simp] def zA1:zeroVs? Tryz.prog 77=some [.d (.int .i64 0),.d (.int .i64 0),.d (.bool false),.d (.bool false),.d (.int .u8 0),.d (.int .i64 0),.d (.str ⟨#[]⟩),.d (.int .u8 0),.d (.int .i64 0),.d (.str ⟨#[]⟩)]:=by kernel_rfl
@[simp] def zCR (h:List Am.Obj):zcV Tryz.prog h 77=some (.ptr h.length 0,h++[.box [.d (.int .i64 0),.d (.int .i64 0),.d (.bool false),.d (.bool false),.d (.int .u8 0),.d (.int .i64 0),.d (.str ⟨#[]⟩),.d (.int .u8 0),.d (.int .i64 0),.d (.str ⟨#[]⟩)]]):=zcs zA1
@[simp] def zCS (parts:List (Nat × V)):za6 Tryz.prog 77 parts=(zb8 (λi=>[(0,1),(1,1),(2,1),(3,1),(4,3),(7,3)][i]?) [.d (.int .i64 0),.d (.int .i64 0),.d (.bool false),.d (.bool false),.d (.int .u8 0),.d (.int .i64 0),.d (.str ⟨#[]⟩),.d (.int .u8 0),.d (.int .i64 0),.d (.str ⟨#[]⟩)] parts).map zb7:=zal (by kernel_rfl) (by kernel_rfl)
@[simp] def zCT:sizeOf? Tryz.prog 62=some 1/\agg? Tryz.prog 62=some false/\sizeOf? Tryz.prog 70=some 1/\agg? Tryz.prog 70=some false/\zeroVs? Tryz.prog 70=some [.d .nilI]/\(zero? Tryz.prog 70).isSome=true/\appElem? Tryz.prog 70=some 1/\zeroD? Tryz.prog 70=some (.nilI)/\sizeOf? Tryz.prog 71=some 1/\agg? Tryz.prog 71=some false/\zeroVs? Tryz.prog 71=some [.nilS]/\(zero? Tryz.prog 71).isSome=true/\appElem? Tryz.prog 71=some 1/\zeroD? Tryz.prog 71=some (.list [])/\zaZ Tryz.prog 71=1/\sizeOf? Tryz.prog 72=some 4/\agg? Tryz.prog 72=some true/\fieldOff? Tryz.prog 72 0=some (0,22)/\fieldOff? Tryz.prog 72 1=some (1,9)/\fieldOff? Tryz.prog 72 2=some (2,39)/\fieldOff? Tryz.prog 72 3=some (3,4)/\zcG Tryz.prog 72=some [(0,0),(1,2),(2,0),(3,1)]/\sizeOf? Tryz.prog 73=some 4/\agg? Tryz.prog 73=some true/\appElem? Tryz.prog 73=some 4/\fieldOff? Tryz.prog 73 0=some (0,22)/\fieldOff? Tryz.prog 73 1=some (1,9)/\fieldOff? Tryz.prog 73 2=some (2,39)/\fieldOff? Tryz.prog 73 3=some (3,4)/\zcG Tryz.prog 73=some [(0,0),(1,2),(2,0),(3,1)]/\zeroD? Tryz.prog 73=some (.agg [.int .u32 0,.str ⟨#[]⟩,.int .u8 0,.bool false])/\sizeOf? Tryz.prog 76=some 10/\agg? Tryz.prog 76=some true/\fieldOff? Tryz.prog 76 0=some (0,3)/\fieldOff? Tryz.prog 76 1=some (1,3)/\fieldOff? Tryz.prog 76 2=some (2,4)/\fieldOff? Tryz.prog 76 3=some (3,4)/\fieldOff? Tryz.prog 76 4=some (4,41)/\fieldOff? Tryz.prog 76 5=some (7,41)/\sizeOf? Tryz.prog 77=some 10/\agg? Tryz.prog 77=some true/\fieldOff? Tryz.prog 77 0=some (0,3)/\fieldOff? Tryz.prog 77 1=some (1,3)/\fieldOff? Tryz.prog 77 2=some (2,4)/\fieldOff? Tryz.prog 77 3=some (3,4)/\fieldOff? Tryz.prog 77 4=some (4,41)/\fieldOff? Tryz.prog 77 5=some (7,41)/\sizeOf? Tryz.prog 78=some 1/\agg? Tryz.prog 78=some false/\sizeOf? Tryz.prog 90=some 1/\agg? Tryz.prog 90=some false/\zeroVs? Tryz.prog 90=some [.d (.int .u64 0)]/\(zero? Tryz.prog 90).isSome=true/\appElem? Tryz.prog 90=some 1/\makeElem? Tryz.prog 90=some (1,.int .u64 0)/\zeroD? Tryz.prog 90=some (.int .u64 0)/\sizeOf? Tryz.prog 91=some 1/\agg? Tryz.prog 91=some false/\sizeOf? Tryz.prog 92=some 1/\agg? Tryz.prog 92=some false:=by and_intros<;>kernel_rfl
@[simp] def zA2 (parts:List (Nat × V)):za6 Tryz.prog 110 parts=(zb8 (λi=>[(0,2),(2,1),(3,1),(4,1)][i]?) [.d (.int .u32 0),.nilS,.nilS,.d (.int .i64 0),.nilS] parts).map zb7:=zal (by kernel_rfl) (by kernel_rfl)
@[simp] def zA3 (parts:List (Nat × V)):za6 Tryz.prog 111 parts=(zb8 (λi=>[(0,2),(2,1),(3,1),(4,1)][i]?) [.d (.int .u32 0),.nilS,.nilS,.d (.int .i64 0),.nilS] parts).map zb7:=zal (by kernel_rfl) (by kernel_rfl)
@[simp] def zA4 (parts:List (Nat × V)):za6 Tryz.prog 115 parts=(zb8 (λi=>some (i*1,1)) [.d (.bool false),.d (.bool false),.d (.bool false)] parts).map zb7:=zdR (by kernel_rfl) Tryz.underlying115 (by kernel_rfl)
@[simp] def zA5:sizeOf? Tryz.prog 100=some 1/\agg? Tryz.prog 100=some false/\zaZ Tryz.prog 100=1/\sizeOf? Tryz.prog 107=some 1/\agg? Tryz.prog 107=some false/\sizeOf? Tryz.prog 109=some 1/\agg? Tryz.prog 109=some false/\zaZ Tryz.prog 109=1/\sizeOf? Tryz.prog 110=some 5/\agg? Tryz.prog 110=some true/\fieldOff? Tryz.prog 110 0=some (0,25)/\fieldOff? Tryz.prog 110 1=some (2,34)/\fieldOff? Tryz.prog 110 2=some (3,3)/\fieldOff? Tryz.prog 110 3=some (4,109)/\sizeOf? Tryz.prog 111=some 5/\agg? Tryz.prog 111=some true/\fieldOff? Tryz.prog 111 0=some (0,25)/\fieldOff? Tryz.prog 111 1=some (2,34)/\fieldOff? Tryz.prog 111 2=some (3,3)/\fieldOff? Tryz.prog 111 3=some (4,109)/\sizeOf? Tryz.prog 113=some 1/\agg? Tryz.prog 113=some false/\zaZ Tryz.prog 113=10/\sizeOf? Tryz.prog 115=some 3/\agg? Tryz.prog 115=some true/\sizeOf? Tryz.prog 117=some 1/\agg? Tryz.prog 117=some false/\sizeOf? Tryz.prog 129=some 1/\agg? Tryz.prog 129=some false/\zaZ Tryz.prog 129=1/\sizeOf? Tryz.prog 130=some 1/\agg? Tryz.prog 130=some false/\sizeOf? Tryz.prog 133=some 1/\agg? Tryz.prog 133=some false/\sizeOf? Tryz.prog 137=some 1/\agg? Tryz.prog 137=some false/\sizeOf? Tryz.prog 140=some 1/\agg? Tryz.prog 140=some false/\sizeOf? Tryz.prog 141=some 1/\agg? Tryz.prog 141=some false/\zaZ Tryz.prog 141=1/\sizeOf? Tryz.prog 142=some 1/\agg? Tryz.prog 142=some false/\zaZ Tryz.prog 142=1/\sizeOf? Tryz.prog 143=some 1/\agg? Tryz.prog 143=some false/\zaZ Tryz.prog 143=1/\sizeOf? Tryz.prog 144=some 1/\agg? Tryz.prog 144=some false/\sizeOf? Tryz.prog 145=some 1/\agg? Tryz.prog 145=some false/\sizeOf? Tryz.prog 152=some 1/\agg? Tryz.prog 152=some false/\sizeOf? Tryz.prog 156=some 1/\agg? Tryz.prog 156=some false/\zaZ Tryz.prog 156=1/\sizeOf? Tryz.prog 160=some 1/\agg? Tryz.prog 160=some false/\sizeOf? Tryz.prog 162=some 1/\agg? Tryz.prog 162=some false:=by and_intros<;>kernel_rfl
@[simp] def zA6 (parts:List (Nat × V)):za6 Tryz.prog 163 parts=(zb8 (λi=>[(0,1),(1,1)][i]?) [.nilS,.d (.bool false)] parts).map zb7:=zal (by kernel_rfl) (by kernel_rfl)
@[simp] def zA7 (parts:List (Nat × V)):za6 Tryz.prog 164 parts=(zb8 (λi=>[(0,1),(1,1)][i]?) [.nilS,.d (.bool false)] parts).map zb7:=zal (by kernel_rfl) (by kernel_rfl)
@[simp] def zA8 (parts:List (Nat × V)):za6 Tryz.prog 203 parts=(zb8 (λi=>[(0,1),(1,1)][i]?) [.nilS,.d (.int .i64 0)] parts).map zb7:=zal (by kernel_rfl) (by kernel_rfl)
@[simp] def zA9 (parts:List (Nat × V)):za6 Tryz.prog 204 parts=(zb8 (λi=>[(0,1),(1,1)][i]?) [.nilS,.d (.int .i64 0)] parts).map zb7:=zal (by kernel_rfl) (by kernel_rfl)
@[simp] def zyT:zeroVs? Tryz.prog 212=some [.d .nilF,.d .nilF,.d .nilF,.d .nilF,.d .nilF]:=by kernel_rfl
@[simp] def zBa (h:List Am.Obj):zcV Tryz.prog h 212=some (.ptr h.length 0,h++[.box [.d .nilF,.d .nilF,.d .nilF,.d .nilF,.d .nilF]]):=zcs zyT
@[simp] def zBb (parts:List (Nat × V)):za6 Tryz.prog 212 parts=(zb8 (λi=>some (i*1,1)) [.d .nilF,.d .nilF,.d .nilF,.d .nilF,.d .nilF] parts).map zb7:=zdR (by kernel_rfl) Tryz.underlying212 (by kernel_rfl)
@[simp] def zBc (parts:List (Nat × V)):za6 Tryz.prog 217 parts=(zb8 (λi=>some (i*1,1)) [.d (.int .u32 0),.d (.int .u32 0),.d (.int .u32 0),.d (.int .u32 0),.d (.int .u32 0),.d (.int .u32 0),.d (.int .u32 0),.d (.int .u32 0),.d (.int .u32 0),.d (.int .u32 0),.d (.int .u32 0),.d (.int .u32 0),.d (.int .u32 0),.d (.int .u32 0),.d (.int .u32 0),.d (.int .u32 0)] parts).map zb7:=zdR (by kernel_rfl) Tryz.underlying217 (by kernel_rfl)
@[simp] def zBd:sizeOf? Tryz.prog 163=some 2/\agg? Tryz.prog 163=some true/\fieldOff? Tryz.prog 163 0=some (0,30)/\fieldOff? Tryz.prog 163 1=some (1,4)/\sizeOf? Tryz.prog 164=some 2/\agg? Tryz.prog 164=some true/\fieldOff? Tryz.prog 164 0=some (0,30)/\fieldOff? Tryz.prog 164 1=some (1,4)/\sizeOf? Tryz.prog 167=some 1/\agg? Tryz.prog 167=some false/\sizeOf? Tryz.prog 170=some 1/\agg? Tryz.prog 170=some false/\sizeOf? Tryz.prog 171=some 1/\agg? Tryz.prog 171=some false/\sizeOf? Tryz.prog 173=some 1/\agg? Tryz.prog 173=some false/\sizeOf? Tryz.prog 180=some 1/\agg? Tryz.prog 180=some false/\sizeOf? Tryz.prog 187=some 1/\agg? Tryz.prog 187=some false/\sizeOf? Tryz.prog 188=some 1/\agg? Tryz.prog 188=some false/\sizeOf? Tryz.prog 198=some 1/\agg? Tryz.prog 198=some false/\zaZ Tryz.prog 198=1/\sizeOf? Tryz.prog 199=some 1/\agg? Tryz.prog 199=some false/\sizeOf? Tryz.prog 202=some 1/\agg? Tryz.prog 202=some false/\sizeOf? Tryz.prog 203=some 2/\agg? Tryz.prog 203=some true/\fieldOff? Tryz.prog 203 0=some (0,30)/\fieldOff? Tryz.prog 203 1=some (1,31)/\sizeOf? Tryz.prog 204=some 2/\agg? Tryz.prog 204=some true/\fieldOff? Tryz.prog 204 0=some (0,30)/\fieldOff? Tryz.prog 204 1=some (1,31)/\sizeOf? Tryz.prog 206=some 1/\agg? Tryz.prog 206=some false/\sizeOf? Tryz.prog 209=some 1/\agg? Tryz.prog 209=some false/\sizeOf? Tryz.prog 212=some 5/\agg? Tryz.prog 212=some true/\sizeOf? Tryz.prog 217=some 16/\agg? Tryz.prog 217=some true/\sizeOf? Tryz.prog 220=some 1/\agg? Tryz.prog 220=some false/\sizeOf? Tryz.prog 223=some 1/\agg? Tryz.prog 223=some false/\sizeOf? Tryz.prog 229=some 1/\agg? Tryz.prog 229=some false/\sizeOf? Tryz.prog 230=some 1/\agg? Tryz.prog 230=some false/\sizeOf? Tryz.prog 236=some 1/\agg? Tryz.prog 236=some false/\sizeOf? Tryz.prog 238=some 1/\agg? Tryz.prog 238=some false/\sizeOf? Tryz.prog 240=some 1/\agg? Tryz.prog 240=some false/\sizeOf? Tryz.prog 244=some 1:=by and_intros<;>kernel_rfl
@[simp] def zyU:zeroVs? Tryz.prog 244=some [.d (.int .u64 0)]:=by kernel_rfl
@[simp] def zBe (h:List Am.Obj):zcV Tryz.prog h 244=some (.ptr h.length 0,h++[.box [.d (.int .u64 0)]]):=zcs zyU
@[simp] def zBf (parts:List (Nat × V)):za6 Tryz.prog 254 parts=(zb8 (λi=>[(0,1),(1,1)][i]?) [.nilS,.d (.int .i64 0)] parts).map zb7:=zal (by kernel_rfl) (by kernel_rfl)
@[simp] def zBg (parts:List (Nat × V)):za6 Tryz.prog 255 parts=(zb8 (λi=>[(0,1),(1,1)][i]?) [.nilS,.d (.int .i64 0)] parts).map zb7:=zal (by kernel_rfl) (by kernel_rfl)
@[simp] def zBh:agg? Tryz.prog 244=some false/\sizeOf? Tryz.prog 249=some 1/\agg? Tryz.prog 249=some false/\sizeOf? Tryz.prog 251=some 1/\agg? Tryz.prog 251=some false/\sizeOf? Tryz.prog 253=some 1/\agg? Tryz.prog 253=some false/\sizeOf? Tryz.prog 254=some 2/\agg? Tryz.prog 254=some true/\fieldOff? Tryz.prog 254 0=some (0,30)/\fieldOff? Tryz.prog 254 1=some (1,31)/\sizeOf? Tryz.prog 255=some 2/\agg? Tryz.prog 255=some true/\fieldOff? Tryz.prog 255 0=some (0,30)/\fieldOff? Tryz.prog 255 1=some (1,31)/\sizeOf? Tryz.prog 259=some 1/\agg? Tryz.prog 259=some false/\sizeOf? Tryz.prog 262=some 1/\agg? Tryz.prog 262=some false/\sizeOf? Tryz.prog 263=some 1/\agg? Tryz.prog 263=some false:=by and_intros<;>kernel_rfl
def K:zfu:=λf b=>match f,b with
 |4,0=>some [(4,0),(7,0),(9,0),(14,0),(15,0),(16,0),(17,0),(18,1),(19,0)]
 |5,0=>some [(0,0),(5,0),(9,0),(10,0)]
 |10,0=>some [(1,0),(3,0),(4,0)]
 |11,0=>some [(0,0),(3,1),(4,0)]
 |12,0=>some [(1,0),(2,0),(3,0),(6,0),(7,0),(35,0),(36,0),(37,0)]
 |12,2=>some [(3,0),(6,0),(7,0),(12,0),(13,0)]
 |12,4=>some [(3,0),(6,0),(7,0),(12,0),(13,0),(14,0),(67,0),(68,0),(69,0)]
 |13,0=>some [(0,0),(3,1),(4,0)]
 |14,0=>some [(1,0),(2,0),(3,0),(9,0)]
 |14,2=>some [(3,0),(10,0),(11,0),(12,0),(13,0)]
 |14,4=>some [(3,0),(10,0),(11,0),(12,0),(13,0),(14,0)]
 |14,6=>some [(10,0),(18,0),(19,0)]
 |15,0=>some [(1,0),(3,0)]
 |18,0=>some [(2,0),(3,0),(6,0)]
 |18,2=>some [(2,0),(3,0),(6,0),(9,0),(10,0),(75,0),(76,0)]
 |19,0=>some [(2,0),(3,0),(4,1),(5,0),(6,0),(7,0),(8,0)]
 |19,2=>some [(2,0),(3,0),(4,1),(5,0),(6,0),(7,0),(8,0),(50,0),(51,0),(52,0)]
 |24,0=>some [(3,1),(4,0),(5,0)]
 |33,0=>some [(0,0),(2,0),(3,0),(4,0),(5,0),(6,0),(7,0)]
 |34,0=>some [(0,0),(1,0),(5,3),(6,0)]
 |36,0=>some [(0,0),(1,0),(5,0)]
 |37,0=>some [(0,0),(3,3),(4,0)]
 |38,0=>some [(0,0),(3,3),(4,0)]
 |39,0=>some [(1,0),(3,0),(22,0),(23,0),(24,0)]
 |40,0=>some [(1,0),(16,0),(17,0),(18,0)]
 |41,0=>some [(3,0),(18,0),(19,0),(20,0)]
 |42,0=>some [(0,0),(3,1)]
 |44,0=>some [(1,0),(5,1),(8,0),(9,0),(10,0)]
 |45,0=>some [(0,0),(1,0),(26,0),(27,0),(28,0)]
 |45,2=>some [(0,0),(8,0),(9,1),(10,1),(11,1),(47,0),(48,0),(49,0)]
 |47,0=>some [(2,0),(3,0),(4,0),(5,0),(6,0),(18,0),(19,0),(20,0)]
 |49,0=>some [(0,0),(3,1),(4,0)]
 |50,0=>some [(1,0),(2,0),(5,0)]
 |51,0=>some [(1,0),(3,0),(4,0)]
 |53,0=>some [(0,0),(1,0),(5,1),(6,0)]
 |54,0=>some [(0,0),(1,0),(6,0)]
 |54,2=>some [(0,0),(1,0),(8,1),(9,1),(10,1),(11,1),(12,0),(13,0)]
 |54,4=>some [(11,1),(15,0),(18,0),(19,1),(20,0)]
 |54,6=>some [(11,1),(15,0),(18,0),(19,1),(20,0),(21,0)]
 |56,0=>some [(3,0),(5,0),(6,0)]
 |57,0=>some [(0,0),(1,0),(5,0)]
 |60,0=>some [(0,0),(6,0),(9,0),(10,0),(11,0)]
 |60,2=>some [(0,0),(6,0),(9,0),(10,0),(11,0),(12,0),(13,0),(117,0),(118,0),(119,0)]
 |60,4=>some [(0,0),(6,0),(9,0),(10,0),(11,0),(12,0),(13,0),(117,0),(118,0),(119,0),(154,0),(155,0),(156,0)]
 |61,0=>some [(0,0),(1,0),(12,0),(13,0)]
 |63,1=>some [(2,0),(4,0),(6,0),(7,0),(9,0),(26,0),(27,0),(28,0)]
 |64,1=>some [(2,0),(4,0),(7,0),(20,0),(21,0),(22,0)]
 |64,3=>some [(2,0),(4,0),(10,0),(37,0),(38,0),(39,0)]
 |75,0=>some [(0,0),(1,0),(5,0)]
 |75,2=>some [(0,0),(1,0),(5,0),(6,0)]
 |78,0=>some [(0,0),(5,1),(6,1),(7,0),(8,0)]
 |80,0=>some [(0,0),(6,0),(1000007,0),(9,0)]
 |82,0=>some [(19,0)]
 |87,0=>some [(0,0),(1,0),(2,0),(4,0)]
 |90,0=>some [(3,0),(11,0),(12,0),(13,0)]
 |91,0=>some [(0,0),(4,1),(11,0)]
 |92,0=>some [(0,0),(3,0),(4,0),(5,1),(20,0),(21,0),(22,0)]
 |94,0=>some [(0,0),(6,0)]
 |96,0=>some [(0,0),(1,0),(7,0)]
 |97,0=>some [(6,0)]
 |103,0=>some [(0,0),(4,1),(5,0)]
 |104,0=>some [(0,0),(3,1),(4,0)]
 |104,2=>some [(0,0),(3,1),(4,0),(5,1),(6,0),(7,0)]
 |105,0=>some [(0,0),(3,1),(4,1),(5,0)]
 |107,0=>some [(2,0),(5,0),(6,0),(7,0)]
 |109,0=>some [(0,0),(1,0),(4,0)]
 |111,0=>some [(1,0),(2,0),(23,0),(24,0),(25,0)]
 |112,1=>some [(3,0),(44,0),(45,0),(46,0)]
 |115,0=>some [(2,0),(3,0),(4,0),(6,0),(7,0),(10,0)]
 |115,2=>some [(2,0),(3,0),(4,0),(6,0),(7,0),(8,0),(10,0),(13,0)]
 |122,0=>some [(0,0),(6,0),(7,0),(8,0),(9,0)]
 |124,0=>some [(0,0),(1,0),(7,0),(8,0)]
 |125,0=>some [(0,0),(1,0),(7,0),(8,0)]
 |126,0=>some [(1,0),(6,0),(36,0),(37,0),(38,0)]
 |126,2=>some [(1,0),(6,0),(7,0),(8,0),(9,0),(36,0),(37,0),(38,0)]
 |128,0=>some [(0,0),(5,1),(6,1),(9,0),(10,0),(11,0)]
 |132,0=>some [(0,0),(3,0)]
 |132,2=>some [(0,0),(3,0),(4,0),(5,0)]
 |133,0=>some [(0,0),(1,0),(6,0),(7,0),(8,0)]
 |141,0=>some [(3,0),(5,0)]
 |143,0=>some [(0,0),(9,0),(10,0),(11,0)]
 |144,0=>some [(0,0),(1,0),(6,1),(7,0),(8,0)]
 |144,2=>some [(0,0),(1,0),(6,1),(7,0),(8,0),(9,0)]
 |145,1=>some [(1,0),(6,1),(7,0)]
 |145,3=>some [(1,0),(6,1),(8,0)]
 |145,5=>some [(1,0),(6,1),(9,0),(10,0)]
 |145,7=>some [(1,0),(6,1),(11,0),(12,1),(13,0)]
 |145,9=>some [(1,0),(6,1),(11,0),(12,1),(14,0)]
 |145,11=>some [(1,0),(17,0),(18,1),(19,0)]
 |149,0=>some [(5,0),(8,0),(9,0),(10,0)]
 |152,0=>some [(0,0),(1,0),(2,0),(9,0),(12,0),(56,0),(57,0),(58,0)]
 |152,2=>some [(1000015,0),(17,0),(79,0),(80,0),(81,0)]
 |157,0=>some [(5,0),(6,0),(21,0)]
 |157,2=>some [(5,0),(6,0),(8,0),(9,0),(21,0),(38,0),(39,0),(40,0)]
 |158,0=>some [(3,0),(6,0),(7,0),(8,0)]
 |159,0=>some [(3,1),(6,0),(7,0),(8,0)]
 |160,0=>some [(3,1),(4,0),(7,0),(8,0),(9,0)]
 |161,0=>some [(0,0),(3,1),(4,0)]
 |161,2=>some [(0,0),(3,1),(4,0),(5,0)]
 |162,0=>some [(0,0),(3,0),(4,0),(18,0),(19,0),(20,0)]
 |162,2=>some [(3,0),(4,0),(7,0),(47,0),(48,0),(49,0)]
 |163,0=>some [(3,0),(4,0),(16,0),(17,0),(18,0)]
 |164,0=>some [(0,0),(1,0),(2,0),(3,0),(8,0),(9,0)]
 |173,0=>some [(0,0),(3,0),(4,0)]
 |173,2=>some [(0,0),(3,0),(4,0)]
 |174,0=>some [(0,0),(3,1),(4,0)]
 |174,2=>some [(0,0),(3,1),(4,0),(5,1),(6,0),(7,0)]
 |175,0=>some [(0,0),(1,0),(5,0)]
 |177,0=>some [(7,0),(8,0)]
 |178,0=>some [(0,0),(2,0),(9,0),(56,0),(57,0)]
 |178,2=>some [(0,0),(2,0),(9,0),(10,0),(11,0),(56,0),(57,0)]
 |179,1=>some [(8,1),(10,0),(30,0),(31,0),(32,0)]
 |179,3=>some [(8,1),(14,0),(52,0),(53,0),(54,0)]
 |179,5=>some [(8,1),(18,0),(73,0),(74,0),(75,0)]
 |182,0=>some [(0,0),(1,0),(6,0),(7,0),(8,0)]
 |184,0=>some [(0,0),(3,0),(4,0)]
 |185,0=>some [(0,0),(1,0),(2,0),(6,0)]
 |185,2=>some [(0,0),(1,0),(2,0),(6,0),(7,0)]
 |186,0=>some [(0,0),(6,0),(7,0),(8,0),(9,0)]
 |186,2=>some [(0,0),(6,0),(7,0),(10,0)]
 |187,0=>some [(0,0),(1,0),(6,0),(7,0),(8,0),(9,0)]
 |189,0=>some [(0,0),(6,0),(7,0)]
 |190,0=>some [(0,0),(1,0),(2,0),(7,0),(8,0)]
 |190,2=>some [(0,0),(1,0),(2,0),(7,0),(8,0)]
 |190,4=>some [(0,0),(1,0),(2,0),(7,0),(8,0),(9,0)]
 |190,6=>some [(0,0),(1,0),(2,0),(7,0),(8,0),(10,0)]
 |191,0=>some [(0,0),(1,0),(9,0),(10,0)]
 |191,2=>some [(0,0),(1,0),(9,0),(10,0)]
 |191,4=>some [(0,0),(1,0),(9,0),(10,0)]
 |192,0=>some [(0,0),(1,0),(10,0),(11,0)]
 |192,2=>some [(0,0),(1,0),(10,0),(11,0)]
 |192,4=>some [(0,0),(1,0),(10,0),(11,0)]
 |192,6=>some [(0,0),(1,0),(10,0),(11,0)]
 |192,8=>some [(0,0),(1,0),(10,0),(11,0)]
 |195,2=>some [(0,0),(1,0),(6,0),(7,1),(8,0)]
 |196,0=>some [(12,0),(15,1),(85,0),(86,0),(87,0)]
 |199,0=>some [(0,0),(3,0)]
 |199,2=>some [(0,0),(3,0),(4,0),(5,0)]
 |202,0=>some [(0,0),(2,0),(3,0),(8,0)]
 |210,0=>some [(0,0),(1,0),(5,1)]
 |211,0=>some [(0,0),(1,0),(5,0),(6,1)]
 |211,2=>some [(0,0),(5,0),(6,1),(9,1),(104,0),(105,0),(106,0)]
 |212,0=>some [(5,0),(7,1),(36,0),(37,0),(38,0)]
 |214,0=>some [(0,0),(11,1),(45,0),(46,0),(47,0)]
 |215,0=>some [(0,0),(1,0),(2,0),(3,0),(8,0),(9,0)]
 |218,0=>some [(7,0),(8,0)]
 |220,0=>some [(0,0),(1,0),(2,0),(6,0)]
 |220,2=>some [(0,0),(1,0),(2,0),(6,0),(7,0)]
 |221,0=>some [(0,0),(6,0),(7,0),(8,0),(9,0)]
 |221,2=>some [(0,0),(6,0),(7,0),(10,0)]
 |222,0=>some [(0,0),(1,0),(6,0),(7,0),(8,0),(9,0)]
 |224,0=>some [(0,0),(6,0),(7,0)]
 |225,0=>some [(0,0),(1,0),(2,0),(7,0),(8,0)]
 |225,2=>some [(0,0),(1,0),(2,0),(7,0),(8,0)]
 |225,4=>some [(0,0),(1,0),(2,0),(7,0),(8,0),(9,0)]
 |225,6=>some [(0,0),(1,0),(2,0),(7,0),(8,0),(10,0)]
 |226,0=>some [(0,0),(1,0),(9,0),(10,0)]
 |226,2=>some [(0,0),(1,0),(9,0),(10,0)]
 |226,4=>some [(0,0),(1,0),(9,0),(10,0)]
 |227,0=>some [(0,0),(1,0),(10,0),(11,0)]
 |227,2=>some [(0,0),(1,0),(10,0),(11,0)]
 |227,4=>some [(0,0),(1,0),(10,0),(11,0)]
 |227,6=>some [(0,0),(1,0),(10,0),(11,0)]
 |227,8=>some [(0,0),(1,0),(10,0),(11,0)]
 |228,0=>some [(0,0),(2,0),(3,0),(8,0)]
 |_,_=>none
def zlC:List D:=[.int .u32 0,.int .u32 498536548,.int .u32 997073096,.int .u32 651767980,.int .u32 1994146192,.int .u32 1802195444,.int .u32 1303535960,.int .u32 1342533948,.int .u32 3988292384,.int .u32 4027552580,.int .u32 3604390888,.int .u32 3412177804,.int .u32 2607071920,.int .u32 2262029012,.int .u32 2685067896,.int .u32 3183342108]
def G:Nat->Option (List D):=λg=>if g=0 then some zlC else if [1000046,1000093,1000097,1000128,1000131,1000132,1000164,1000177,1000185,1000186,1000187,1000188,1000189,1000190,1000191,1000192,1000198,1000199,1000202,1000205,1000206,1000215,1000216,1000218,1000220,1000221,1000222,1000223,1000224,1000225,1000226,1000227,1000228,1000229,1000230,1000231,2000065,2000100,2000130,2000197,3000127,3000018,5000087,4500018].contains g then some [] else none
def zBi:splits G 3=false:=by decide +kernel
def zyV:splits G 10=false:=by decide +kernel
def zyW:splits G 11=false:=by decide +kernel
def zyX:splits G 12=false:=by decide +kernel
def zyY:splits G 13=false:=by decide +kernel
def zyZ:splits G 14=false:=by decide +kernel
def zy0:splits G 15=false:=by decide +kernel
def zy1:splits G 24=false:=by decide +kernel
def zy2:splits G 33=false:=by decide +kernel
def zy3:splits G 34=false:=by decide +kernel
def zy4:splits G 38=false:=by decide +kernel
def zy5:splits G 39=false:=by decide +kernel
def zy6:splits G 40=false:=by decide +kernel
def zy7:splits G 41=false:=by decide +kernel
def zy8:splits G 42=false:=by decide +kernel
def zy9:splits G 43=false:=by decide +kernel
def zza:splits G 44=false:=by decide +kernel
def zzb:splits G 45=false:=by decide +kernel
def zzc:splits G 46=false:=by decide +kernel
def zzd:splits G 47=false:=by decide +kernel
def zze:splits G 48=false:=by decide +kernel
def zzf:splits G 49=false:=by decide +kernel
def zzg:splits G 50=false:=by decide +kernel
def zzh:splits G 51=false:=by decide +kernel
def zzi:splits G 52=false:=by decide +kernel
@[simp] def zCU:zab G 2=false/\zae G 2=false/\zab G 3=false/\zae G 3=false/\zab G 4=false/\zae G 4=false/\zab G 5=false/\zae G 5=false/\zab G 6=false/\zae G 6=false/\zab G 8=false/\zae G 8=false/\zab G 10=false/\zae G 10=false/\zab G 11=false/\zae G 11=false/\zab G 12=false/\zae G 12=false/\zab G 13=false/\zae G 13=false/\zab G 14=false/\zae G 14=false/\zab G 15=false/\zae G 15=false/\zab G 24=false/\zae G 24=false/\zab G 33=false/\zae G 33=false/\zab G 34=false/\zae G 34=false/\zab G 38=false/\zae G 38=false/\zab G 39=false/\zae G 39=false/\zab G 40=false/\zae G 40=false/\zab G 41=false/\zae G 41=false/\zab G 42=false/\zae G 42=false/\zab G 43=false/\zae G 43=false/\zab G 44=false/\zae G 44=false/\zab G 45=false/\zae G 45=false/\zab G 46=true/\zae G 46=false/\zab G 47=false/\zae G 47=false/\zab G 48=false/\zae G 48=false/\zab G 49=false/\zae G 49=false/\zab G 50=false/\zae G 50=false/\zab G 51=false/\zae G 51=false/\zab G 52=false/\zae G 52=false:=by and_intros<;>decide +kernel
def zzj:splits G 53=false:=by decide +kernel
def zzk:splits G 54=false:=by decide +kernel
def zzl:splits G 55=false:=by decide +kernel
def zzm:splits G 56=false:=by decide +kernel
def zzn:splits G 57=false:=by decide +kernel
def zzo:splits G 71=false:=by decide +kernel
def zzp:splits G 72=false:=by decide +kernel
def zzq:splits G 75=false:=by decide +kernel
def zzr:splits G 78=false:=by decide +kernel
def zzs:splits G 79=false:=by decide +kernel
def zzt:splits G 80=false:=by decide +kernel
def zzu:splits G 82=false:=by decide +kernel
def zzv:splits G 83=false:=by decide +kernel
def zzw:splits G 84=false:=by decide +kernel
def zzx:splits G 85=false:=by decide +kernel
def zzy:splits G 86=false:=by decide +kernel
def zzz:splits G 88=false:=by decide +kernel
def zzA:splits G 89=false:=by decide +kernel
def zzB:splits G 90=false:=by decide +kernel
def zzC:splits G 91=false:=by decide +kernel
def zzD:splits G 92=false:=by decide +kernel
def zzE:splits G 93=false:=by decide +kernel
def zzF:splits G 94=false:=by decide +kernel
def zzG:splits G 95=false:=by decide +kernel
def zzH:splits G 96=false:=by decide +kernel
def zzI:splits G 97=false:=by decide +kernel
def zzJ:splits G 98=false:=by decide +kernel
def zzK:splits G 99=false:=by decide +kernel
def zvd:splits G 100=true:=by decide +kernel
@[simp] def zBj:zab G 53=false/\zae G 53=false/\zab G 54=false/\zae G 54=false/\zab G 55=false/\zae G 55=false/\zab G 56=false/\zae G 56=false/\zab G 57=false/\zae G 57=false/\zab G 71=false/\zae G 71=false/\zab G 72=false/\zae G 72=false/\zab G 75=false/\zae G 75=false/\zab G 78=false/\zae G 78=false/\zab G 79=false/\zae G 79=false/\zab G 80=false/\zae G 80=false/\zab G 82=false/\zae G 82=false/\zab G 83=false/\zae G 83=false/\zab G 84=false/\zae G 84=false/\zab G 85=false/\zae G 85=false/\zab G 86=false/\zae G 86=false/\zab G 87=false/\zae G 87=false/\zab G 88=false/\zae G 88=false/\zab G 89=false/\zae G 89=false/\zab G 90=false/\zae G 90=false/\zab G 91=false/\zae G 91=false/\zab G 92=false/\zae G 92=false/\zab G 93=true/\zae G 93=false/\zab G 94=false/\zae G 94=false/\zab G 95=false/\zae G 95=false/\zab G 96=false/\zae G 96=false/\zab G 97=true/\zae G 97=false/\zab G 98=false/\zae G 98=false/\zab G 99=false/\zae G 99=false/\zab G 100=false/\zae G 100=false:=by and_intros<;>decide +kernel
def zve:splits G 101=false:=by decide +kernel
def zvf:splits G 102=false:=by decide +kernel
def zvg:splits G 103=false:=by decide +kernel
def zvh:splits G 104=false:=by decide +kernel
def zvi:splits G 105=false:=by decide +kernel
def zvj:splits G 106=false:=by decide +kernel
def zvk:splits G 120=false:=by decide +kernel
def zvl:splits G 122=false:=by decide +kernel
def zvm:splits G 123=false:=by decide +kernel
def zvn:splits G 124=false:=by decide +kernel
def zvo:splits G 125=false:=by decide +kernel
def zvp:splits G 126=false:=by decide +kernel
def zvq:splits G 127=false:=by decide +kernel
def zvr:splits G 128=false:=by decide +kernel
def zvs:splits G 129=false:=by decide +kernel
def zvt:splits G 130=true:=by decide +kernel
def zvu:splits G 131=false:=by decide +kernel
def zvv:splits G 132=false:=by decide +kernel
def zvw:splits G 133=false:=by decide +kernel
def zvx:splits G 134=false:=by decide +kernel
def zvy:splits G 135=false:=by decide +kernel
def zvz:splits G 136=false:=by decide +kernel
def zvA:splits G 137=false:=by decide +kernel
def zvB:splits G 138=false:=by decide +kernel
def zvC:splits G 139=false:=by decide +kernel
def zvD:splits G 140=false:=by decide +kernel
def zvE:splits G 141=false:=by decide +kernel
def zvF:splits G 142=false:=by decide +kernel
def zvG:splits G 143=false:=by decide +kernel
def zvH:splits G 144=false:=by decide +kernel
@[simp] def zAt:zab G 101=false/\zae G 101=false/\zab G 102=false/\zae G 102=false/\zab G 103=false/\zae G 103=false/\zab G 104=false/\zae G 104=false/\zab G 105=false/\zae G 105=false/\zab G 106=false/\zae G 106=false/\zab G 120=false/\zae G 120=false/\zab G 122=false/\zae G 122=false/\zab G 123=false/\zae G 123=false/\zab G 124=false/\zae G 124=false/\zab G 125=false/\zae G 125=false/\zab G 126=false/\zae G 126=false/\zab G 127=false/\zae G 127=true/\zab G 128=true/\zae G 128=false/\zab G 129=false/\zae G 129=false/\zab G 130=false/\zae G 130=false/\zab G 131=true/\zae G 131=false/\zab G 132=true/\zae G 132=false/\zab G 133=false/\zae G 133=false/\zab G 134=false/\zae G 134=false/\zab G 135=false/\zae G 135=false/\zab G 136=false/\zae G 136=false/\zab G 137=false/\zae G 137=false/\zab G 138=false/\zae G 138=false/\zab G 139=false/\zae G 139=false/\zab G 140=false/\zae G 140=false/\zab G 141=false/\zae G 141=false/\zab G 142=false/\zae G 142=false/\zab G 143=false/\zae G 143=false/\zab G 144=false/\zae G 144=false:=by and_intros<;>decide +kernel
def zvI:splits G 145=false:=by decide +kernel
def zvJ:splits G 146=false:=by decide +kernel
def zvK:splits G 147=false:=by decide +kernel
def zvL:splits G 158=false:=by decide +kernel
def zvM:splits G 159=false:=by decide +kernel
def zvN:splits G 160=false:=by decide +kernel
def zvO:splits G 161=false:=by decide +kernel
def zvP:splits G 162=false:=by decide +kernel
def zvQ:splits G 163=false:=by decide +kernel
def zvR:splits G 164=false:=by decide +kernel
def zvS:splits G 165=false:=by decide +kernel
def zvT:splits G 166=false:=by decide +kernel
def zvU:splits G 168=false:=by decide +kernel
def zvV:splits G 169=false:=by decide +kernel
def zvW:splits G 170=false:=by decide +kernel
def zvX:splits G 171=false:=by decide +kernel
def zvY:splits G 172=false:=by decide +kernel
def zvZ:splits G 173=false:=by decide +kernel
def zv0:splits G 174=false:=by decide +kernel
def zv1:splits G 175=false:=by decide +kernel
def zv2:splits G 180=false:=by decide +kernel
def zv3:splits G 181=false:=by decide +kernel
def zv4:splits G 182=false:=by decide +kernel
def zv5:splits G 183=false:=by decide +kernel
def zv6:splits G 184=false:=by decide +kernel
def zv7:splits G 185=false:=by decide +kernel
def zv8:splits G 186=false:=by decide +kernel
def zv9:splits G 187=false:=by decide +kernel
def zwa:splits G 188=false:=by decide +kernel
def zwb:splits G 189=false:=by decide +kernel
@[simp] def zAu:zab G 145=false/\zae G 145=false/\zab G 146=false/\zae G 146=false/\zab G 147=false/\zae G 147=false/\zab G 158=false/\zae G 158=false/\zab G 159=false/\zae G 159=false/\zab G 160=false/\zae G 160=false/\zab G 161=false/\zae G 161=false/\zab G 162=false/\zae G 162=false/\zab G 163=false/\zae G 163=false/\zab G 164=true/\zae G 164=false/\zab G 165=false/\zae G 165=false/\zab G 166=false/\zae G 166=false/\zab G 168=false/\zae G 168=false/\zab G 169=false/\zae G 169=false/\zab G 170=false/\zae G 170=false/\zab G 171=false/\zae G 171=false/\zab G 172=false/\zae G 172=false/\zab G 173=false/\zae G 173=false/\zab G 174=false/\zae G 174=false/\zab G 175=false/\zae G 175=false/\zab G 180=false/\zae G 180=false/\zab G 181=false/\zae G 181=false/\zab G 182=false/\zae G 182=false/\zab G 183=false/\zae G 183=false/\zab G 184=false/\zae G 184=false/\zab G 185=true/\zae G 185=false/\zab G 186=true/\zae G 186=false/\zab G 187=true/\zae G 187=false/\zab G 188=true/\zae G 188=false/\zab G 189=true/\zae G 189=false:=by and_intros<;>decide +kernel
def zwc:splits G 190=false:=by decide +kernel
def zwd:splits G 191=false:=by decide +kernel
def zwe:splits G 192=false:=by decide +kernel
def zwf:splits G 197=true:=by decide +kernel
def zwg:splits G 198=false:=by decide +kernel
def zwh:splits G 199=false:=by decide +kernel
def zwi:splits G 200=false:=by decide +kernel
def zwj:splits G 202=false:=by decide +kernel
def zwk:splits G 203=false:=by decide +kernel
def zwl:splits G 204=false:=by decide +kernel
def zwm:splits G 205=false:=by decide +kernel
def zwn:splits G 206=false:=by decide +kernel
def zwo:splits G 215=false:=by decide +kernel
def zwp:splits G 216=false:=by decide +kernel
def zwq:splits G 220=false:=by decide +kernel
def zwr:splits G 221=false:=by decide +kernel
def zws:splits G 222=false:=by decide +kernel
def zwt:splits G 223=false:=by decide +kernel
def zwu:splits G 224=false:=by decide +kernel
def zwv:splits G 225=false:=by decide +kernel
def zww:splits G 226=false:=by decide +kernel
def zwx:splits G 227=false:=by decide +kernel
def zwy:splits G 228=false:=by decide +kernel
def zwz:splits G 229=false:=by decide +kernel
def zwA:splits G 230=false:=by decide +kernel
def zwB:splits G 231=false:=by decide +kernel
@[simp] def zAv:zab G 190=true/\zae G 190=false/\zab G 191=true/\zae G 191=false/\zab G 192=true/\zae G 192=false/\zab G 197=false/\zae G 197=false/\zab G 198=true/\zae G 198=false/\zab G 199=true/\zae G 199=false/\zab G 200=false/\zae G 200=false/\zab G 202=true/\zae G 202=false/\zab G 203=false/\zae G 203=false/\zab G 204=false/\zae G 204=false/\zab G 205=true/\zae G 205=false/\zab G 206=true/\zae G 206=false/\zab G 215=true/\zae G 215=false/\zab G 216=true/\zae G 216=false/\zab G 220=true/\zae G 220=false/\zab G 221=true/\zae G 221=false/\zab G 222=true/\zae G 222=false/\zab G 223=true/\zae G 223=false/\zab G 224=true/\zae G 224=false/\zab G 225=true/\zae G 225=false/\zab G 226=true/\zae G 226=false/\zab G 227=true/\zae G 227=false/\zab G 228=true/\zae G 228=false/\zab G 229=true/\zae G 229=false/\zab G 230=true/\zae G 230=false/\zab G 231=true/\zae G 231=false/\zqu G 127=false/\zsw G 127=false/\zsw G 18=true/\zcW G 87=true:=by and_intros<;>decide +kernel
def znP {g:Nat} (h:zcW G g=true):g=87:=by
 unfold zcW at h;unfold G at h;split at h
 ·omega
 ·split at h
  ·rename_i h2
   simp only[List.contains_eq_mem,List.mem_cons,List.not_mem_nil,or_false,decide_eq_true_eq]at h2;omega
  ·simp at h
def Hn:zft:=λf r=>match f,r with
 |3,6=>[0]
 |4,7=>[0]
 |6,7=>[0]
 |8,7=>[0]
 |8,11=>[2,9,16]
 |8,16=>[2]
 |12,17=>[0]
 |12,28=>[0,1008]
 |18,20=>[0,1,4]
 |19,7=>[0,1,4,5,8,9,10,11,12]
 |19,15=>[0]
 |40,9=>[6]
 |41,1=>[5,6]
 |63,12=>[0]
 |63,17=>[1,2,3,4,6]
 |80,15=>[3,4,5]
 |93,6=>[8]
 |106,5=>[6]
 |107,11=>[11,13,2015,3008]
 |107,18=>[4,2005,3002]
 |107,19=>[0]
 |152,31=>[6]
 |209,4=>[8]
 |217,4=>[8]
 |_,_=>[]
@[simp] def G_0:G 0=some zlC/\K 4 0=some [(4,0),(7,0),(9,0),(14,0),(15,0),(16,0),(17,0),(18,1),(19,0)]/\K 5 0=some [(0,0),(5,0),(9,0),(10,0)]/\K 10 0=some [(1,0),(3,0),(4,0)]/\K 11 0=some [(0,0),(3,1),(4,0)]/\K 12 0=some [(1,0),(2,0),(3,0),(6,0),(7,0),(35,0),(36,0),(37,0)]/\K 12 2=some [(3,0),(6,0),(7,0),(12,0),(13,0)]/\K 12 4=some [(3,0),(6,0),(7,0),(12,0),(13,0),(14,0),(67,0),(68,0),(69,0)]/\K 13 0=some [(0,0),(3,1),(4,0)]/\K 14 0=some [(1,0),(2,0),(3,0),(9,0)]/\K 14 2=some [(3,0),(10,0),(11,0),(12,0),(13,0)]/\K 14 4=some [(3,0),(10,0),(11,0),(12,0),(13,0),(14,0)]/\K 14 6=some [(10,0),(18,0),(19,0)]/\K 15 0=some [(1,0),(3,0)]/\K 24 0=some [(3,1),(4,0),(5,0)]/\K 33 0=some [(0,0),(2,0),(3,0),(4,0),(5,0),(6,0),(7,0)]/\K 34 0=some [(0,0),(1,0),(5,3),(6,0)]/\K 38 0=some [(0,0),(3,3),(4,0)]/\K 39 0=some [(1,0),(3,0),(22,0),(23,0),(24,0)]/\K 40 0=some [(1,0),(16,0),(17,0),(18,0)]/\K 41 0=some [(3,0),(18,0),(19,0),(20,0)]/\K 42 0=some [(0,0),(3,1)]/\K 44 0=some [(1,0),(5,1),(8,0),(9,0),(10,0)]/\K 45 0=some [(0,0),(1,0),(26,0),(27,0),(28,0)]/\K 45 2=some [(0,0),(8,0),(9,1),(10,1),(11,1),(47,0),(48,0),(49,0)]/\K 47 0=some [(2,0),(3,0),(4,0),(5,0),(6,0),(18,0),(19,0),(20,0)]/\K 49 0=some [(0,0),(3,1),(4,0)]/\K 50 0=some [(1,0),(2,0),(5,0)]/\K 51 0=some [(1,0),(3,0),(4,0)]/\K 53 0=some [(0,0),(1,0),(5,1),(6,0)]/\K 54 0=some [(0,0),(1,0),(6,0)]/\K 54 2=some [(0,0),(1,0),(8,1),(9,1),(10,1),(11,1),(12,0),(13,0)]/\K 54 4=some [(11,1),(15,0),(18,0),(19,1),(20,0)]/\K 54 6=some [(11,1),(15,0),(18,0),(19,1),(20,0),(21,0)]/\K 56 0=some [(3,0),(5,0),(6,0)]/\K 57 0=some [(0,0),(1,0),(5,0)]/\K 75 0=some [(0,0),(1,0),(5,0)]/\K 75 2=some [(0,0),(1,0),(5,0),(6,0)]/\K 78 0=some [(0,0),(5,1),(6,1),(7,0),(8,0)]/\K 80 0=some [(0,0),(6,0),(1000007,0),(9,0)]/\K 82 0=some [(19,0)]/\K 87 0=some [(0,0),(1,0),(2,0),(4,0)]/\K 90 0=some [(3,0),(11,0),(12,0),(13,0)]/\K 91 0=some [(0,0),(4,1),(11,0)]/\K 92 0=some [(0,0),(3,0),(4,0),(5,1),(20,0),(21,0),(22,0)]/\K 94 0=some [(0,0),(6,0)]/\K 96 0=some [(0,0),(1,0),(7,0)]/\K 97 0=some [(6,0)]/\K 103 0=some [(0,0),(4,1),(5,0)]/\K 104 0=some [(0,0),(3,1),(4,0)]/\K 104 2=some [(0,0),(3,1),(4,0),(5,1),(6,0),(7,0)]/\K 105 0=some [(0,0),(3,1),(4,1),(5,0)]/\K 122 0=some [(0,0),(6,0),(7,0),(8,0),(9,0)]/\K 124 0=some [(0,0),(1,0),(7,0),(8,0)]/\K 125 0=some [(0,0),(1,0),(7,0),(8,0)]/\K 126 0=some [(1,0),(6,0),(36,0),(37,0),(38,0)]/\K 126 2=some [(1,0),(6,0),(7,0),(8,0),(9,0),(36,0),(37,0),(38,0)]/\K 128 0=some [(0,0),(5,1),(6,1),(9,0),(10,0),(11,0)]/\K 132 0=some [(0,0),(3,0)]/\K 132 2=some [(0,0),(3,0),(4,0),(5,0)]:=by and_intros<;>rfl
@[simp] def zzL:K 133 0=some [(0,0),(1,0),(6,0),(7,0),(8,0)]/\K 141 0=some [(3,0),(5,0)]/\K 143 0=some [(0,0),(9,0),(10,0),(11,0)]/\K 144 0=some [(0,0),(1,0),(6,1),(7,0),(8,0)]/\K 144 2=some [(0,0),(1,0),(6,1),(7,0),(8,0),(9,0)]/\K 145 1=some [(1,0),(6,1),(7,0)]/\K 145 3=some [(1,0),(6,1),(8,0)]/\K 145 5=some [(1,0),(6,1),(9,0),(10,0)]/\K 145 7=some [(1,0),(6,1),(11,0),(12,1),(13,0)]/\K 145 9=some [(1,0),(6,1),(11,0),(12,1),(14,0)]/\K 145 11=some [(1,0),(17,0),(18,1),(19,0)]/\K 158 0=some [(3,0),(6,0),(7,0),(8,0)]/\K 159 0=some [(3,1),(6,0),(7,0),(8,0)]/\K 160 0=some [(3,1),(4,0),(7,0),(8,0),(9,0)]/\K 161 0=some [(0,0),(3,1),(4,0)]/\K 161 2=some [(0,0),(3,1),(4,0),(5,0)]/\K 162 0=some [(0,0),(3,0),(4,0),(18,0),(19,0),(20,0)]/\K 162 2=some [(3,0),(4,0),(7,0),(47,0),(48,0),(49,0)]/\K 163 0=some [(3,0),(4,0),(16,0),(17,0),(18,0)]/\K 164 0=some [(0,0),(1,0),(2,0),(3,0),(8,0),(9,0)]/\K 173 0=some [(0,0),(3,0),(4,0)]/\K 173 2=some [(0,0),(3,0),(4,0)]/\K 174 0=some [(0,0),(3,1),(4,0)]/\K 174 2=some [(0,0),(3,1),(4,0),(5,1),(6,0),(7,0)]/\K 175 0=some [(0,0),(1,0),(5,0)]/\K 182 0=some [(0,0),(1,0),(6,0),(7,0),(8,0)]/\K 184 0=some [(0,0),(3,0),(4,0)]/\K 185 0=some [(0,0),(1,0),(2,0),(6,0)]/\K 185 2=some [(0,0),(1,0),(2,0),(6,0),(7,0)]/\K 186 0=some [(0,0),(6,0),(7,0),(8,0),(9,0)]/\K 186 2=some [(0,0),(6,0),(7,0),(10,0)]/\K 187 0=some [(0,0),(1,0),(6,0),(7,0),(8,0),(9,0)]/\K 189 0=some [(0,0),(6,0),(7,0)]/\K 190 0=some [(0,0),(1,0),(2,0),(7,0),(8,0)]/\K 190 2=some [(0,0),(1,0),(2,0),(7,0),(8,0)]/\K 190 4=some [(0,0),(1,0),(2,0),(7,0),(8,0),(9,0)]/\K 190 6=some [(0,0),(1,0),(2,0),(7,0),(8,0),(10,0)]/\K 191 0=some [(0,0),(1,0),(9,0),(10,0)]/\K 191 2=some [(0,0),(1,0),(9,0),(10,0)]/\K 191 4=some [(0,0),(1,0),(9,0),(10,0)]/\K 192 0=some [(0,0),(1,0),(10,0),(11,0)]/\K 192 2=some [(0,0),(1,0),(10,0),(11,0)]/\K 192 4=some [(0,0),(1,0),(10,0),(11,0)]/\K 192 6=some [(0,0),(1,0),(10,0),(11,0)]/\K 192 8=some [(0,0),(1,0),(10,0),(11,0)]/\K 199 0=some [(0,0),(3,0)]/\K 199 2=some [(0,0),(3,0),(4,0),(5,0)]/\K 202 0=some [(0,0),(2,0),(3,0),(8,0)]/\K 215 0=some [(0,0),(1,0),(2,0),(3,0),(8,0),(9,0)]/\K 220 0=some [(0,0),(1,0),(2,0),(6,0)]/\K 220 2=some [(0,0),(1,0),(2,0),(6,0),(7,0)]/\K 221 0=some [(0,0),(6,0),(7,0),(8,0),(9,0)]/\K 221 2=some [(0,0),(6,0),(7,0),(10,0)]/\K 222 0=some [(0,0),(1,0),(6,0),(7,0),(8,0),(9,0)]/\K 224 0=some [(0,0),(6,0),(7,0)]/\K 225 0=some [(0,0),(1,0),(2,0),(7,0),(8,0)]/\K 225 2=some [(0,0),(1,0),(2,0),(7,0),(8,0)]/\K 225 4=some [(0,0),(1,0),(2,0),(7,0),(8,0),(9,0)]/\K 225 6=some [(0,0),(1,0),(2,0),(7,0),(8,0),(10,0)]/\K 226 0=some [(0,0),(1,0),(9,0),(10,0)]:=by and_intros<;>rfl
@[simp] def zzM:K 226 2=some [(0,0),(1,0),(9,0),(10,0)]/\K 226 4=some [(0,0),(1,0),(9,0),(10,0)]/\K 227 0=some [(0,0),(1,0),(10,0),(11,0)]/\K 227 2=some [(0,0),(1,0),(10,0),(11,0)]/\K 227 4=some [(0,0),(1,0),(10,0),(11,0)]/\K 227 6=some [(0,0),(1,0),(10,0),(11,0)]/\K 227 8=some [(0,0),(1,0),(10,0),(11,0)]/\K 228 0=some [(0,0),(2,0),(3,0),(8,0)]/\Hn 3 6=[0]/\Hn 4 7=[0]/\Hn 4 17=[]/\Hn 6 7=[0]/\Hn 8 7=[0]/\Hn 8 11=[2,9,16]/\Hn 8 16=[2]/\Hn 11 5=[]/\Hn 12 17=[0]/\Hn 12 28=[0,1008]/\Hn 14 11=[]/\Hn 15 7=[]/\Hn 15 9=[]/\Hn 40 9=[6]/\Hn 41 1=[5,6]/\Hn 50 10=[]/\Hn 54 42=[]/\Hn 80 15=[3,4,5]/\Hn 87 3=[]/\Hn 93 6=[8]/\Hn 95 10=[]/\Hn 104 10=[]/\Hn 104 12=[]/\Hn 106 5=[6]/\Hn 126 11=[]/\Hn 132 6=[]/\Hn 132 11=[]/\Hn 145 16=[]/\Hn 145 23=[]/\Hn 145 36=[]/\Hn 161 5=[]/\Hn 164 17=[]/\Hn 174 10=[]/\Hn 174 12=[]/\Hn 185 4=[]/\Hn 185 6=[]/\Hn 186 10=[]/\Hn 187 10=[]/\Hn 189 3=[]/\Hn 190 5=[]/\Hn 190 11=[]/\Hn 190 16=[]/\Hn 190 17=[]/\Hn 190 22=[]/\Hn 190 23=[]/\Hn 191 1=[]/\Hn 191 3=[]/\Hn 191 5=[]/\Hn 191 8=[]/\Hn 192 1=[]/\Hn 192 3=[]/\Hn 192 5=[]:=by and_intros<;>rfl
@[simp] def zxR:Hn 192 8=[]/\Hn 192 10=[]/\Hn 192 13=[]/\Hn 192 15=[]/\Hn 192 18=[]/\Hn 192 21=[]/\Hn 199 6=[]/\Hn 199 11=[]/\Hn 202 3=[]/\Hn 202 5=[]/\Hn 202 6=[]/\Hn 204 1=[]/\Hn 204 2=[]/\Hn 204 3=[]/\Hn 215 17=[]/\Hn 216 1=[]/\Hn 220 4=[]/\Hn 220 6=[]/\Hn 221 10=[]/\Hn 222 10=[]/\Hn 224 3=[]/\Hn 225 5=[]/\Hn 225 11=[]/\Hn 225 16=[]/\Hn 225 17=[]/\Hn 225 22=[]/\Hn 225 23=[]/\Hn 226 1=[]/\Hn 226 3=[]/\Hn 226 5=[]/\Hn 226 8=[]/\Hn 227 1=[]/\Hn 227 3=[]/\Hn 227 5=[]/\Hn 227 8=[]/\Hn 227 10=[]/\Hn 227 13=[]/\Hn 227 15=[]/\Hn 227 18=[]/\Hn 227 21=[]/\Hn 228 3=[]/\Hn 228 5=[]/\Hn 228 6=[]/\Hn 231 1=[]:=by and_intros<;>rfl
noncomputable abbrev R:Run:=zeB Tryz.prog G K Hn
end Go.Am.Ab
namespace Go.Am
def zs5:IntKind.bits .u8=8:=rfl
def zrb:IntKind.bits .u32=32:=rfl
def zrc:IntKind.bits .u64=64:=rfl
def zrd:IntKind.bits .i64=64:=rfl
def zbY (x:Int):IntKind.u8.wrap x=x % 256:=by simp[IntKind.wrap,IntKind.signed,IntKind.bits]
def zct (x:Int):IntKind.u32.wrap x=x % 4294967296:=by simp[IntKind.wrap,IntKind.signed,IntKind.bits]
def zad (x:Int):IntKind.u64.wrap x=x % 18446744073709551616:=by simp[IntKind.wrap,IntKind.signed,IntKind.bits]
def zbB (x:Int):IntKind.i64.wrap x=if x % 18446744073709551616>=9223372036854775808 then x % 18446744073709551616 - 18446744073709551616 else x % 18446744073709551616:=by
 simp[IntKind.wrap,IntKind.signed,IntKind.bits]
def zaQ (n:Nat) (w:Nat):(BitVec.ofInt w (n:Int)).toNat=n % 2 ^ w:=by
 rw[BitVec.toNat_ofInt];have:(n:Int) % ((2 ^ w:Nat):Int)=((n % 2 ^ w:Nat):Int):=by rw[Int.natCast_emod]
 rw[this,Int.toNat_natCast]
def zwC {x y:Nat} (hx:x<2 ^ 64) (hy:y<2 ^ 64):IntKind.u64.wrap (BitVec.ofInt 64 (x:Int) ||| BitVec.ofInt 64 (y:Int)).toNat=((x ||| y:Nat):Int):=by
 rw[BitVec.toNat_or,zaQ,zaQ,Nat.mod_eq_of_lt hx,Nat.mod_eq_of_lt hy,zad];have:=Nat.or_lt_two_pow hx hy;omega
def zs6 {x y:Nat} (hx:x<2 ^ 64) (hy:y<2 ^ 64):IntKind.u64.wrap (BitVec.ofInt 64 (x:Int) &&& BitVec.ofInt 64 (y:Int)).toNat=((x &&& y:Nat):Int):=by
 rw[BitVec.toNat_and,zaQ,zaQ,Nat.mod_eq_of_lt hx,Nat.mod_eq_of_lt hy,zad];have:=Nat.and_lt_two_pow x hy;omega
def zs7 {x y:Nat} (hx:x<2 ^ 64) (hy:y<2 ^ 64):IntKind.u64.wrap (BitVec.ofInt 64 (x:Int) ^^^ BitVec.ofInt 64 (y:Int)).toNat=((x ^^^ y:Nat):Int):=by
 rw[BitVec.toNat_xor,zaQ,zaQ,Nat.mod_eq_of_lt hx,Nat.mod_eq_of_lt hy,zad];have:=Nat.xor_lt_two_pow hx hy;omega
def zzN {x y:Nat} (hx:x<2 ^ 8) (hy:y<2 ^ 8):IntKind.u8.wrap (BitVec.ofInt 8 (x:Int) ||| BitVec.ofInt 8 (y:Int)).toNat=((x ||| y:Nat):Int):=by
 rw[BitVec.toNat_or,zaQ,zaQ,Nat.mod_eq_of_lt hx,Nat.mod_eq_of_lt hy,zbY];have:=Nat.or_lt_two_pow hx hy;omega
def zwD {x y:Nat} (hx:x<2 ^ 8) (hy:y<2 ^ 8):IntKind.u8.wrap (BitVec.ofInt 8 (x:Int) &&& BitVec.ofInt 8 (y:Int)).toNat=((x &&& y:Nat):Int):=by
 rw[BitVec.toNat_and,zaQ,zaQ,Nat.mod_eq_of_lt hx,Nat.mod_eq_of_lt hy,zbY];have:=Nat.and_lt_two_pow x hy;omega
def zwE {x y:Nat} (hx:x<2 ^ 32) (hy:y<2 ^ 32):IntKind.u32.wrap (BitVec.ofInt 32 (x:Int) ||| BitVec.ofInt 32 (y:Int)).toNat=((x ||| y:Nat):Int):=by
 rw[BitVec.toNat_or,zaQ,zaQ,Nat.mod_eq_of_lt hx,Nat.mod_eq_of_lt hy,zct];have:=Nat.or_lt_two_pow hx hy;omega
def zs8 {x y:Nat} (hx:x<2 ^ 32) (hy:y<2 ^ 32):IntKind.u32.wrap (BitVec.ofInt 32 (x:Int) &&& BitVec.ofInt 32 (y:Int)).toNat=((x &&& y:Nat):Int):=by
 rw[BitVec.toNat_and,zaQ,zaQ,Nat.mod_eq_of_lt hx,Nat.mod_eq_of_lt hy,zct];have:=Nat.and_lt_two_pow x hy;omega
def zs9 {x y:Nat} (hx:x<2 ^ 32) (hy:y<2 ^ 32):IntKind.u32.wrap (BitVec.ofInt 32 (x:Int) ^^^ BitVec.ofInt 32 (y:Int)).toNat=((x ^^^ y:Nat):Int):=by
 rw[BitVec.toNat_xor,zaQ,zaQ,Nat.mod_eq_of_lt hx,Nat.mod_eq_of_lt hy,zct];have:=Nat.xor_lt_two_pow hx hy;omega
def zkm {x y:Int} (h1:0<=x) (h2:x<256) (h3:0<=y) (h4:y<256):zbl .or .u8 x y=some (.int .u8 ((x.toNat ||| y.toNat:Nat):Int)):=by
 obtain⟨a,rfl⟩:=Int.eq_ofNat_of_zero_le h1;obtain⟨b,rfl⟩:=Int.eq_ofNat_of_zero_le h3
 show some (D.int .u8 _)=_
 rw[Int.toNat_natCast,Int.toNat_natCast];exact congrArg (λz=>some (D.int .u8 z)) (zzN (by omega) (by omega))
attribute [simp] zkm
def zja {x y:Int} (h1:0<=x) (h2:x<256) (h3:0<=y) (h4:y<256):zbl .and .u8 x y=some (.int .u8 ((x.toNat &&& y.toNat:Nat):Int)):=by
 obtain⟨a,rfl⟩:=Int.eq_ofNat_of_zero_le h1;obtain⟨b,rfl⟩:=Int.eq_ofNat_of_zero_le h3
 show some (D.int .u8 _)=_
 rw[Int.toNat_natCast,Int.toNat_natCast];exact congrArg (λz=>some (D.int .u8 z)) (zwD (by omega) (by omega))
attribute [simp] zja
def zjb {x y:Int} (h1:0<=x) (h2:x<4294967296) (h3:0<=y) (h4:y<4294967296):zbl .or .u32 x y=some (.int .u32 ((x.toNat ||| y.toNat:Nat):Int)):=by
 obtain⟨a,rfl⟩:=Int.eq_ofNat_of_zero_le h1;obtain⟨b,rfl⟩:=Int.eq_ofNat_of_zero_le h3
 show some (D.int .u32 _)=_
 rw[Int.toNat_natCast,Int.toNat_natCast];exact congrArg (λz=>some (D.int .u32 z)) (zwE (by omega) (by omega))
attribute [simp] zjb
def zh4 {x y:Int} (h1:0<=x) (h2:x<4294967296) (h3:0<=y) (h4:y<4294967296):zbl .and .u32 x y=some (.int .u32 ((x.toNat &&& y.toNat:Nat):Int)):=by
 obtain⟨a,rfl⟩:=Int.eq_ofNat_of_zero_le h1;obtain⟨b,rfl⟩:=Int.eq_ofNat_of_zero_le h3
 show some (D.int .u32 _)=_
 rw[Int.toNat_natCast,Int.toNat_natCast];exact congrArg (λz=>some (D.int .u32 z)) (zs8 (by omega) (by omega))
attribute [simp] zh4
def zh5 {x y:Int} (h1:0<=x) (h2:x<4294967296) (h3:0<=y) (h4:y<4294967296):zbl .xor .u32 x y=some (.int .u32 ((x.toNat ^^^ y.toNat:Nat):Int)):=by
 obtain⟨a,rfl⟩:=Int.eq_ofNat_of_zero_le h1;obtain⟨b,rfl⟩:=Int.eq_ofNat_of_zero_le h3
 show some (D.int .u32 _)=_
 rw[Int.toNat_natCast,Int.toNat_natCast];exact congrArg (λz=>some (D.int .u32 z)) (zs9 (by omega) (by omega))
attribute [simp] zh5
def zjc {x y:Int} (h1:0<=x) (h2:x<18446744073709551616) (h3:0<=y) (h4:y<18446744073709551616):zbl .or .u64 x y=some (.int .u64 ((x.toNat ||| y.toNat:Nat):Int)):=by
 obtain⟨a,rfl⟩:=Int.eq_ofNat_of_zero_le h1;obtain⟨b,rfl⟩:=Int.eq_ofNat_of_zero_le h3
 show some (D.int .u64 _)=_
 rw[Int.toNat_natCast,Int.toNat_natCast];exact congrArg (λz=>some (D.int .u64 z)) (zwC (by omega) (by omega))
attribute [simp] zjc
def zh6 {x y:Int} (h1:0<=x) (h2:x<18446744073709551616) (h3:0<=y) (h4:y<18446744073709551616):zbl .and .u64 x y=some (.int .u64 ((x.toNat &&& y.toNat:Nat):Int)):=by
 obtain⟨a,rfl⟩:=Int.eq_ofNat_of_zero_le h1;obtain⟨b,rfl⟩:=Int.eq_ofNat_of_zero_le h3
 show some (D.int .u64 _)=_
 rw[Int.toNat_natCast,Int.toNat_natCast];exact congrArg (λz=>some (D.int .u64 z)) (zs6 (by omega) (by omega))
attribute [simp] zh6
def zh7 {x y:Int} (h1:0<=x) (h2:x<18446744073709551616) (h3:0<=y) (h4:y<18446744073709551616):zbl .xor .u64 x y=some (.int .u64 ((x.toNat ^^^ y.toNat:Nat):Int)):=by
 obtain⟨a,rfl⟩:=Int.eq_ofNat_of_zero_le h1;obtain⟨b,rfl⟩:=Int.eq_ofNat_of_zero_le h3
 show some (D.int .u64 _)=_
 rw[Int.toNat_natCast,Int.toNat_natCast];exact congrArg (λz=>some (D.int .u64 z)) (zs7 (by omega) (by omega))
attribute [simp] zh7
def zwF {x y i:Nat} (hx:x % 2 ^ i=0) (hy:y<2 ^ i):x ||| y=x+y:=by
 have e:x=2 ^ i*(x / 2 ^ i):=by
  have:=Nat.div_add_mod x (2 ^ i);omega
 rw[e,Nat.two_pow_add_eq_or_of_lt hy]
def zlD {x y i:Nat} (hx:x % 2 ^ i=0) (hy:y<2 ^ i):y ||| x=y+x:=by rw[Nat.or_comm,zwF hx hy,Nat.add_comm]
def zzO (n:Nat):(n % 256 ||| 128)=n % 128+128:=by
 have h1:n % 256=n % 128+128*(n / 128 % 2):=by omega
 have h2:n / 128 % 2=0\/n / 128 % 2=1:=by omega
 have h3:n % 128<2 ^ 7:=by omega
 rcases h2 with h | h
 ·rw[h1,h,Nat.mul_zero,Nat.add_zero]
  rw[zlD (i:=7) (by decide) h3]
 ·rw[h1,h,Nat.mul_one]
  have:n % 128+128=n % 128 ||| 128:=(zlD (i:=7) (by decide) h3).symm
  rw[this,Nat.or_assoc,Nat.or_self]
def ze8 (n k:Nat):n &&& (2 ^ k - 1)=n % 2 ^ k:=Nat.and_two_pow_sub_one_eq_mod n k
def zwG (n:Nat):n &&& 127=n % 128:=ze8 n 7
def zBk (n:Nat):n &&& 1=n % 2:=ze8 n 1
def zre {x:Nat} (hx:x<2 ^ 64):x ^^^ 18446744073709551615=18446744073709551615 - x:=by
 have h:(BitVec.ofNat 64 x ^^^ BitVec.allOnes 64).toNat=(~~~ BitVec.ofNat 64 x).toNat:=by rw[BitVec.xor_allOnes]
 rw[BitVec.toNat_xor,BitVec.toNat_not,BitVec.toNat_ofNat,BitVec.toNat_allOnes,Nat.mod_eq_of_lt hx]at h;exact h
def zeD {x:Int} (h1: -9223372036854775808<=x) (h2:x<=9223372036854775807):zbl .xor .i64 x 0=some (.int .i64 x):=by
 show some (D.int .i64 (IntKind.i64.wrap (BitVec.ofInt 64 x ^^^ BitVec.ofInt 64 0).toNat))=_
 have:BitVec.ofInt 64 0=0#64:=rfl;rw[this,BitVec.xor_zero,BitVec.toNat_ofInt,zbB];congr 2;split <;> omega
def zfF {x:Int} (h1: -9223372036854775808<=x) (h2:x<=9223372036854775807):zbl .xor .i64 x (-1)=some (.int .i64 (-x - 1)):=by
 show some (D.int .i64 (IntKind.i64.wrap (BitVec.ofInt 64 x ^^^ BitVec.ofInt 64 (-1)).toNat))=_
 have:BitVec.ofInt 64 (-1)=BitVec.allOnes 64:=by decide
 rw[this,BitVec.xor_allOnes,BitVec.toNat_not,BitVec.toNat_ofInt,zbB];congr 2;split <;> omega
attribute [simp] zeD zfF
def u8n (n:Nat):UInt8:=UInt8.ofNat n
def zdS {n:Nat} (h:n<256):(u8n n).toNat=n:=by simp[u8n];omega
def zwH (b:UInt8):u8n b.toNat=b:=by simp[u8n]
abbrev bytes (l:List UInt8):List D:=l.map za2
def zjd {b:UInt8} {x:Int} (h:(b.toNat:Int)=x):za2 b= .int .u8 x:=by simp[za2,h]
def zch {n:Nat} (h:n<256):(UInt8.ofNat n).toNat=n:=by simp;omega
@[simp] def zwI (l:List UInt8):(ByteArray.mk l.toArray).toList=l:=by rw[ByteArray.toList_eq]
@[simp] def zzP (l:List UInt8):(ByteArray.mk l.toArray).size=l.length:=by simp[ByteArray.size]
@[simp] def zui (l:List UInt8):l.mapM (byteOf? ∘ za2)=some l:=by rw[<- List.mapM_map];exact zcX l
@[simp] def zuj (l:List UInt8) (k:Nat):((l.map za2).take k).mapM byteOf?=some (l.take k):=by rw[<- List.map_take,zcX]
@[simp] def zuk (l:List UInt8) (k:Nat):((l.map za2).drop k).mapM byteOf?=some (l.drop k):=by rw[<- List.map_drop,zcX]
@[simp] def zo2 (l:List UInt8) (k j:Nat):(((l.map za2).take k).drop j).mapM byteOf?=some ((l.take k).drop j):=by rw[<- List.map_take,<- List.map_drop,zcX]
@[simp] def zrf (l:List UInt8):zap 1 (l.map za2)=true:=zaK l λ_=>rfl
@[simp] def zse {α:Type} (k:IntKind) (f:α->Int) (l:List α):zap 1 (l.map λx=>D.int k (f x))=true:=zaK l λ_=>rfl
@[simp] def zsf (l:List ByteArray):zap 1 (l.map D.str)=true:=zaK l λ_=>rfl
attribute [simp] cut
@[simp] def zsg {α β:Type} (f:α->β) (l:List α):(l.map f).take l.length=l.map f:=List.take_of_length_le (by simp)
attribute [simp] za2 zdS zzO zwG zBk zwH
attribute [simp] zbY zct zs5 zrb zrc zrd
@[simp] def zsh (m:Nat):((m:Int) % 256).toNat=m % 256:=by omega
@[simp] def zta (m:Nat):((m:Int) % 4294967296).toNat=m % 4294967296:=by omega
@[simp] def ztb (m:Nat):((m:Int) % 18446744073709551616).toNat=m % 18446744073709551616:=by omega
def zmJ (a b:Int) (h:0<=b):a.fdiv b=a / b:=Int.fdiv_eq_ediv_of_nonneg a h
@[simp] def zxS (a:Int) (w:Nat):a.fdiv (2 ^ w)=a / 2 ^ w:=zmJ a _ (Int.le_of_lt (Int.pow_pos (by decide)))
attribute [simp] zmJ
def zrg (a b:Int) (h:0<=a):a.tdiv b=a / b:=Int.tdiv_eq_ediv_of_nonneg h
def zrh (a b:Int) (h:0<=a):a.tmod b=a % b:=Int.tmod_eq_emod_of_nonneg h
attribute [simp] zrg zrh
end Go.Am
namespace Go.Am.Ab
structure Fld where
 id:Int
 name:ByteArray
 kind:Int
 need:Bool
structure Sch where
 id:Int
 fields:List Fld
structure Snap where
 id:Int
 parent:Int
 seq:Int
 offset:Int
 time:Int
 schema:Int
 mans:List ByteArray
structure Tab where
 schemas:List Sch
 snaps:List Snap
 current:Int
structure Pol where
 keep:Int
 age:Int
abbrev u64 (n:Int):D:= .int .u64 n
abbrev i64 (n:Int):D:= .int .i64 n
def Fld.d (f:Fld):D:= .agg [.int .u32 f.id,.str f.name,.int .u8 f.kind,.bool f.need]
def Sch.d (s:Sch):D:= .agg [.int .u32 s.id,.list (s.fields.map Fld.d)]
def Snap.d (s:Snap):D:= .agg [.int .u64 s.id,.int .u64 s.parent,.int .u64 s.seq,.int .u64 s.offset,.int .u64 s.time,.int .u32 s.schema,.list (s.mans.map .str)]
def Tab.d (t:Tab):D:= .agg [.list (t.schemas.map Sch.d),.list (t.snaps.map Snap.d),.int .u64 t.current]
def Pol.d (p:Pol):D:= .agg [.int .i64 p.keep,.int .u64 p.age]
attribute [simp] Fld.d Sch.d Snap.d Tab.d Pol.d
end Go.Am.Ab
namespace Go.Am.Ab
def nI {m n:Nat}:(m:Int)=n↔m=n:=Int.natCast_inj
def wI {x:Int} (h1: -9223372036854775808<=x) (h2:x<=9223372036854775807):IntKind.i64.wrap x=x:=zra h1 h2
end Go.Am.Ab
namespace Go.Am.Ab
open Go.Proofs
structure Bun (f:FuncId) (fn:Func) (c:Code) (rs:List ResultVar) (ts:List TypeId):Prop where
 a:Tryz.prog.funcs[f]? =some fn
 b:fn.body=some c
 j:fn.results.toList=rs
 d:fn.resultTypes.toList=ts
 e:codeOk Tryz.prog (Hn f) fn.ntmps c=true
 g : (fn.name == "runtime.NumGoroutine") = false
 i:splits G f=false
def rg {f:FuncId} {fn:Func} {c:Code} {rs:List ResultVar} {ts:List TypeId} {args:List V} {h:List Obj} {r:List V × List Obj} (u:Bun f fn c rs ts) (hl:Nat.ble args.length fn.ntmps=true) (hr: ∀T:Option (List V × List Obj)->Prop,T (some r)->T (zo1 Tryz.prog h.length rs ts (zbA Tryz.prog G K Hn (zeB Tryz.prog G K Hn) f h.length 0 c ⟨⟩ (zam 0 args) h))):zeB Tryz.prog G K Hn f args h=some r:=zgz u.a u.b u.j u.d u.e u.g (.inl u.i) (Nat.le_of_ble_eq_true hl) hr
def ra {f:FuncId} {fn:Func} {c:Code} {rs:List ResultVar} {ts:List TypeId} {args:List V} {h:List Obj} {p:Option (List V × List Obj)->Prop} (u:Bun f fn c rs ts) (hl:Nat.ble args.length fn.ntmps=true) (hp: ¬ p none) (hr:p (zo1 Tryz.prog h.length rs ts (zbA Tryz.prog G K Hn (zeB Tryz.prog G K Hn) f h.length 0 c ⟨⟩ (zam 0 args) h))):p (zeB Tryz.prog G K Hn f args h):=zs2 u.a u.b u.j u.d u.e u.g (.inl u.i) (Nat.le_of_ble_eq_true hl) hp hr
def b3:=Bun.mk (f:=3) (rs:=[.tmp 6]) (ts:=[4]) Tryz.func3 rfl rfl rfl (by kernel_rfl) (by kernel_rfl) zBi
def b10:=Bun.mk (f:=10) (rs:=[.tmp 2]) (ts:=[4]) Tryz.func10 rfl rfl rfl (by kernel_rfl) (by kernel_rfl) zyV
def b11:=Bun.mk (f:=11) (rs:=[.tmp 2]) (ts:=[26]) Tryz.func11 rfl rfl rfl (by kernel_rfl) (by kernel_rfl) zyW
def b12:=Bun.mk (f:=12) (rs:=[.cell 6 30,.cell 7 31]) (ts:=[30,31]) Tryz.func12 rfl rfl rfl (by kernel_rfl) (by kernel_rfl) zyX
def b13:=Bun.mk (f:=13) (rs:=[.tmp 2]) (ts:=[34]) Tryz.func13 rfl rfl rfl (by kernel_rfl) (by kernel_rfl) zyY
def b14:=Bun.mk (f:=14) (rs:=[.tmp 6,.tmp 7]) (ts:=[30,3]) Tryz.func14 rfl rfl rfl (by kernel_rfl) (by kernel_rfl) zyZ
def b15:=Bun.mk (f:=15) (rs:=[.tmp 2]) (ts:=[3]) Tryz.func15 rfl rfl rfl (by kernel_rfl) (by kernel_rfl) zy0
def b24:=Bun.mk (f:=24) (rs:=[.tmp 2]) (ts:=[30]) Tryz.func24 rfl rfl rfl (by kernel_rfl) (by kernel_rfl) zy1
def b33:=Bun.mk (f:=33) (rs:=[.cell 2 77]) (ts:=[77]) Tryz.func33 rfl rfl rfl (by kernel_rfl) (by kernel_rfl) zy2
def b34:=Bun.mk (f:=34) (rs:=[.tmp 4]) (ts:=[58]) Tryz.func34 rfl rfl rfl (by kernel_rfl) (by kernel_rfl) zy3
def b38:=Bun.mk (f:=38) (rs:=[.tmp 2]) (ts:=[58]) Tryz.func38 rfl rfl rfl (by kernel_rfl) (by kernel_rfl) zy4
def b39:=Bun.mk (f:=39) (rs:=[.tmp 2]) (ts:=[31]) Tryz.func39 rfl rfl rfl (by kernel_rfl) (by kernel_rfl) zy5
def b40:=Bun.mk (f:=40) (rs:=[.tmp 4]) (ts:=[31]) Tryz.func40 rfl rfl rfl (by kernel_rfl) (by kernel_rfl) zy6
def b41:=Bun.mk (f:=41) (rs:=[.tmp 2]) (ts:=[30]) Tryz.func41 rfl rfl rfl (by kernel_rfl) (by kernel_rfl) zy7
def b42:=Bun.mk (f:=42) (rs:=[.tmp 2]) (ts:=[30]) Tryz.func42 rfl rfl rfl (by kernel_rfl) (by kernel_rfl) zy8
def b43:=Bun.mk (f:=43) (rs:=[.tmp 4]) (ts:=[92]) Tryz.func43 rfl rfl rfl (by kernel_rfl) (by kernel_rfl) zy9
def b44:=Bun.mk (f:=44) (rs:=[.tmp 4]) (ts:=[71]) Tryz.func44 rfl rfl rfl (by kernel_rfl) (by kernel_rfl) zza
def b45:=Bun.mk (f:=45) (rs:=[.tmp 4,.tmp 5]) (ts:=[30,31]) Tryz.func45 rfl rfl rfl (by kernel_rfl) (by kernel_rfl) zzb
def b46:=Bun.mk (f:=46) (rs:=[.tmp 4]) (ts:=[30]) Tryz.func46 rfl rfl rfl (by kernel_rfl) (by kernel_rfl) zzc
def b47:=Bun.mk (f:=47) (rs:=[.cell 2 77]) (ts:=[77]) Tryz.func47 rfl rfl rfl (by kernel_rfl) (by kernel_rfl) zzd
def b48:=Bun.mk (f:=48) (rs:=[.tmp 2]) (ts:=[30]) Tryz.func48 rfl rfl rfl (by kernel_rfl) (by kernel_rfl) zze
def b49:=Bun.mk (f:=49) (rs:=[.tmp 2]) (ts:=[71]) Tryz.func49 rfl rfl rfl (by kernel_rfl) (by kernel_rfl) zzf
def b50:=Bun.mk (f:=50) (rs:=[.tmp 4]) (ts:=[3]) Tryz.func50 rfl rfl rfl (by kernel_rfl) (by kernel_rfl) zzg
def b51:=Bun.mk (f:=51) (rs:=[.tmp 2]) (ts:=[30]) Tryz.func51 rfl rfl rfl (by kernel_rfl) (by kernel_rfl) zzh
def b52:=Bun.mk (f:=52) (rs:=[.tmp 2]) (ts:=[30]) Tryz.func52 rfl rfl rfl (by kernel_rfl) (by kernel_rfl) zzi
def b53:=Bun.mk (f:=53) (rs:=[.tmp 4]) (ts:=[100]) Tryz.func53 rfl rfl rfl (by kernel_rfl) (by kernel_rfl) zzj
def b54:=Bun.mk (f:=54) (rs:=[.tmp 4,.tmp 5]) (ts:=[30,3]) Tryz.func54 rfl rfl rfl (by kernel_rfl) (by kernel_rfl) zzk
def b55:=Bun.mk (f:=55) (rs:=[.tmp 2]) (ts:=[30]) Tryz.func55 rfl rfl rfl (by kernel_rfl) (by kernel_rfl) zzl
def b56:=Bun.mk (f:=56) (rs:=[.tmp 2]) (ts:=[4]) Tryz.func56 rfl rfl rfl (by kernel_rfl) (by kernel_rfl) zzm
def b57:=Bun.mk (f:=57) (rs:=[.tmp 4]) (ts:=[4]) Tryz.func57 rfl rfl rfl (by kernel_rfl) (by kernel_rfl) zzn
def b71:=Bun.mk (f:=71) (rs:=[.cell 2 41]) (ts:=[41]) Tryz.func71 rfl rfl rfl (by kernel_rfl) (by kernel_rfl) zzo
def b72:=Bun.mk (f:=72) (rs:=[.tmp 4]) (ts:=[4]) Tryz.func72 rfl rfl rfl (by kernel_rfl) (by kernel_rfl) zzp
def b75:=Bun.mk (f:=75) (rs:=[.tmp 4]) (ts:=[22]) Tryz.func75 rfl rfl rfl (by kernel_rfl) (by kernel_rfl) zzq
def b78:=Bun.mk (f:=78) (rs:=[.tmp 2,.tmp 3,.tmp 4]) (ts:=[129,129,4]) Tryz.func78 rfl rfl rfl (by kernel_rfl) (by kernel_rfl) zzr
def b79:=Bun.mk (f:=79) (rs:=[.tmp 4]) (ts:=[9]) Tryz.func79 rfl rfl rfl (by kernel_rfl) (by kernel_rfl) zzs
def b80:=Bun.mk (f:=80) (rs:=[.tmp 4,.tmp 5]) (ts:=[9,4]) Tryz.func80 rfl rfl rfl (by kernel_rfl) (by kernel_rfl) zzt
def b82:=Bun.mk (f:=82) (rs:=[.tmp 2]) (ts:=[4]) Tryz.func82 rfl rfl rfl (by kernel_rfl) (by kernel_rfl) zzu
def b83:=Bun.mk (f:=83) (rs:=[.tmp 4]) (ts:=[4]) Tryz.func83 rfl rfl rfl (by kernel_rfl) (by kernel_rfl) zzv
def b84:=Bun.mk (f:=84) (rs:=[.tmp 3]) (ts:=[4]) Tryz.func84 rfl rfl rfl (by kernel_rfl) (by kernel_rfl) zzw
def b85:=Bun.mk (f:=85) (rs:=[.tmp 2]) (ts:=[4]) Tryz.func85 rfl rfl rfl (by kernel_rfl) (by kernel_rfl) zzx
def b86:=Bun.mk (f:=86) (rs:=[.tmp 2]) (ts:=[39]) Tryz.func86 rfl rfl rfl (by kernel_rfl) (by kernel_rfl) zzy
def b88:=Bun.mk (f:=88) (rs:=[.tmp 2]) (ts:=[4]) Tryz.func88 rfl rfl rfl (by kernel_rfl) (by kernel_rfl) zzz
def b89:=Bun.mk (f:=89) (rs:=[.tmp 4]) (ts:=[4]) Tryz.func89 rfl rfl rfl (by kernel_rfl) (by kernel_rfl) zzA
def b90:=Bun.mk (f:=90) (rs:=[.tmp 2]) (ts:=[30]) Tryz.func90 rfl rfl rfl (by kernel_rfl) (by kernel_rfl) zzB
def b91:=Bun.mk (f:=91) (rs:=[.tmp 2,.tmp 3]) (ts:=[30,4]) Tryz.func91 rfl rfl rfl (by kernel_rfl) (by kernel_rfl) zzC
def b92:=Bun.mk (f:=92) (rs:=[.tmp 2]) (ts:=[30]) Tryz.func92 rfl rfl rfl (by kernel_rfl) (by kernel_rfl) zzD
def b93:=Bun.mk (f:=93) (rs:=[.tmp 4]) (ts:=[30]) Tryz.func93 rfl rfl rfl (by kernel_rfl) (by kernel_rfl) zzE
def b94:=Bun.mk (f:=94) (rs:=[.tmp 2]) (ts:=[4]) Tryz.func94 rfl rfl rfl (by kernel_rfl) (by kernel_rfl) zzF
def b95:=Bun.mk (f:=95) (rs:=[.tmp 4]) (ts:=[3]) Tryz.func95 rfl rfl rfl (by kernel_rfl) (by kernel_rfl) zzG
def b96:=Bun.mk (f:=96) (rs:=[.tmp 4]) (ts:=[9]) Tryz.func96 rfl rfl rfl (by kernel_rfl) (by kernel_rfl) zzH
def b97:=Bun.mk (f:=97) (rs:=[.tmp 4,.tmp 5]) (ts:=[9,4]) Tryz.func97 rfl rfl rfl (by kernel_rfl) (by kernel_rfl) zzI
def b98:=Bun.mk (f:=98) (rs:=[.cell 2 41,.tmp 3]) (ts:=[41,4]) Tryz.func98 rfl rfl rfl (by kernel_rfl) (by kernel_rfl) zzJ
def b99:=Bun.mk (f:=99) (rs:=[.tmp 2]) (ts:=[22]) Tryz.func99 rfl rfl rfl (by kernel_rfl) (by kernel_rfl) zzK
def zBl:=Bun.mk (f:=101) (rs:=[.tmp 2]) (ts:=[70]) Tryz.func101 rfl rfl rfl (by kernel_rfl) (by kernel_rfl) zve
def zBm:=Bun.mk (f:=102) (rs:=[.tmp 2]) (ts:=[30]) Tryz.func102 rfl rfl rfl (by kernel_rfl) (by kernel_rfl) zvf
def zBn:=Bun.mk (f:=103) (rs:=[.tmp 2,.tmp 3]) (ts:=[30,4]) Tryz.func103 rfl rfl rfl (by kernel_rfl) (by kernel_rfl) zvg
def zBo:=Bun.mk (f:=104) (rs:=[.tmp 2]) (ts:=[143]) Tryz.func104 rfl rfl rfl (by kernel_rfl) (by kernel_rfl) zvh
def zBp:=Bun.mk (f:=105) (rs:=[.tmp 2]) (ts:=[30]) Tryz.func105 rfl rfl rfl (by kernel_rfl) (by kernel_rfl) zvi
def zxT:=Bun.mk (f:=106) (rs:=[.tmp 2]) (ts:=[30]) Tryz.func106 rfl rfl rfl (by kernel_rfl) (by kernel_rfl) zvj
def zAw:=Bun.mk (f:=120) (rs:=[.tmp 2]) (ts:=[3]) Tryz.func120 rfl rfl rfl (by kernel_rfl) (by kernel_rfl) zvk
def zri:=Bun.mk (f:=122) (rs:=[.tmp 2,.tmp 3,.tmp 4]) (ts:=[3,3,4]) Tryz.func122 rfl rfl rfl (by kernel_rfl) (by kernel_rfl) zvl
def zxU:=Bun.mk (f:=123) (rs:=[.tmp 2]) (ts:=[30]) Tryz.func123 rfl rfl rfl (by kernel_rfl) (by kernel_rfl) zvm
def zBq:=Bun.mk (f:=124) (rs:=[.tmp 4]) (ts:=[3]) Tryz.func124 rfl rfl rfl (by kernel_rfl) (by kernel_rfl) zvn
def zAx:=Bun.mk (f:=125) (rs:=[.tmp 4]) (ts:=[3]) Tryz.func125 rfl rfl rfl (by kernel_rfl) (by kernel_rfl) zvo
def zBr:=Bun.mk (f:=126) (rs:=[.tmp 4,.tmp 5]) (ts:=[30,4]) Tryz.func126 rfl rfl rfl (by kernel_rfl) (by kernel_rfl) zvp
def zwJ:=Bun.mk (f:=127) (rs:=[.tmp 4,.tmp 5]) (ts:=[30,4]) Tryz.func127 rfl rfl rfl (by kernel_rfl) (by kernel_rfl) zvq
def zzQ:=Bun.mk (f:=128) (rs:=[.tmp 4]) (ts:=[30]) Tryz.func128 rfl rfl rfl (by kernel_rfl) (by kernel_rfl) zvr
def zBs:=Bun.mk (f:=129) (rs:=[.tmp 2]) (ts:=[30]) Tryz.func129 rfl rfl rfl (by kernel_rfl) (by kernel_rfl) zvs
def zBt:=Bun.mk (f:=131) (rs:=[]) (ts:=[]) Tryz.func131 rfl rfl rfl (by kernel_rfl) (by kernel_rfl) zvu
def zAy:=Bun.mk (f:=132) (rs:=[.tmp 2]) (ts:=[143]) Tryz.func132 rfl rfl rfl (by kernel_rfl) (by kernel_rfl) zvv
def zBu:=Bun.mk (f:=133) (rs:=[.tmp 4,.tmp 5]) (ts:=[3,4]) Tryz.func133 rfl rfl rfl (by kernel_rfl) (by kernel_rfl) zvw
def zAz:=Bun.mk (f:=134) (rs:=[.tmp 2]) (ts:=[30]) Tryz.func134 rfl rfl rfl (by kernel_rfl) (by kernel_rfl) zvx
def zBv:=Bun.mk (f:=135) (rs:=[.tmp 4]) (ts:=[4]) Tryz.func135 rfl rfl rfl (by kernel_rfl) (by kernel_rfl) zvy
def zzR:=Bun.mk (f:=136) (rs:=[.tmp 4]) (ts:=[3]) Tryz.func136 rfl rfl rfl (by kernel_rfl) (by kernel_rfl) zvz
def zzS:=Bun.mk (f:=137) (rs:=[.tmp 4]) (ts:=[3]) Tryz.func137 rfl rfl rfl (by kernel_rfl) (by kernel_rfl) zvA
def zzT:=Bun.mk (f:=138) (rs:=[.tmp 4]) (ts:=[3]) Tryz.func138 rfl rfl rfl (by kernel_rfl) (by kernel_rfl) zvB
def zBw:=Bun.mk (f:=139) (rs:=[.tmp 2]) (ts:=[117]) Tryz.func139 rfl rfl rfl (by kernel_rfl) (by kernel_rfl) zvC
def zzU:=Bun.mk (f:=140) (rs:=[.tmp 4]) (ts:=[3]) Tryz.func140 rfl rfl rfl (by kernel_rfl) (by kernel_rfl) zvD
def zBx:=Bun.mk (f:=141) (rs:=[.tmp 2]) (ts:=[3]) Tryz.func141 rfl rfl rfl (by kernel_rfl) (by kernel_rfl) zvE
def zzV:=Bun.mk (f:=142) (rs:=[.tmp 2,.tmp 3]) (ts:=[21,4]) Tryz.func142 rfl rfl rfl (by kernel_rfl) (by kernel_rfl) zvF
def zBy:=Bun.mk (f:=143) (rs:=[.tmp 4]) (ts:=[22]) Tryz.func143 rfl rfl rfl (by kernel_rfl) (by kernel_rfl) zvG
def zBz:=Bun.mk (f:=144) (rs:=[.tmp 4,.tmp 5]) (ts:=[30,4]) Tryz.func144 rfl rfl rfl (by kernel_rfl) (by kernel_rfl) zvH
def zul:=Bun.mk (f:=145) (rs:=[.tmp 4,.tmp 5]) (ts:=[30,4]) Tryz.func145 rfl rfl rfl (by kernel_rfl) (by kernel_rfl) zvI
def zBA:=Bun.mk (f:=146) (rs:=[.tmp 2]) (ts:=[30]) Tryz.func146 rfl rfl rfl (by kernel_rfl) (by kernel_rfl) zvJ
def zAA:=Bun.mk (f:=147) (rs:=[.tmp 2]) (ts:=[30]) Tryz.func147 rfl rfl rfl (by kernel_rfl) (by kernel_rfl) zvK
def zBB:=Bun.mk (f:=158) (rs:=[.tmp 2]) (ts:=[3]) Tryz.func158 rfl rfl rfl (by kernel_rfl) (by kernel_rfl) zvL
def zBC:=Bun.mk (f:=159) (rs:=[.tmp 2]) (ts:=[30]) Tryz.func159 rfl rfl rfl (by kernel_rfl) (by kernel_rfl) zvM
def zBD:=Bun.mk (f:=160) (rs:=[.tmp 2]) (ts:=[30]) Tryz.func160 rfl rfl rfl (by kernel_rfl) (by kernel_rfl) zvN
def zBE:=Bun.mk (f:=161) (rs:=[.tmp 2]) (ts:=[30]) Tryz.func161 rfl rfl rfl (by kernel_rfl) (by kernel_rfl) zvO
def zAB:=Bun.mk (f:=162) (rs:=[.tmp 2]) (ts:=[30]) Tryz.func162 rfl rfl rfl (by kernel_rfl) (by kernel_rfl) zvP
def zAC:=Bun.mk (f:=163) (rs:=[.tmp 2]) (ts:=[30]) Tryz.func163 rfl rfl rfl (by kernel_rfl) (by kernel_rfl) zvQ
def zBF:=Bun.mk (f:=164) (rs:=[]) (ts:=[]) Tryz.func164 rfl rfl rfl (by kernel_rfl) (by kernel_rfl) zvR
def zBG:=Bun.mk (f:=165) (rs:=[.tmp 2]) (ts:=[3]) Tryz.func165 rfl rfl rfl (by kernel_rfl) (by kernel_rfl) zvS
def zBH:=Bun.mk (f:=166) (rs:=[.tmp 4]) (ts:=[4]) Tryz.func166 rfl rfl rfl (by kernel_rfl) (by kernel_rfl) zvT
def zAD:=Bun.mk (f:=168) (rs:=[.tmp 4]) (ts:=[4]) Tryz.func168 rfl rfl rfl (by kernel_rfl) (by kernel_rfl) zvU
def zBI:=Bun.mk (f:=169) (rs:=[.tmp 2]) (ts:=[4]) Tryz.func169 rfl rfl rfl (by kernel_rfl) (by kernel_rfl) zvV
def zAE:=Bun.mk (f:=170) (rs:=[.tmp 2]) (ts:=[4]) Tryz.func170 rfl rfl rfl (by kernel_rfl) (by kernel_rfl) zvW
def zBJ:=Bun.mk (f:=171) (rs:=[.tmp 2]) (ts:=[4]) Tryz.func171 rfl rfl rfl (by kernel_rfl) (by kernel_rfl) zvX
def zAF:=Bun.mk (f:=172) (rs:=[.tmp 2]) (ts:=[4]) Tryz.func172 rfl rfl rfl (by kernel_rfl) (by kernel_rfl) zvY
def zBK:=Bun.mk (f:=173) (rs:=[.tmp 2]) (ts:=[3]) Tryz.func173 rfl rfl rfl (by kernel_rfl) (by kernel_rfl) zvZ
def zBL:=Bun.mk (f:=174) (rs:=[.tmp 2]) (ts:=[142]) Tryz.func174 rfl rfl rfl (by kernel_rfl) (by kernel_rfl) zv0
def zBM:=Bun.mk (f:=175) (rs:=[.tmp 4]) (ts:=[90]) Tryz.func175 rfl rfl rfl (by kernel_rfl) (by kernel_rfl) zv1
def zBN:=Bun.mk (f:=180) (rs:=[.tmp 2]) (ts:=[3]) Tryz.func180 rfl rfl rfl (by kernel_rfl) (by kernel_rfl) zv2
def zAG:=Bun.mk (f:=181) (rs:=[.tmp 2]) (ts:=[142]) Tryz.func181 rfl rfl rfl (by kernel_rfl) (by kernel_rfl) zv3
def zBO:=Bun.mk (f:=182) (rs:=[.tmp 4,.tmp 5]) (ts:=[3,4]) Tryz.func182 rfl rfl rfl (by kernel_rfl) (by kernel_rfl) zv4
def zBP:=Bun.mk (f:=183) (rs:=[.tmp 2]) (ts:=[30]) Tryz.func183 rfl rfl rfl (by kernel_rfl) (by kernel_rfl) zv5
def zBQ:=Bun.mk (f:=184) (rs:=[.tmp 2]) (ts:=[2]) Tryz.func184 rfl rfl rfl (by kernel_rfl) (by kernel_rfl) zv6
def zBR:=Bun.mk (f:=185) (rs:=[]) (ts:=[]) Tryz.func185 rfl rfl rfl (by kernel_rfl) (by kernel_rfl) zv7
def zBS:=Bun.mk (f:=186) (rs:=[]) (ts:=[]) Tryz.func186 rfl rfl rfl (by kernel_rfl) (by kernel_rfl) zv8
def zBT:=Bun.mk (f:=187) (rs:=[]) (ts:=[]) Tryz.func187 rfl rfl rfl (by kernel_rfl) (by kernel_rfl) zv9
def zwK:=Bun.mk (f:=188) (rs:=[.tmp 6,.tmp 7]) (ts:=[3,229]) Tryz.func188 rfl rfl rfl (by kernel_rfl) (by kernel_rfl) zwa
def zBU:=Bun.mk (f:=189) (rs:=[]) (ts:=[]) Tryz.func189 rfl rfl rfl (by kernel_rfl) (by kernel_rfl) zwb
def zBV:=Bun.mk (f:=190) (rs:=[.tmp 6]) (ts:=[4]) Tryz.func190 rfl rfl rfl (by kernel_rfl) (by kernel_rfl) zwc
def zBW:=Bun.mk (f:=191) (rs:=[.tmp 8]) (ts:=[3]) Tryz.func191 rfl rfl rfl (by kernel_rfl) (by kernel_rfl) zwd
def zBX:=Bun.mk (f:=192) (rs:=[.tmp 8,.tmp 9]) (ts:=[3,4]) Tryz.func192 rfl rfl rfl (by kernel_rfl) (by kernel_rfl) zwe
def zBY:=Bun.mk (f:=198) (rs:=[]) (ts:=[]) Tryz.func198 rfl rfl rfl (by kernel_rfl) (by kernel_rfl) zwg
def zAH:=Bun.mk (f:=199) (rs:=[.tmp 2]) (ts:=[142]) Tryz.func199 rfl rfl rfl (by kernel_rfl) (by kernel_rfl) zwh
def zBZ:=Bun.mk (f:=200) (rs:=[.tmp 4]) (ts:=[4]) Tryz.func200 rfl rfl rfl (by kernel_rfl) (by kernel_rfl) zwi
def zB0:=Bun.mk (f:=202) (rs:=[]) (ts:=[]) Tryz.func202 rfl rfl rfl (by kernel_rfl) (by kernel_rfl) zwj
def zB1:=Bun.mk (f:=203) (rs:=[.tmp 2]) (ts:=[47]) Tryz.func203 rfl rfl rfl (by kernel_rfl) (by kernel_rfl) zwk
def zB2:=Bun.mk (f:=204) (rs:=[.tmp 2]) (ts:=[90]) Tryz.func204 rfl rfl rfl (by kernel_rfl) (by kernel_rfl) zwl
def zB3:=Bun.mk (f:=205) (rs:=[.tmp 6]) (ts:=[3]) Tryz.func205 rfl rfl rfl (by kernel_rfl) (by kernel_rfl) zwm
def zB4:=Bun.mk (f:=206) (rs:=[.tmp 10]) (ts:=[3]) Tryz.func206 rfl rfl rfl (by kernel_rfl) (by kernel_rfl) zwn
def zB5:=Bun.mk (f:=215) (rs:=[]) (ts:=[]) Tryz.func215 rfl rfl rfl (by kernel_rfl) (by kernel_rfl) zwo
def zAI:=Bun.mk (f:=216) (rs:=[.tmp 8,.tmp 9]) (ts:=[3,3]) Tryz.func216 rfl rfl rfl (by kernel_rfl) (by kernel_rfl) zwp
def zB6:=Bun.mk (f:=220) (rs:=[]) (ts:=[]) Tryz.func220 rfl rfl rfl (by kernel_rfl) (by kernel_rfl) zwq
def zB7:=Bun.mk (f:=221) (rs:=[]) (ts:=[]) Tryz.func221 rfl rfl rfl (by kernel_rfl) (by kernel_rfl) zwr
def zB8:=Bun.mk (f:=222) (rs:=[]) (ts:=[]) Tryz.func222 rfl rfl rfl (by kernel_rfl) (by kernel_rfl) zws
def zwL:=Bun.mk (f:=223) (rs:=[.tmp 6,.tmp 7]) (ts:=[3,229]) Tryz.func223 rfl rfl rfl (by kernel_rfl) (by kernel_rfl) zwt
def zB9:=Bun.mk (f:=224) (rs:=[]) (ts:=[]) Tryz.func224 rfl rfl rfl (by kernel_rfl) (by kernel_rfl) zwu
def zCa:=Bun.mk (f:=225) (rs:=[.tmp 6]) (ts:=[4]) Tryz.func225 rfl rfl rfl (by kernel_rfl) (by kernel_rfl) zwv
def zCb:=Bun.mk (f:=226) (rs:=[.tmp 8]) (ts:=[3]) Tryz.func226 rfl rfl rfl (by kernel_rfl) (by kernel_rfl) zww
def zCc:=Bun.mk (f:=227) (rs:=[.tmp 8,.tmp 9]) (ts:=[3,4]) Tryz.func227 rfl rfl rfl (by kernel_rfl) (by kernel_rfl) zwx
def zCd:=Bun.mk (f:=228) (rs:=[]) (ts:=[]) Tryz.func228 rfl rfl rfl (by kernel_rfl) (by kernel_rfl) zwy
def zCe:=Bun.mk (f:=229) (rs:=[.tmp 6]) (ts:=[3]) Tryz.func229 rfl rfl rfl (by kernel_rfl) (by kernel_rfl) zwz
def zCf:=Bun.mk (f:=230) (rs:=[.tmp 10]) (ts:=[3]) Tryz.func230 rfl rfl rfl (by kernel_rfl) (by kernel_rfl) zwA
def zAJ:=Bun.mk (f:=231) (rs:=[.tmp 8,.tmp 9]) (ts:=[3,3]) Tryz.func231 rfl rfl rfl (by kernel_rfl) (by kernel_rfl) zwB
attribute [simp] zam nI wI
end Go.Am.Ab
