/- Facts on the types of the program, what loops keep, numbers. -/
import Derived.Test.YtibdiacpdmhmnaaGreatDoorProg
import Derived.KernelRfl
import Derived.Test.YtibdiacpdmhmnaaGreatDoorMachD
set_option linter.all false
namespace Go.Am.Ab
open Go.Proofs
attribute [simp] Tryz.underlying0 Tryz.underlying2 Tryz.underlying3 Tryz.underlying4 Tryz.underlying5 Tryz.underlying9 Tryz.underlying20 Tryz.underlying21 Tryz.underlying22 Tryz.underlying23 Tryz.underlying24 Tryz.underlying25 Tryz.underlying26 Tryz.underlying30 Tryz.underlying31 Tryz.underlying32 Tryz.underlying34 Tryz.underlying36 Tryz.underlying39 Tryz.underlying40 Tryz.underlying41 Tryz.underlying42 Tryz.underlying43 Tryz.underlying44 Tryz.underlying47 Tryz.underlying49 Tryz.underlying50 Tryz.underlying52 Tryz.underlying54 Tryz.underlying58 Tryz.underlying62 Tryz.underlying70 Tryz.underlying71 Tryz.underlying72 Tryz.underlying73 Tryz.underlying76 Tryz.underlying77 Tryz.underlying78 Tryz.underlying90 Tryz.underlying91 Tryz.underlying92 Tryz.underlying100 Tryz.underlying107 Tryz.underlying109 Tryz.underlying110 Tryz.underlying111 Tryz.underlying113 Tryz.underlying115 Tryz.underlying117 Tryz.underlying129 Tryz.underlying130 Tryz.underlying133 Tryz.underlying137 Tryz.underlying140 Tryz.underlying141 Tryz.underlying142 Tryz.underlying143 Tryz.underlying144 Tryz.underlying145 Tryz.underlying152 Tryz.underlying156 Tryz.underlying160 Tryz.underlying162 Tryz.underlying163 Tryz.underlying164 Tryz.underlying167 Tryz.underlying170 Tryz.underlying171 Tryz.underlying173 Tryz.underlying180 Tryz.underlying187 Tryz.underlying188 Tryz.underlying198 Tryz.underlying199 Tryz.underlying202 Tryz.underlying203 Tryz.underlying204 Tryz.underlying206 Tryz.underlying209 Tryz.underlying212 Tryz.underlying217 Tryz.underlying220 Tryz.underlying223 Tryz.underlying229 Tryz.underlying230 Tryz.underlying236 Tryz.underlying238 Tryz.underlying240 Tryz.underlying244 Tryz.underlying249 Tryz.underlying251 Tryz.underlying253 Tryz.underlying254 Tryz.underlying255 Tryz.underlying259 Tryz.underlying262 Tryz.underlying263
@[simp] def sz2:sizeOf? Tryz.prog 2=some 1:=by kernel_rfl
@[simp] def zs3:zeroVs? Tryz.prog 3=some [.d (.int .i64 0)]:=by kernel_rfl
@[simp] def al3 (h:List Am.Obj):zcK Tryz.prog h 3=some (.ptr h.length 0,h++[.box [.d (.int .i64 0)]]):=zbz zs3
@[simp] def zI3 (parts:List (Nat × V)):zbf Tryz.prog 24 parts=(zcr (λi=>[(0,1),(1,1)][i]?) [.d (.int .u32 0),.nilS] parts).map zcq:=zap (by kernel_rfl) (by kernel_rfl)
@[simp] def zHK:zeroVs? Tryz.prog 25=some [.d (.int .u32 0),.nilS]:=by kernel_rfl
@[simp] def zI4 (h:List Am.Obj):zcK Tryz.prog h 25=some (.ptr h.length 0,h++[.box [.d (.int .u32 0),.nilS]]):=zbz zHK
@[simp] def zI5 (parts:List (Nat × V)):zbf Tryz.prog 25 parts=(zcr (λi=>[(0,1),(1,1)][i]?) [.d (.int .u32 0),.nilS] parts).map zcq:=zap (by kernel_rfl) (by kernel_rfl)
@[simp] def sz0:sizeOf? Tryz.prog 0=some 1/\agg? Tryz.prog 0=some false/\agg? Tryz.prog 2=some false/\zeroVs? Tryz.prog 2=some [.d (.int .i64 0)]/\(zero? Tryz.prog 2).isSome=true/\appElem? Tryz.prog 2=some 1/\makeElem? Tryz.prog 2=some (1,.int .i64 0)/\zeroD? Tryz.prog 2=some (.int .i64 0)/\sizeOf? Tryz.prog 3=some 1/\agg? Tryz.prog 3=some false/\(zero? Tryz.prog 3).isSome=true/\appElem? Tryz.prog 3=some 1/\zeroD? Tryz.prog 3=some (.int .i64 0)/\sizeOf? Tryz.prog 4=some 1/\agg? Tryz.prog 4=some false/\zeroVs? Tryz.prog 4=some [.d (.bool false)]/\(zero? Tryz.prog 4).isSome=true/\appElem? Tryz.prog 4=some 1/\makeElem? Tryz.prog 4=some (1,.bool false)/\zeroD? Tryz.prog 4=some (.bool false)/\sizeOf? Tryz.prog 5=some 1/\agg? Tryz.prog 5=some false/\zeroVs? Tryz.prog 5=some [.d (.int .u8 0)]/\(zero? Tryz.prog 5).isSome=true/\appElem? Tryz.prog 5=some 1/\makeElem? Tryz.prog 5=some (1,.int .u8 0)/\zeroD? Tryz.prog 5=some (.int .u8 0)/\sizeOf? Tryz.prog 9=some 1/\agg? Tryz.prog 9=some false/\zeroVs? Tryz.prog 9=some [.d (.str ⟨#[]⟩)]/\(zero? Tryz.prog 9).isSome=true/\appElem? Tryz.prog 9=some 1/\zeroD? Tryz.prog 9=some (.str ⟨#[]⟩)/\sizeOf? Tryz.prog 20=some 1/\agg? Tryz.prog 20=some false/\sizeOf? Tryz.prog 21=some 1/\agg? Tryz.prog 21=some false/\zeroVs? Tryz.prog 21=some [.d (.int .i32 0)]/\appElem? Tryz.prog 21=some 1/\zeroD? Tryz.prog 21=some (.int .i32 0)/\sizeOf? Tryz.prog 22=some 1/\agg? Tryz.prog 22=some false/\sizeOf? Tryz.prog 23=some 1/\agg? Tryz.prog 23=some false/\za2 Tryz.prog 23=4/\sizeOf? Tryz.prog 24=some 2/\agg? Tryz.prog 24=some true/\fieldOff? Tryz.prog 24 0=some (0,22)/\fieldOff? Tryz.prog 24 1=some (1,23)/\sizeOf? Tryz.prog 25=some 2/\agg? Tryz.prog 25=some true/\fieldOff? Tryz.prog 25 0=some (0,22)/\fieldOff? Tryz.prog 25 1=some (1,23)/\sizeOf? Tryz.prog 26=some 1/\agg? Tryz.prog 26=some false/\zeroVs? Tryz.prog 26=some [.nilS]/\appElem? Tryz.prog 26=some 1/\zeroD? Tryz.prog 26=some (.list [])/\za2 Tryz.prog 26=1/\sizeOf? Tryz.prog 30=some 1:=by and_intros<;>kernel_rfl
@[simp] def zHL:zeroVs? Tryz.prog 30=some [.nilS]:=by kernel_rfl
@[simp] def zI6 (h:List Am.Obj):zcK Tryz.prog h 30=some (.ptr h.length 0,h++[.box [.nilS]]):=zbz zHL
@[simp] def zHM:zeroVs? Tryz.prog 31=some [.d (.int .i64 0)]:=by kernel_rfl
@[simp] def zI7 (h:List Am.Obj):zcK Tryz.prog h 31=some (.ptr h.length 0,h++[.box [.d (.int .i64 0)]]):=zbz zHM
@[simp] def zHN:zeroVs? Tryz.prog 34=some [.nilS]:=by kernel_rfl
@[simp] def zI8 (h:List Am.Obj):zcK Tryz.prog h 34=some (.ptr h.length 0,h++[.box [.nilS]]):=zbz zHN
@[simp] def zI9 (parts:List (Nat × V)):zbf Tryz.prog 40 parts=(zcr (λi=>[(0,1),(1,1),(2,1)][i]?) [.d (.int .u8 0),.d (.int .i64 0),.d (.str ⟨#[]⟩)] parts).map zcq:=zap (by kernel_rfl) (by kernel_rfl)
@[simp] def zHO:zeroVs? Tryz.prog 41=some [.d (.int .u8 0),.d (.int .i64 0),.d (.str ⟨#[]⟩)]:=by kernel_rfl
@[simp] def zJa (h:List Am.Obj):zcK Tryz.prog h 41=some (.ptr h.length 0,h++[.box [.d (.int .u8 0),.d (.int .i64 0),.d (.str ⟨#[]⟩)]]):=zbz zHO
@[simp] def zJb (parts:List (Nat × V)):zbf Tryz.prog 41 parts=(zcr (λi=>[(0,1),(1,1),(2,1)][i]?) [.d (.int .u8 0),.d (.int .i64 0),.d (.str ⟨#[]⟩)] parts).map zcq:=zap (by kernel_rfl) (by kernel_rfl)
@[simp] def zJc (parts:List (Nat × V)):zbf Tryz.prog 43 parts=(zcr (λi=>[(0,1),(1,1),(2,3),(5,1)][i]?) [.d (.int .u8 0),.d (.int .u32 0),.d (.int .u8 0),.d (.int .i64 0),.d (.str ⟨#[]⟩),.nilS] parts).map zcq:=zap (by kernel_rfl) (by kernel_rfl)
@[simp] def zJd (parts:List (Nat × V)):zbf Tryz.prog 44 parts=(zcr (λi=>[(0,1),(1,1),(2,3),(5,1)][i]?) [.d (.int .u8 0),.d (.int .u32 0),.d (.int .u8 0),.d (.int .i64 0),.d (.str ⟨#[]⟩),.nilS] parts).map zcq:=zap (by kernel_rfl) (by kernel_rfl)
@[simp] def zHP:zeroVs? Tryz.prog 49=some [.d .nilP]:=by kernel_rfl
@[simp] def zJe (h:List Am.Obj):zcK Tryz.prog h 49=some (.ptr h.length 0,h++[.box [.d .nilP]]):=zbz zHP
@[simp] def zJf:agg? Tryz.prog 30=some false/\za2 Tryz.prog 30=1/\sizeOf? Tryz.prog 31=some 1/\agg? Tryz.prog 31=some false/\sizeOf? Tryz.prog 32=some 1/\agg? Tryz.prog 32=some false/\sizeOf? Tryz.prog 34=some 1/\agg? Tryz.prog 34=some false/\za2 Tryz.prog 34=1/\sizeOf? Tryz.prog 36=some 1/\agg? Tryz.prog 36=some false/\sizeOf? Tryz.prog 39=some 1/\agg? Tryz.prog 39=some false/\sizeOf? Tryz.prog 40=some 3/\agg? Tryz.prog 40=some true/\fieldOff? Tryz.prog 40 0=some (0,39)/\fieldOff? Tryz.prog 40 1=some (1,2)/\fieldOff? Tryz.prog 40 2=some (2,9)/\zcg Tryz.prog 40=some [(0,0),(1,0),(2,2)]/\sizeOf? Tryz.prog 41=some 3/\agg? Tryz.prog 41=some true/\(zero? Tryz.prog 41).isSome=true/\appElem? Tryz.prog 41=some 3/\fieldOff? Tryz.prog 41 0=some (0,39)/\fieldOff? Tryz.prog 41 1=some (1,2)/\fieldOff? Tryz.prog 41 2=some (2,9)/\zcg Tryz.prog 41=some [(0,0),(1,0),(2,2)]/\zeroD? Tryz.prog 41=some (.agg [.int .u8 0,.int .i64 0,.str ⟨#[]⟩])/\sizeOf? Tryz.prog 42=some 1/\agg? Tryz.prog 42=some false/\za2 Tryz.prog 42=6/\sizeOf? Tryz.prog 43=some 6/\agg? Tryz.prog 43=some true/\fieldOff? Tryz.prog 43 0=some (0,5)/\fieldOff? Tryz.prog 43 1=some (1,22)/\fieldOff? Tryz.prog 43 2=some (2,41)/\fieldOff? Tryz.prog 43 3=some (5,42)/\sizeOf? Tryz.prog 44=some 6/\agg? Tryz.prog 44=some true/\zeroVs? Tryz.prog 44=some [.d (.int .u8 0),.d (.int .u32 0),.d (.int .u8 0),.d (.int .i64 0),.d (.str ⟨#[]⟩),.nilS]/\appElem? Tryz.prog 44=some 6/\fieldOff? Tryz.prog 44 0=some (0,5)/\fieldOff? Tryz.prog 44 1=some (1,22)/\fieldOff? Tryz.prog 44 2=some (2,41)/\fieldOff? Tryz.prog 44 3=some (5,42)/\zeroD? Tryz.prog 44=some (.agg [.int .u8 0,.int .u32 0,.int .u8 0,.int .i64 0,.str ⟨#[]⟩,.list []])/\sizeOf? Tryz.prog 47=some 1/\agg? Tryz.prog 47=some false/\sizeOf? Tryz.prog 49=some 1/\agg? Tryz.prog 49=some false/\sizeOf? Tryz.prog 50=some 1/\agg? Tryz.prog 50=some false/\sizeOf? Tryz.prog 52=some 1/\agg? Tryz.prog 52=some false/\sizeOf? Tryz.prog 54=some 1/\agg? Tryz.prog 54=some false/\sizeOf? Tryz.prog 58=some 1/\agg? Tryz.prog 58=some false/\zeroVs? Tryz.prog 58=some [.nilS]/\(zero? Tryz.prog 58).isSome=true:=by and_intros<;>kernel_rfl
@[simp] def zJg (parts:List (Nat × V)):zbf Tryz.prog 72 parts=(zcr (λi=>[(0,1),(1,1),(2,1),(3,1)][i]?) [.d (.int .u32 0),.d (.str ⟨#[]⟩),.d (.int .u8 0),.d (.bool false)] parts).map zcq:=zap (by kernel_rfl) (by kernel_rfl)
@[simp] def zHQ:zeroVs? Tryz.prog 73=some [.d (.int .u32 0),.d (.str ⟨#[]⟩),.d (.int .u8 0),.d (.bool false)]:=by kernel_rfl
@[simp] def zJh (h:List Am.Obj):zcK Tryz.prog h 73=some (.ptr h.length 0,h++[.box [.d (.int .u32 0),.d (.str ⟨#[]⟩),.d (.int .u8 0),.d (.bool false)]]):=zbz zHQ
@[simp] def zJi (parts:List (Nat × V)):zbf Tryz.prog 73 parts=(zcr (λi=>[(0,1),(1,1),(2,1),(3,1)][i]?) [.d (.int .u32 0),.d (.str ⟨#[]⟩),.d (.int .u8 0),.d (.bool false)] parts).map zcq:=zap (by kernel_rfl) (by kernel_rfl)
@[simp] def zJj (parts:List (Nat × V)):zbf Tryz.prog 76 parts=(zcr (λi=>[(0,1),(1,1),(2,1),(3,1),(4,3),(7,3)][i]?) [.d (.int .i64 0),.d (.int .i64 0),.d (.bool false),.d (.bool false),.d (.int .u8 0),.d (.int .i64 0),.d (.str ⟨#[]⟩),.d (.int .u8 0),.d (.int .i64 0),.d (.str ⟨#[]⟩)] parts).map zcq:=zap (by kernel_rfl) (by kernel_rfl)
@[simp] def zHR:zeroVs? Tryz.prog 77=some [.d (.int .i64 0),.d (.int .i64 0),.d (.bool false),.d (.bool false),.d (.int .u8 0),.d (.int .i64 0),.d (.str ⟨#[]⟩),.d (.int .u8 0),.d (.int .i64 0),.d (.str ⟨#[]⟩)]:=by kernel_rfl
@[simp] def zJk (h:List Am.Obj):zcK Tryz.prog h 77=some (.ptr h.length 0,h++[.box [.d (.int .i64 0),.d (.int .i64 0),.d (.bool false),.d (.bool false),.d (.int .u8 0),.d (.int .i64 0),.d (.str ⟨#[]⟩),.d (.int .u8 0),.d (.int .i64 0),.d (.str ⟨#[]⟩)]]):=zbz zHR
@[simp] def zJl (parts:List (Nat × V)):zbf Tryz.prog 77 parts=(zcr (λi=>[(0,1),(1,1),(2,1),(3,1),(4,3),(7,3)][i]?) [.d (.int .i64 0),.d (.int .i64 0),.d (.bool false),.d (.bool false),.d (.int .u8 0),.d (.int .i64 0),.d (.str ⟨#[]⟩),.d (.int .u8 0),.d (.int .i64 0),.d (.str ⟨#[]⟩)] parts).map zcq:=zap (by kernel_rfl) (by kernel_rfl)
@[simp] def zJm:appElem? Tryz.prog 58=some 1/\zeroD? Tryz.prog 58=some (.list [])/\za2 Tryz.prog 58=3/\sizeOf? Tryz.prog 62=some 1/\agg? Tryz.prog 62=some false/\sizeOf? Tryz.prog 70=some 1/\agg? Tryz.prog 70=some false/\zeroVs? Tryz.prog 70=some [.d .nilI]/\(zero? Tryz.prog 70).isSome=true/\appElem? Tryz.prog 70=some 1/\makeElem? Tryz.prog 70=some (1,.nilI)/\zeroD? Tryz.prog 70=some (.nilI)/\sizeOf? Tryz.prog 71=some 1/\agg? Tryz.prog 71=some false/\zeroVs? Tryz.prog 71=some [.nilS]/\(zero? Tryz.prog 71).isSome=true/\appElem? Tryz.prog 71=some 1/\makeElem? Tryz.prog 71=some (1,.list [])/\zeroD? Tryz.prog 71=some (.list [])/\za2 Tryz.prog 71=1/\sizeOf? Tryz.prog 72=some 4/\agg? Tryz.prog 72=some true/\fieldOff? Tryz.prog 72 0=some (0,22)/\fieldOff? Tryz.prog 72 1=some (1,9)/\fieldOff? Tryz.prog 72 2=some (2,39)/\fieldOff? Tryz.prog 72 3=some (3,4)/\zcg Tryz.prog 72=some [(0,0),(1,2),(2,0),(3,1)]/\sizeOf? Tryz.prog 73=some 4/\agg? Tryz.prog 73=some true/\(zero? Tryz.prog 73).isSome=true/\appElem? Tryz.prog 73=some 4/\fieldOff? Tryz.prog 73 0=some (0,22)/\fieldOff? Tryz.prog 73 1=some (1,9)/\fieldOff? Tryz.prog 73 2=some (2,39)/\fieldOff? Tryz.prog 73 3=some (3,4)/\zcg Tryz.prog 73=some [(0,0),(1,2),(2,0),(3,1)]/\zeroD? Tryz.prog 73=some (.agg [.int .u32 0,.str ⟨#[]⟩,.int .u8 0,.bool false])/\sizeOf? Tryz.prog 76=some 10/\agg? Tryz.prog 76=some true/\fieldOff? Tryz.prog 76 0=some (0,3)/\fieldOff? Tryz.prog 76 1=some (1,3)/\fieldOff? Tryz.prog 76 2=some (2,4)/\fieldOff? Tryz.prog 76 3=some (3,4)/\fieldOff? Tryz.prog 76 4=some (4,41)/\fieldOff? Tryz.prog 76 5=some (7,41)/\zcg Tryz.prog 76=some [(0,0),(1,0),(2,1),(3,1),(4,0),(5,0),(6,2),(7,0),(8,0),(9,2)]/\sizeOf? Tryz.prog 77=some 10/\agg? Tryz.prog 77=some true/\(zero? Tryz.prog 77).isSome=true/\appElem? Tryz.prog 77=some 10/\fieldOff? Tryz.prog 77 0=some (0,3)/\fieldOff? Tryz.prog 77 1=some (1,3)/\fieldOff? Tryz.prog 77 2=some (2,4)/\fieldOff? Tryz.prog 77 3=some (3,4)/\fieldOff? Tryz.prog 77 4=some (4,41)/\fieldOff? Tryz.prog 77 5=some (7,41)/\zcg Tryz.prog 77=some [(0,0),(1,0),(2,1),(3,1),(4,0),(5,0),(6,2),(7,0),(8,0),(9,2)]/\zeroD? Tryz.prog 77=some (.agg [.int .i64 0,.int .i64 0,.bool false,.bool false,.int .u8 0,.int .i64 0,.str ⟨#[]⟩,.int .u8 0,.int .i64 0,.str ⟨#[]⟩])/\sizeOf? Tryz.prog 78=some 1/\agg? Tryz.prog 78=some false:=by and_intros<;>kernel_rfl
@[simp] def zHS (parts:List (Nat × V)):zbf Tryz.prog 110 parts=(zcr (λi=>[(0,2),(2,1),(3,1),(4,1)][i]?) [.d (.int .u32 0),.nilS,.nilS,.d (.int .i64 0),.nilS] parts).map zcq:=zap (by kernel_rfl) (by kernel_rfl)
@[simp] def zHT (parts:List (Nat × V)):zbf Tryz.prog 111 parts=(zcr (λi=>[(0,2),(2,1),(3,1),(4,1)][i]?) [.d (.int .u32 0),.nilS,.nilS,.d (.int .i64 0),.nilS] parts).map zcq:=zap (by kernel_rfl) (by kernel_rfl)
@[simp] def zFx:zeroVs? Tryz.prog 115=some [.d (.bool false),.d (.bool false),.d (.bool false)]:=by kernel_rfl
@[simp] def zHU (h:List Am.Obj):zcK Tryz.prog h 115=some (.ptr h.length 0,h++[.box [.d (.bool false),.d (.bool false),.d (.bool false)]]):=zbz zFx
@[simp] def zHV (parts:List (Nat × V)):zbf Tryz.prog 115 parts=(zcr (λi=>some (i*1,1)) [.d (.bool false),.d (.bool false),.d (.bool false)] parts).map zcq:=zeN (by kernel_rfl) Tryz.underlying115 (by kernel_rfl)
@[simp] def zJn:sizeOf? Tryz.prog 90=some 1/\agg? Tryz.prog 90=some false/\zeroVs? Tryz.prog 90=some [.d (.int .u64 0)]/\(zero? Tryz.prog 90).isSome=true/\appElem? Tryz.prog 90=some 1/\makeElem? Tryz.prog 90=some (1,.int .u64 0)/\zeroD? Tryz.prog 90=some (.int .u64 0)/\sizeOf? Tryz.prog 91=some 1/\agg? Tryz.prog 91=some false/\sizeOf? Tryz.prog 92=some 1/\agg? Tryz.prog 92=some false/\sizeOf? Tryz.prog 100=some 1/\agg? Tryz.prog 100=some false/\za2 Tryz.prog 100=1/\sizeOf? Tryz.prog 107=some 1/\agg? Tryz.prog 107=some false/\sizeOf? Tryz.prog 109=some 1/\agg? Tryz.prog 109=some false/\za2 Tryz.prog 109=1/\sizeOf? Tryz.prog 110=some 5/\agg? Tryz.prog 110=some true/\fieldOff? Tryz.prog 110 0=some (0,25)/\fieldOff? Tryz.prog 110 1=some (2,34)/\fieldOff? Tryz.prog 110 2=some (3,3)/\fieldOff? Tryz.prog 110 3=some (4,109)/\sizeOf? Tryz.prog 111=some 5/\agg? Tryz.prog 111=some true/\zeroVs? Tryz.prog 111=some [.d (.int .u32 0),.nilS,.nilS,.d (.int .i64 0),.nilS]/\fieldOff? Tryz.prog 111 0=some (0,25)/\fieldOff? Tryz.prog 111 1=some (2,34)/\fieldOff? Tryz.prog 111 2=some (3,3)/\fieldOff? Tryz.prog 111 3=some (4,109)/\sizeOf? Tryz.prog 113=some 1/\agg? Tryz.prog 113=some false/\zeroVs? Tryz.prog 113=some [.nilS]/\(zero? Tryz.prog 113).isSome=true/\appElem? Tryz.prog 113=some 1/\zeroD? Tryz.prog 113=some (.list [])/\za2 Tryz.prog 113=10/\sizeOf? Tryz.prog 115=some 3/\agg? Tryz.prog 115=some true/\sizeOf? Tryz.prog 117=some 1/\agg? Tryz.prog 117=some false/\sizeOf? Tryz.prog 129=some 1/\agg? Tryz.prog 129=some false/\za2 Tryz.prog 129=1/\sizeOf? Tryz.prog 130=some 1/\agg? Tryz.prog 130=some false/\sizeOf? Tryz.prog 133=some 1/\agg? Tryz.prog 133=some false/\sizeOf? Tryz.prog 137=some 1/\agg? Tryz.prog 137=some false/\sizeOf? Tryz.prog 140=some 1/\agg? Tryz.prog 140=some false/\sizeOf? Tryz.prog 141=some 1/\agg? Tryz.prog 141=some false/\za2 Tryz.prog 141=1/\sizeOf? Tryz.prog 142=some 1/\agg? Tryz.prog 142=some false/\za2 Tryz.prog 142=1:=by and_intros<;>kernel_rfl
@[simp] def zHW (parts:List (Nat × V)):zbf Tryz.prog 163 parts=(zcr (λi=>[(0,1),(1,1)][i]?) [.nilS,.d (.bool false)] parts).map zcq:=zap (by kernel_rfl) (by kernel_rfl)
@[simp] def zHX (parts:List (Nat × V)):zbf Tryz.prog 164 parts=(zcr (λi=>[(0,1),(1,1)][i]?) [.nilS,.d (.bool false)] parts).map zcq:=zap (by kernel_rfl) (by kernel_rfl)
@[simp] def zHY (parts:List (Nat × V)):zbf Tryz.prog 203 parts=(zcr (λi=>[(0,1),(1,1)][i]?) [.nilS,.d (.int .i64 0)] parts).map zcq:=zap (by kernel_rfl) (by kernel_rfl)
@[simp] def zHZ (parts:List (Nat × V)):zbf Tryz.prog 204 parts=(zcr (λi=>[(0,1),(1,1)][i]?) [.nilS,.d (.int .i64 0)] parts).map zcq:=zap (by kernel_rfl) (by kernel_rfl)
@[simp] def zH0:sizeOf? Tryz.prog 143=some 1/\agg? Tryz.prog 143=some false/\za2 Tryz.prog 143=1/\sizeOf? Tryz.prog 144=some 1/\agg? Tryz.prog 144=some false/\sizeOf? Tryz.prog 145=some 1/\agg? Tryz.prog 145=some false/\sizeOf? Tryz.prog 152=some 1/\agg? Tryz.prog 152=some false/\sizeOf? Tryz.prog 156=some 1/\agg? Tryz.prog 156=some false/\za2 Tryz.prog 156=1/\sizeOf? Tryz.prog 160=some 1/\agg? Tryz.prog 160=some false/\sizeOf? Tryz.prog 162=some 1/\agg? Tryz.prog 162=some false/\sizeOf? Tryz.prog 163=some 2/\agg? Tryz.prog 163=some true/\fieldOff? Tryz.prog 163 0=some (0,30)/\fieldOff? Tryz.prog 163 1=some (1,4)/\sizeOf? Tryz.prog 164=some 2/\agg? Tryz.prog 164=some true/\zeroVs? Tryz.prog 164=some [.nilS,.d (.bool false)]/\fieldOff? Tryz.prog 164 0=some (0,30)/\fieldOff? Tryz.prog 164 1=some (1,4)/\sizeOf? Tryz.prog 167=some 1/\agg? Tryz.prog 167=some false/\sizeOf? Tryz.prog 170=some 1/\agg? Tryz.prog 170=some false/\sizeOf? Tryz.prog 171=some 1/\agg? Tryz.prog 171=some false/\sizeOf? Tryz.prog 173=some 1/\agg? Tryz.prog 173=some false/\sizeOf? Tryz.prog 180=some 1/\agg? Tryz.prog 180=some false/\sizeOf? Tryz.prog 187=some 1/\agg? Tryz.prog 187=some false/\sizeOf? Tryz.prog 188=some 1/\agg? Tryz.prog 188=some false/\sizeOf? Tryz.prog 198=some 1/\agg? Tryz.prog 198=some false/\za2 Tryz.prog 198=1/\sizeOf? Tryz.prog 199=some 1/\agg? Tryz.prog 199=some false/\sizeOf? Tryz.prog 202=some 1/\agg? Tryz.prog 202=some false/\sizeOf? Tryz.prog 203=some 2/\agg? Tryz.prog 203=some true/\fieldOff? Tryz.prog 203 0=some (0,30)/\fieldOff? Tryz.prog 203 1=some (1,31)/\sizeOf? Tryz.prog 204=some 2/\agg? Tryz.prog 204=some true/\zeroVs? Tryz.prog 204=some [.nilS,.d (.int .i64 0)]/\fieldOff? Tryz.prog 204 0=some (0,30)/\fieldOff? Tryz.prog 204 1=some (1,31)/\sizeOf? Tryz.prog 206=some 1/\agg? Tryz.prog 206=some false/\sizeOf? Tryz.prog 209=some 1/\agg? Tryz.prog 209=some false/\sizeOf? Tryz.prog 212=some 5:=by and_intros<;>kernel_rfl
@[simp] def zFy:zeroVs? Tryz.prog 212=some [.d .nilF,.d .nilF,.d .nilF,.d .nilF,.d .nilF]:=by kernel_rfl
@[simp] def zH1 (h:List Am.Obj):zcK Tryz.prog h 212=some (.ptr h.length 0,h++[.box [.d .nilF,.d .nilF,.d .nilF,.d .nilF,.d .nilF]]):=zbz zFy
@[simp] def zH2 (parts:List (Nat × V)):zbf Tryz.prog 212 parts=(zcr (λi=>some (i*1,1)) [.d .nilF,.d .nilF,.d .nilF,.d .nilF,.d .nilF] parts).map zcq:=zeN (by kernel_rfl) Tryz.underlying212 (by kernel_rfl)
@[simp] def zH3 (parts:List (Nat × V)):zbf Tryz.prog 217 parts=(zcr (λi=>some (i*1,1)) [.d (.int .u32 0),.d (.int .u32 0),.d (.int .u32 0),.d (.int .u32 0),.d (.int .u32 0),.d (.int .u32 0),.d (.int .u32 0),.d (.int .u32 0),.d (.int .u32 0),.d (.int .u32 0),.d (.int .u32 0),.d (.int .u32 0),.d (.int .u32 0),.d (.int .u32 0),.d (.int .u32 0),.d (.int .u32 0)] parts).map zcq:=zeN (by kernel_rfl) Tryz.underlying217 (by kernel_rfl)
@[simp] def zFz:zeroVs? Tryz.prog 244=some [.d (.int .u64 0)]:=by kernel_rfl
@[simp] def zH4 (h:List Am.Obj):zcK Tryz.prog h 244=some (.ptr h.length 0,h++[.box [.d (.int .u64 0)]]):=zbz zFz
@[simp] def zH5 (parts:List (Nat × V)):zbf Tryz.prog 254 parts=(zcr (λi=>[(0,1),(1,1)][i]?) [.nilS,.d (.int .i64 0)] parts).map zcq:=zap (by kernel_rfl) (by kernel_rfl)
@[simp] def zH6 (parts:List (Nat × V)):zbf Tryz.prog 255 parts=(zcr (λi=>[(0,1),(1,1)][i]?) [.nilS,.d (.int .i64 0)] parts).map zcq:=zap (by kernel_rfl) (by kernel_rfl)
@[simp] def zH7:agg? Tryz.prog 212=some true/\sizeOf? Tryz.prog 217=some 16/\agg? Tryz.prog 217=some true/\sizeOf? Tryz.prog 220=some 1/\agg? Tryz.prog 220=some false/\sizeOf? Tryz.prog 223=some 1/\agg? Tryz.prog 223=some false/\sizeOf? Tryz.prog 229=some 1/\agg? Tryz.prog 229=some false/\sizeOf? Tryz.prog 230=some 1/\agg? Tryz.prog 230=some false/\sizeOf? Tryz.prog 236=some 1/\agg? Tryz.prog 236=some false/\sizeOf? Tryz.prog 238=some 1/\agg? Tryz.prog 238=some false/\sizeOf? Tryz.prog 240=some 1/\agg? Tryz.prog 240=some false/\sizeOf? Tryz.prog 244=some 1/\agg? Tryz.prog 244=some false/\sizeOf? Tryz.prog 249=some 1/\agg? Tryz.prog 249=some false/\sizeOf? Tryz.prog 251=some 1/\agg? Tryz.prog 251=some false/\sizeOf? Tryz.prog 253=some 1/\agg? Tryz.prog 253=some false/\sizeOf? Tryz.prog 254=some 2/\agg? Tryz.prog 254=some true/\fieldOff? Tryz.prog 254 0=some (0,30)/\fieldOff? Tryz.prog 254 1=some (1,31)/\sizeOf? Tryz.prog 255=some 2/\agg? Tryz.prog 255=some true/\zeroVs? Tryz.prog 255=some [.nilS,.d (.int .i64 0)]/\fieldOff? Tryz.prog 255 0=some (0,30)/\fieldOff? Tryz.prog 255 1=some (1,31)/\sizeOf? Tryz.prog 259=some 1/\agg? Tryz.prog 259=some false/\sizeOf? Tryz.prog 262=some 1/\agg? Tryz.prog 262=some false/\sizeOf? Tryz.prog 263=some 1/\agg? Tryz.prog 263=some false:=by and_intros<;>kernel_rfl
def K:zgm:=λf b=>match f,b with
 |4,0=>some [(4,0),(7,0),(9,0),(14,0),(15,0),(16,0),(17,0),(18,1),(19,0)]
 |5,0=>some [(0,0),(5,0),(9,0),(10,0)]
 |7,0=>some [(2,0),(5,0),(7,0),(9,0),(11,0)]
 |7,2=>some [(2,0),(5,0),(9,0),(12,0),(13,0)]
 |10,0=>some [(1,0),(3,0),(4,0)]
 |11,0=>some [(0,0),(3,1),(4,0)]
 |12,0=>some [(1,0),(2,0),(3,0),(6,0),(7,0),(35,0),(36,0),(37,0)]
 |12,2=>some [(3,0),(6,0),(7,0),(12,0),(13,0)]
 |12,4=>some [(3,0),(6,0),(7,0),(12,0),(13,0),(14,0),(67,0),(68,0),(69,0)]
 |13,0=>some [(0,0),(3,1),(4,0)]
 |14,0=>some [(1,0),(2,0),(3,0),(9,0)]
 |14,2=>some [(3,0),(10,0),(11,0),(12,0),(13,0)]
 |14,4=>some [(3,0),(10,0),(11,0),(12,0),(13,0),(14,0)]
 |14,6=>some [(10,0),(18,0),(19,0)]
 |15,0=>some [(1,0),(3,0)]
 |17,0=>some [(2,0),(3,0),(7,1),(8,0),(9,0)]
 |18,0=>some [(2,0),(3,0),(6,0)]
 |18,2=>some [(2,0),(3,0),(6,0),(9,0),(10,0),(75,0),(76,0)]
 |19,0=>some [(2,0),(3,0),(4,1),(5,0),(6,0),(7,0),(8,0)]
 |19,2=>some [(2,0),(3,0),(4,1),(5,0),(6,0),(7,0),(8,0),(50,0),(51,0),(52,0)]
 |20,0=>some [(4,0),(7,0),(10,1),(11,0),(12,0),(13,0)]
 |20,2=>some [(4,0),(7,0),(10,1),(11,0),(12,0),(13,0),(14,10),(15,0)]
 |20,4=>some [(4,0),(7,0),(10,1),(11,0),(12,0),(13,0),(16,0)]
 |22,1=>some [(2,0),(3,0),(4,0),(7,0),(8,0)]
 |22,3=>some [(2,0),(3,0),(4,0),(9,0),(10,0)]
 |24,0=>some [(3,1),(4,0),(5,0)]
 |26,0=>some [(0,0),(3,1),(4,0)]
 |30,0=>some [(2,0),(3,0),(5,0)]
 |33,0=>some [(0,0),(2,0),(3,0),(4,0),(5,0),(6,0),(7,0)]
 |34,0=>some [(0,0),(1,0),(5,3),(6,0)]
 |36,0=>some [(0,0),(1,0),(5,0)]
 |37,0=>some [(0,0),(3,3),(4,0)]
 |38,0=>some [(0,0),(3,3),(4,0)]
 |39,0=>some [(1,0),(3,0),(22,0),(23,0),(24,0)]
 |40,0=>some [(1,0),(16,0),(17,0),(18,0)]
 |41,0=>some [(3,0),(18,0),(19,0),(20,0)]
 |42,0=>some [(0,0),(3,1)]
 |44,0=>some [(1,0),(5,1),(8,0),(9,0),(10,0)]
 |45,0=>some [(0,0),(1,0),(26,0),(27,0),(28,0)]
 |45,2=>some [(0,0),(8,0),(9,1),(10,1),(11,1),(47,0),(48,0),(49,0)]
 |47,0=>some [(2,0),(3,0),(4,0),(5,0),(6,0),(18,0),(19,0),(20,0)]
 |49,0=>some [(0,0),(3,1),(4,0)]
 |50,0=>some [(1,0),(2,0),(5,0)]
 |56,0=>some [(3,0),(5,0),(6,0)]
 |57,0=>some [(0,0),(1,0),(5,0)]
 |60,0=>some [(0,0),(6,0),(9,0),(10,0),(11,0)]
 |60,2=>some [(0,0),(6,0),(9,0),(10,0),(11,0),(12,0),(13,0),(117,0),(118,0),(119,0)]
 |60,4=>some [(0,0),(6,0),(9,0),(10,0),(11,0),(12,0),(13,0),(117,0),(118,0),(119,0),(154,0),(155,0),(156,0)]
 |61,0=>some [(0,0),(1,0),(12,0),(13,0)]
 |63,1=>some [(2,0),(4,0),(6,0),(7,0),(9,0),(26,0),(27,0),(28,0)]
 |64,1=>some [(2,0),(4,0),(7,0),(20,0),(21,0),(22,0)]
 |64,3=>some [(2,0),(4,0),(10,0),(37,0),(38,0),(39,0)]
 |74,0=>some [(0,0),(1,0),(5,0)]
 |76,0=>some [(3,0),(6,0),(7,0),(8,0)]
 |78,0=>some [(0,0),(5,1),(6,1),(7,0),(8,0)]
 |82,0=>some [(19,0)]
 |87,0=>some [(0,0),(1,0),(2,0),(4,0)]
 |90,0=>some [(3,0),(11,0),(12,0),(13,0)]
 |91,0=>some [(0,0),(4,1),(11,0)]
 |92,0=>some [(0,0),(3,0),(4,0),(5,1),(20,0),(21,0),(22,0)]
 |94,0=>some [(0,0),(6,0)]
 |96,0=>some [(0,0),(1,0),(7,0)]
 |97,0=>some [(6,0)]
 |107,0=>some [(2,0),(5,0),(6,0),(7,0)]
 |109,0=>some [(0,0),(1,0),(4,0)]
 |111,0=>some [(1,0),(2,0),(23,0),(24,0),(25,0)]
 |112,1=>some [(3,0),(44,0),(45,0),(46,0)]
 |115,0=>some [(2,0),(3,0),(4,0),(6,0),(7,0),(10,0)]
 |115,2=>some [(2,0),(3,0),(4,0),(6,0),(7,0),(8,0),(10,0),(13,0)]
 |122,0=>some [(0,0),(6,0),(7,0),(8,0),(9,0)]
 |124,0=>some [(0,0),(1,0),(7,0),(8,0)]
 |125,0=>some [(0,0),(1,0),(7,0),(8,0)]
 |126,0=>some [(1,0),(6,0),(36,0),(37,0),(38,0)]
 |126,2=>some [(1,0),(6,0),(7,0),(8,0),(9,0),(36,0),(37,0),(38,0)]
 |128,0=>some [(0,0),(5,1),(6,1),(9,0),(10,0),(11,0)]
 |132,0=>some [(0,0),(3,0)]
 |132,2=>some [(0,0),(3,0),(4,0),(5,0)]
 |133,0=>some [(0,0),(1,0),(6,0),(7,0),(8,0)]
 |141,0=>some [(3,0),(5,0)]
 |143,0=>some [(0,0),(9,0),(10,0),(11,0)]
 |149,0=>some [(5,0),(8,0),(9,0),(10,0)]
 |152,0=>some [(0,0),(1,0),(2,0),(9,0),(12,0),(56,0),(57,0),(58,0)]
 |152,2=>some [(1000015,0),(17,0),(79,0),(80,0),(81,0)]
 |157,0=>some [(5,0),(6,0),(21,0)]
 |157,2=>some [(5,0),(6,0),(8,0),(9,0),(21,0),(38,0),(39,0),(40,0)]
 |158,0=>some [(3,0),(6,0),(7,0),(8,0)]
 |159,0=>some [(3,1),(6,0),(7,0),(8,0)]
 |160,0=>some [(3,1),(4,0),(7,0),(8,0),(9,0)]
 |161,0=>some [(0,0),(3,1),(4,0)]
 |161,2=>some [(0,0),(3,1),(4,0),(5,0)]
 |162,0=>some [(0,0),(3,0),(4,0),(18,0),(19,0),(20,0)]
 |162,2=>some [(3,0),(4,0),(7,0),(47,0),(48,0),(49,0)]
 |163,0=>some [(3,0),(4,0),(16,0),(17,0),(18,0)]
 |164,0=>some [(0,0),(1,0),(2,0),(3,0),(8,0),(9,0)]
 |177,0=>some [(7,0),(8,0)]
 |178,0=>some [(0,0),(2,0),(9,0),(56,0),(57,0)]
 |178,2=>some [(0,0),(2,0),(9,0),(10,0),(11,0),(56,0),(57,0)]
 |179,1=>some [(8,1),(10,0),(30,0),(31,0),(32,0)]
 |179,3=>some [(8,1),(14,0),(52,0),(53,0),(54,0)]
 |179,5=>some [(8,1),(18,0),(73,0),(74,0),(75,0)]
 |182,0=>some [(0,0),(1,0),(6,0),(7,0),(8,0)]
 |184,0=>some [(0,0),(3,0),(4,0)]
 |185,0=>some [(0,0),(1,0),(2,0),(6,0)]
 |185,2=>some [(0,0),(1,0),(2,0),(6,0),(7,0)]
 |186,0=>some [(0,0),(6,0),(7,0),(8,0),(9,0)]
 |186,2=>some [(0,0),(6,0),(7,0),(10,0)]
 |187,0=>some [(0,0),(1,0),(6,0),(7,0),(8,0),(9,0)]
 |189,0=>some [(0,0),(6,0),(7,0)]
 |190,0=>some [(0,0),(1,0),(2,0),(7,0),(8,0)]
 |190,2=>some [(0,0),(1,0),(2,0),(7,0),(8,0)]
 |190,4=>some [(0,0),(1,0),(2,0),(7,0),(8,0),(9,0)]
 |190,6=>some [(0,0),(1,0),(2,0),(7,0),(8,0),(10,0)]
 |191,0=>some [(0,0),(1,0),(9,0),(10,0)]
 |191,2=>some [(0,0),(1,0),(9,0),(10,0)]
 |191,4=>some [(0,0),(1,0),(9,0),(10,0)]
 |192,0=>some [(0,0),(1,0),(10,0),(11,0)]
 |192,2=>some [(0,0),(1,0),(10,0),(11,0)]
 |192,4=>some [(0,0),(1,0),(10,0),(11,0)]
 |192,6=>some [(0,0),(1,0),(10,0),(11,0)]
 |192,8=>some [(0,0),(1,0),(10,0),(11,0)]
 |195,2=>some [(0,0),(1,0),(6,0),(7,1),(8,0)]
 |196,0=>some [(12,0),(15,1),(85,0),(86,0),(87,0)]
 |199,0=>some [(0,0),(3,0)]
 |199,2=>some [(0,0),(3,0),(4,0),(5,0)]
 |202,0=>some [(0,0),(2,0),(3,0),(8,0)]
 |210,0=>some [(0,0),(1,0),(5,1)]
 |211,0=>some [(0,0),(1,0),(5,0),(6,1)]
 |211,2=>some [(0,0),(5,0),(6,1),(9,1),(104,0),(105,0),(106,0)]
 |212,0=>some [(5,0),(7,1),(36,0),(37,0),(38,0)]
 |214,0=>some [(0,0),(11,1),(45,0),(46,0),(47,0)]
 |215,0=>some [(0,0),(1,0),(2,0),(3,0),(8,0),(9,0)]
 |218,0=>some [(7,0),(8,0)]
 |220,0=>some [(0,0),(1,0),(2,0),(6,0)]
 |220,2=>some [(0,0),(1,0),(2,0),(6,0),(7,0)]
 |221,0=>some [(0,0),(6,0),(7,0),(8,0),(9,0)]
 |221,2=>some [(0,0),(6,0),(7,0),(10,0)]
 |222,0=>some [(0,0),(1,0),(6,0),(7,0),(8,0),(9,0)]
 |224,0=>some [(0,0),(6,0),(7,0)]
 |225,0=>some [(0,0),(1,0),(2,0),(7,0),(8,0)]
 |225,2=>some [(0,0),(1,0),(2,0),(7,0),(8,0)]
 |225,4=>some [(0,0),(1,0),(2,0),(7,0),(8,0),(9,0)]
 |225,6=>some [(0,0),(1,0),(2,0),(7,0),(8,0),(10,0)]
 |226,0=>some [(0,0),(1,0),(9,0),(10,0)]
 |226,2=>some [(0,0),(1,0),(9,0),(10,0)]
 |226,4=>some [(0,0),(1,0),(9,0),(10,0)]
 |227,0=>some [(0,0),(1,0),(10,0),(11,0)]
 |227,2=>some [(0,0),(1,0),(10,0),(11,0)]
 |227,4=>some [(0,0),(1,0),(10,0),(11,0)]
 |227,6=>some [(0,0),(1,0),(10,0),(11,0)]
 |227,8=>some [(0,0),(1,0),(10,0),(11,0)]
 |228,0=>some [(0,0),(2,0),(3,0),(8,0)]
 |_,_=>none
def zpr:List D:=[.int .u32 0,.int .u32 498536548,.int .u32 997073096,.int .u32 651767980,.int .u32 1994146192,.int .u32 1802195444,.int .u32 1303535960,.int .u32 1342533948,.int .u32 3988292384,.int .u32 4027552580,.int .u32 3604390888,.int .u32 3412177804,.int .u32 2607071920,.int .u32 2262029012,.int .u32 2685067896,.int .u32 3183342108]
def G:Nat->Option (List D):=λg=>if g=0 then some zpr else if ([1000046,1000093,1000097,1000128,1000131,1000132,1000164,1000177,1000185,1000186,1000187,1000188]++[1000189,1000190,1000191,1000192,1000198,1000199,1000202,1000205,1000206,1000215,1000216,1000218]++[1000220,1000221,1000222,1000223,1000224,1000225,1000226,1000227,1000228,1000229,1000230,1000231]++[2000065,2000077,2000100,2000130,2000197,2000076,2000131,2000198,4600076,4900131,4800198,3000017]++[3000107,3000110,3000127,3000023,3000027,3000028,3000029,3000031,3000018,4000023,4000027,4000028]++[4000029,4000031,5000087,4500018,4700017,4700107,4700110]).contains g then some [] else none
def zH8:splits G 7=false:=by decide +kernel
def zFA:splits G 10=false:=by decide +kernel
def zFB:splits G 11=false:=by decide +kernel
def zFC:splits G 12=false:=by decide +kernel
def zFD:splits G 13=false:=by decide +kernel
def zFE:splits G 15=false:=by decide +kernel
def zFF:splits G 17=false:=by decide +kernel
def zFG:splits G 18=false:=by decide +kernel
def zFH:splits G 23=false:=by decide +kernel
def zFI:splits G 26=false:=by decide +kernel
def zFJ:splits G 27=false:=by decide +kernel
def zFK:splits G 28=false:=by decide +kernel
def zFL:splits G 30=false:=by decide +kernel
@[simp] def zJo:zab G 2=false/\zac G 2=false/\zab G 3=false/\zac G 3=false/\zab G 4=false/\zac G 4=false/\zab G 5=false/\zac G 5=false/\zab G 6=false/\zac G 6=false/\zab G 7=false/\zac G 7=false/\zab G 8=false/\zac G 8=false/\zab G 9=false/\zac G 9=false/\zab G 10=false/\zac G 10=false/\zab G 11=false/\zac G 11=false/\zab G 12=false/\zac G 12=false/\zab G 13=false/\zac G 13=false/\zab G 14=false/\zac G 14=false/\zab G 15=false/\zac G 15=false/\zab G 16=false/\zac G 16=false/\zab G 17=false/\zac G 17=true/\zab G 18=false/\zac G 18=true/\zab G 19=false/\zac G 19=false/\zab G 20=false/\zac G 20=false/\zab G 21=false/\zac G 21=false/\zab G 22=false/\zac G 22=false/\zab G 23=false/\zac G 23=true/\zab G 24=false/\zac G 24=false/\zab G 25=false/\zac G 25=false/\zab G 26=false/\zac G 26=false/\zab G 27=false/\zac G 27=true/\zab G 28=false/\zac G 28=true/\zab G 29=false/\zac G 29=true/\zab G 30=false/\zac G 30=false/\zab G 31=false/\zac G 31=true:=by and_intros<;>decide +kernel
def zFM:splits G 36=false:=by decide +kernel
def zFN:splits G 37=false:=by decide +kernel
def zFO:splits G 38=false:=by decide +kernel
def zFP:splits G 39=false:=by decide +kernel
def zFQ:splits G 40=false:=by decide +kernel
def zFR:splits G 41=false:=by decide +kernel
def zFS:splits G 42=false:=by decide +kernel
def zFT:splits G 43=false:=by decide +kernel
def zFU:splits G 44=false:=by decide +kernel
def zFV:splits G 45=false:=by decide +kernel
def zFW:splits G 46=false:=by decide +kernel
def zFX:splits G 47=false:=by decide +kernel
def zFY:splits G 48=false:=by decide +kernel
def zFZ:splits G 49=false:=by decide +kernel
def zF0:splits G 50=false:=by decide +kernel
def zF1:splits G 56=false:=by decide +kernel
def zF2:splits G 57=false:=by decide +kernel
def zF3:splits G 59=false:=by decide +kernel
def zF4:splits G 60=false:=by decide +kernel
def zF5:splits G 61=false:=by decide +kernel
def zBY:splits G 65=true/\zbs G 65=0:=by decide +kernel
def zF6:splits G 71=false:=by decide +kernel
def zF7:splits G 74=false:=by decide +kernel
def zw0:zbs G 76=3:=by decide +kernel
def zBZ:splits G 77=true/\zbs G 77=0:=by decide +kernel
def zF8:splits G 78=false:=by decide +kernel
@[simp] def zH9:zab G 32=false/\zac G 32=false/\zab G 33=false/\zac G 33=false/\zab G 34=false/\zac G 34=false/\zab G 35=false/\zac G 35=false/\zab G 36=false/\zac G 36=false/\zab G 37=false/\zac G 37=false/\zab G 38=false/\zac G 38=false/\zab G 39=false/\zac G 39=false/\zab G 40=false/\zac G 40=false/\zab G 41=false/\zac G 41=false/\zab G 42=false/\zac G 42=false/\zab G 43=false/\zac G 43=false/\zab G 44=false/\zac G 44=false/\zab G 45=false/\zac G 45=false/\zab G 46=true/\zac G 46=false/\zab G 47=false/\zac G 47=false/\zab G 48=false/\zac G 48=false/\zab G 49=false/\zac G 49=false/\zab G 50=false/\zac G 50=false/\zab G 56=false/\zac G 56=false/\zab G 57=false/\zac G 57=false/\zab G 59=false/\zac G 59=false/\zab G 60=false/\zac G 60=false/\zab G 61=false/\zac G 61=false/\zab G 65=false/\zac G 65=false/\zab G 71=false/\zac G 71=false/\zab G 74=false/\zac G 74=false/\zab G 76=false/\zac G 76=false/\zab G 77=false/\zac G 77=false/\zab G 78=false/\zac G 78=false:=by and_intros<;>decide +kernel
def zF9:splits G 81=false:=by decide +kernel
def zGa:splits G 82=false:=by decide +kernel
def zGb:splits G 83=false:=by decide +kernel
def zGc:splits G 84=false:=by decide +kernel
def zGd:splits G 85=false:=by decide +kernel
def zGe:splits G 86=false:=by decide +kernel
def zGf:splits G 88=false:=by decide +kernel
def zGg:splits G 89=false:=by decide +kernel
def zGh:splits G 90=false:=by decide +kernel
def zGi:splits G 91=false:=by decide +kernel
def zGj:splits G 92=false:=by decide +kernel
def zGk:splits G 93=false:=by decide +kernel
def zGl:splits G 94=false:=by decide +kernel
def zGm:splits G 95=false:=by decide +kernel
def zGn:splits G 96=false:=by decide +kernel
def zGo:splits G 97=false:=by decide +kernel
def zGp:splits G 98=false:=by decide +kernel
def zGq:splits G 99=false:=by decide +kernel
def zym:splits G 100=true/\zbs G 100=0:=by decide +kernel
def zB0:splits G 101=false:=by decide +kernel
def zB1:splits G 107=false:=by decide +kernel
def zB2:splits G 108=false:=by decide +kernel
def zB3:splits G 109=false:=by decide +kernel
def zB4:splits G 110=false:=by decide +kernel
def zB5:splits G 120=false:=by decide +kernel
def zB6:splits G 122=false:=by decide +kernel
def zB7:splits G 124=false:=by decide +kernel
def zB8:splits G 125=false:=by decide +kernel
def zB9:splits G 126=false:=by decide +kernel
@[simp] def zIa:zab G 81=false/\zac G 81=false/\zab G 82=false/\zac G 82=false/\zab G 83=false/\zac G 83=false/\zab G 84=false/\zac G 84=false/\zab G 85=false/\zac G 85=false/\zab G 86=false/\zac G 86=false/\zab G 87=false/\zac G 87=false/\zab G 88=false/\zac G 88=false/\zab G 89=false/\zac G 89=false/\zab G 90=false/\zac G 90=false/\zab G 91=false/\zac G 91=false/\zab G 92=false/\zac G 92=false/\zab G 93=true/\zac G 93=false/\zab G 94=false/\zac G 94=false/\zab G 95=false/\zac G 95=false/\zab G 96=false/\zac G 96=false/\zab G 97=true/\zac G 97=false/\zab G 98=false/\zac G 98=false/\zab G 99=false/\zac G 99=false/\zab G 100=false/\zac G 100=false/\zab G 101=false/\zac G 101=false/\zab G 107=false/\zac G 107=true/\zab G 108=false/\zac G 108=false/\zab G 109=false/\zac G 109=false/\zab G 110=false/\zac G 110=true/\zab G 120=false/\zac G 120=false/\zab G 122=false/\zac G 122=false/\zab G 124=false/\zac G 124=false/\zab G 125=false/\zac G 125=false/\zab G 126=false/\zac G 126=false:=by and_intros<;>decide +kernel
def zCa:splits G 127=false:=by decide +kernel
def zCb:splits G 128=false:=by decide +kernel
def zCc:splits G 129=false:=by decide +kernel
def zyn:splits G 130=true/\zbs G 130=0:=by decide +kernel
def zyo:zbs G 131=2:=by decide +kernel
def zCd:splits G 132=false:=by decide +kernel
def zCe:splits G 133=false:=by decide +kernel
def zCf:splits G 134=false:=by decide +kernel
def zCg:splits G 135=false:=by decide +kernel
def zCh:splits G 136=false:=by decide +kernel
def zCi:splits G 137=false:=by decide +kernel
def zCj:splits G 138=false:=by decide +kernel
def zCk:splits G 139=false:=by decide +kernel
def zCl:splits G 140=false:=by decide +kernel
def zCm:splits G 141=false:=by decide +kernel
def zCn:splits G 142=false:=by decide +kernel
def zCo:splits G 143=false:=by decide +kernel
def zCp:splits G 148=false:=by decide +kernel
def zCq:splits G 149=false:=by decide +kernel
def zCr:splits G 150=false:=by decide +kernel
def zCs:splits G 151=false:=by decide +kernel
def zCt:splits G 152=false:=by decide +kernel
def zCu:splits G 158=false:=by decide +kernel
def zCv:splits G 159=false:=by decide +kernel
def zCw:splits G 160=false:=by decide +kernel
def zCx:splits G 161=false:=by decide +kernel
def zCy:splits G 162=false:=by decide +kernel
def zCz:splits G 163=false:=by decide +kernel
@[simp] def zHa:zab G 127=false/\zac G 127=true/\zab G 128=true/\zac G 128=false/\zab G 129=false/\zac G 129=false/\zab G 130=false/\zac G 130=false/\zab G 131=true/\zac G 131=false/\zab G 132=true/\zac G 132=false/\zab G 133=false/\zac G 133=false/\zab G 134=false/\zac G 134=false/\zab G 135=false/\zac G 135=false/\zab G 136=false/\zac G 136=false/\zab G 137=false/\zac G 137=false/\zab G 138=false/\zac G 138=false/\zab G 139=false/\zac G 139=false/\zab G 140=false/\zac G 140=false/\zab G 141=false/\zac G 141=false/\zab G 142=false/\zac G 142=false/\zab G 143=false/\zac G 143=false/\zab G 148=false/\zac G 148=false/\zab G 149=false/\zac G 149=false/\zab G 150=false/\zac G 150=false/\zab G 151=false/\zac G 151=false/\zab G 152=false/\zac G 152=false/\zab G 158=false/\zac G 158=false/\zab G 159=false/\zac G 159=false/\zab G 160=false/\zac G 160=false/\zab G 161=false/\zac G 161=false/\zab G 162=false/\zac G 162=false/\zab G 163=false/\zac G 163=false/\zab G 164=true/\zac G 164=false/\zab G 165=false/\zac G 165=false:=by and_intros<;>decide +kernel
def zCA:splits G 166=false:=by decide +kernel
def zCB:splits G 168=false:=by decide +kernel
def zCC:splits G 169=false:=by decide +kernel
def zCD:splits G 170=false:=by decide +kernel
def zCE:splits G 171=false:=by decide +kernel
def zCF:splits G 172=false:=by decide +kernel
def zCG:splits G 176=false:=by decide +kernel
def zCH:splits G 177=false:=by decide +kernel
def zCI:splits G 178=false:=by decide +kernel
def zCJ:splits G 179=false:=by decide +kernel
def zCK:splits G 180=false:=by decide +kernel
def zCL:splits G 181=false:=by decide +kernel
def zCM:splits G 182=false:=by decide +kernel
def zCN:splits G 183=false:=by decide +kernel
def zCO:splits G 184=false:=by decide +kernel
def zCP:splits G 194=false:=by decide +kernel
def zCQ:splits G 195=false:=by decide +kernel
def zCR:splits G 196=false:=by decide +kernel
def zyp:splits G 197=true/\zbs G 197=0:=by decide +kernel
def zyq:zbs G 198=1:=by decide +kernel
def zCS:splits G 199=false:=by decide +kernel
@[simp] def zHb:zab G 166=false/\zac G 166=false/\zab G 168=false/\zac G 168=false/\zab G 169=false/\zac G 169=false/\zab G 170=false/\zac G 170=false/\zab G 171=false/\zac G 171=false/\zab G 172=false/\zac G 172=false/\zab G 176=false/\zac G 176=false/\zab G 177=true/\zac G 177=false/\zab G 178=false/\zac G 178=false/\zab G 179=false/\zac G 179=false/\zab G 180=false/\zac G 180=false/\zab G 181=false/\zac G 181=false/\zab G 182=false/\zac G 182=false/\zab G 183=false/\zac G 183=false/\zab G 184=false/\zac G 184=false/\zab G 185=true/\zac G 185=false/\zab G 186=true/\zac G 186=false/\zab G 187=true/\zac G 187=false/\zab G 188=true/\zac G 188=false/\zab G 189=true/\zac G 189=false/\zab G 190=true/\zac G 190=false/\zab G 191=true/\zac G 191=false/\zab G 192=true/\zac G 192=false/\zab G 193=false/\zac G 193=false/\zab G 194=false/\zac G 194=false/\zab G 195=false/\zac G 195=false/\zab G 196=false/\zac G 196=false/\zab G 197=false/\zac G 197=false/\zab G 198=true/\zac G 198=false/\zab G 199=true/\zac G 199=false:=by and_intros<;>decide +kernel
def zCT:splits G 200=false:=by decide +kernel
def zCU:splits G 208=false:=by decide +kernel
def zCV:splits G 209=false:=by decide +kernel
def zCW:splits G 210=false:=by decide +kernel
def zCX:splits G 211=false:=by decide +kernel
def zCY:splits G 212=false:=by decide +kernel
def zCZ:splits G 213=false:=by decide +kernel
def zC0:splits G 214=false:=by decide +kernel
def zC1:splits G 217=false:=by decide +kernel
def zC2:splits G 218=false:=by decide +kernel
def zC3:splits G 219=false:=by decide +kernel
@[simp] def zHc:zab G 200=false/\zac G 200=false/\zab G 202=true/\zac G 202=false/\zab G 203=false/\zac G 203=false/\zab G 204=false/\zac G 204=false/\zab G 205=true/\zac G 205=false/\zab G 206=true/\zac G 206=false/\zab G 208=false/\zac G 208=false/\zab G 209=false/\zac G 209=false/\zab G 210=false/\zac G 210=false/\zab G 211=false/\zac G 211=false/\zab G 212=false/\zac G 212=false/\zab G 213=false/\zac G 213=false/\zab G 214=false/\zac G 214=false/\zab G 215=true/\zac G 215=false/\zab G 216=true/\zac G 216=false/\zab G 217=false/\zac G 217=false/\zab G 218=true/\zac G 218=false/\zab G 219=false/\zac G 219=false/\zab G 220=true/\zac G 220=false/\zab G 221=true/\zac G 221=false/\zab G 222=true/\zac G 222=false/\zab G 223=true/\zac G 223=false/\zab G 224=true/\zac G 224=false/\zab G 225=true/\zac G 225=false/\zab G 226=true/\zac G 226=false/\zab G 227=true/\zac G 227=false/\zab G 228=true/\zac G 228=false/\zab G 229=true/\zac G 229=false/\zab G 230=true/\zac G 230=false/\zab G 231=true/\zac G 231=false:=by and_intros<;>decide +kernel
def zEt {g:Nat} (h:(G g).isSome=true) (h0:g≠0):g∈([1000046,1000093,1000097,1000128,1000131,1000132,1000164,1000177,1000185,1000186,1000187,1000188]++[1000189,1000190,1000191,1000192,1000198,1000199,1000202,1000205,1000206,1000215,1000216,1000218]++[1000220,1000221,1000222,1000223,1000224,1000225,1000226,1000227,1000228,1000229,1000230,1000231]++[2000065,2000077,2000100,2000130,2000197,2000076,2000131,2000198,4600076,4900131,4800198,3000017]++[3000107,3000110,3000127,3000023,3000027,3000028,3000029,3000031,3000018,4000023,4000027,4000028]++[4000029,4000031,5000087,4500018,4700017,4700107,4700110]:List Nat):=by
 unfold G at h;rw[yaf h0]at h;split at h
 ·rename_i h2
  simpa only[List.contains_eq_mem,yaA]using h2
 ·simp at h
def zsa {g:Nat} (h:zdo G g=true):g=87:=by
 have:=zEt h (by omega)
 simp only[ycr,ybA,ycI,or_false]at this;omega
def znK {g:Nat} (h:zbs G g≠0):g=76\/g=131\/g=198:=by
 unfold zbs at h;split at h
 ·rename_i h1
  split at h
  ·rename_i h3
   have e:=zEt h3 (by omega)
   simp only[ycr,ybA,ycI,or_false]at e;have e2:g=100131\/g=198\/g=200087:=by omega
   rcases e2 with rfl | rfl | rfl <;> first | decide | exact absurd h1 (by decide +kernel)
  ·split at h
   ·rename_i h3
    have e:=zEt h3 (by omega)
    simp only[ycr,ybA,ycI,or_false]at e;have e2:g=131\/g=100087:=by omega
    rcases e2 with rfl | rfl <;> first | decide | exact absurd h1 (by decide +kernel)
   ·split at h
    ·rename_i h3
     have e:=zEt h3 (by omega)
     simp only[ycr,ybA,ycI,or_false]at e;have e2:g=76\/g=300131\/g=200198\/g=400087\/g=100017\/g=100107\/g=100110:=by omega
     rcases e2 with rfl | rfl | rfl | rfl | rfl | rfl | rfl <;> first | decide | exact absurd h1 (by decide +kernel)
    ·omega
 ·omega
@[simp] def zIb:zhs G 17=false/\zhs G 107=false/\zhs G 110=false/\zhs G 127=false/\zhs G 23=true/\zhs G 27=true/\zhs G 28=true/\zhs G 29=true/\zhs G 31=true/\zhs G 18=false/\zrD G 17=false/\zm1 G 17=true/\zrD G 107=false/\zm1 G 107=true/\zrD G 110=false/\zm1 G 110=true/\zrD G 127=false/\zm1 G 127=false/\zrD G 18=true/\zdo G 87=true/\zdy G=false:=by and_intros<;>decide +kernel
def Hn:zgl:=λf r=>match f,r with
 |3,6=>[0]
 |4,7=>[0]
 |6,7=>[0]
 |7,22=>[7]
 |8,7=>[0]
 |8,11=>[2,9,16]
 |8,16=>[2]
 |12,17=>[0]
 |12,28=>[0,1008]
 |18,20=>[0,1,4]
 |19,7=>[0,1,4,5,8,9,10,11,12]
 |19,15=>[0]
 |25,1=>[12]
 |28,1=>[4]
 |40,9=>[6]
 |41,1=>[5,6]
 |63,12=>[0]
 |63,17=>[1,2,3,4,6]
 |93,6=>[8]
 |107,11=>[11,13,2015,3008]
 |107,18=>[4,2005,3002]
 |107,19=>[0]
 |152,31=>[6]
 |209,4=>[8]
 |217,4=>[8]
 |_,_=>[]
@[simp] def G_0:G 0=some zpr/\K 4 0=some [(4,0),(7,0),(9,0),(14,0),(15,0),(16,0),(17,0),(18,1),(19,0)]/\K 5 0=some [(0,0),(5,0),(9,0),(10,0)]/\K 7 0=some [(2,0),(5,0),(7,0),(9,0),(11,0)]/\K 7 2=some [(2,0),(5,0),(9,0),(12,0),(13,0)]/\K 10 0=some [(1,0),(3,0),(4,0)]/\K 11 0=some [(0,0),(3,1),(4,0)]/\K 12 0=some [(1,0),(2,0),(3,0),(6,0),(7,0),(35,0),(36,0),(37,0)]/\K 12 2=some [(3,0),(6,0),(7,0),(12,0),(13,0)]/\K 12 4=some [(3,0),(6,0),(7,0),(12,0),(13,0),(14,0),(67,0),(68,0),(69,0)]/\K 13 0=some [(0,0),(3,1),(4,0)]/\K 14 0=some [(1,0),(2,0),(3,0),(9,0)]/\K 14 2=some [(3,0),(10,0),(11,0),(12,0),(13,0)]/\K 14 4=some [(3,0),(10,0),(11,0),(12,0),(13,0),(14,0)]/\K 14 6=some [(10,0),(18,0),(19,0)]/\K 15 0=some [(1,0),(3,0)]/\K 17 0=some [(2,0),(3,0),(7,1),(8,0),(9,0)]/\K 18 0=some [(2,0),(3,0),(6,0)]/\K 18 2=some [(2,0),(3,0),(6,0),(9,0),(10,0),(75,0),(76,0)]/\K 19 0=some [(2,0),(3,0),(4,1),(5,0),(6,0),(7,0),(8,0)]/\K 19 2=some [(2,0),(3,0),(4,1),(5,0),(6,0),(7,0),(8,0),(50,0),(51,0),(52,0)]/\K 20 0=some [(4,0),(7,0),(10,1),(11,0),(12,0),(13,0)]/\K 20 2=some [(4,0),(7,0),(10,1),(11,0),(12,0),(13,0),(14,10),(15,0)]/\K 20 4=some [(4,0),(7,0),(10,1),(11,0),(12,0),(13,0),(16,0)]/\K 22 1=some [(2,0),(3,0),(4,0),(7,0),(8,0)]/\K 22 3=some [(2,0),(3,0),(4,0),(9,0),(10,0)]/\K 24 0=some [(3,1),(4,0),(5,0)]/\K 26 0=some [(0,0),(3,1),(4,0)]/\K 30 0=some [(2,0),(3,0),(5,0)]/\K 33 0=some [(0,0),(2,0),(3,0),(4,0),(5,0),(6,0),(7,0)]/\K 34 0=some [(0,0),(1,0),(5,3),(6,0)]/\K 36 0=some [(0,0),(1,0),(5,0)]/\K 37 0=some [(0,0),(3,3),(4,0)]/\K 38 0=some [(0,0),(3,3),(4,0)]/\K 39 0=some [(1,0),(3,0),(22,0),(23,0),(24,0)]/\K 40 0=some [(1,0),(16,0),(17,0),(18,0)]/\K 41 0=some [(3,0),(18,0),(19,0),(20,0)]/\K 42 0=some [(0,0),(3,1)]/\K 44 0=some [(1,0),(5,1),(8,0),(9,0),(10,0)]/\K 45 0=some [(0,0),(1,0),(26,0),(27,0),(28,0)]/\K 45 2=some [(0,0),(8,0),(9,1),(10,1),(11,1),(47,0),(48,0),(49,0)]/\K 47 0=some [(2,0),(3,0),(4,0),(5,0),(6,0),(18,0),(19,0),(20,0)]/\K 49 0=some [(0,0),(3,1),(4,0)]/\K 50 0=some [(1,0),(2,0),(5,0)]/\K 56 0=some [(3,0),(5,0),(6,0)]/\K 57 0=some [(0,0),(1,0),(5,0)]/\K 60 0=some [(0,0),(6,0),(9,0),(10,0),(11,0)]/\K 60 2=some [(0,0),(6,0),(9,0),(10,0),(11,0),(12,0),(13,0),(117,0),(118,0),(119,0)]/\K 60 4=some [(0,0),(6,0),(9,0),(10,0),(11,0),(12,0),(13,0),(117,0),(118,0),(119,0),(154,0),(155,0),(156,0)]/\K 61 0=some [(0,0),(1,0),(12,0),(13,0)]/\K 74 0=some [(0,0),(1,0),(5,0)]/\K 76 0=some [(3,0),(6,0),(7,0),(8,0)]/\K 78 0=some [(0,0),(5,1),(6,1),(7,0),(8,0)]/\K 82 0=some [(19,0)]/\K 87 0=some [(0,0),(1,0),(2,0),(4,0)]/\K 90 0=some [(3,0),(11,0),(12,0),(13,0)]/\K 91 0=some [(0,0),(4,1),(11,0)]/\K 92 0=some [(0,0),(3,0),(4,0),(5,1),(20,0),(21,0),(22,0)]/\K 94 0=some [(0,0),(6,0)]/\K 96 0=some [(0,0),(1,0),(7,0)]:=by and_intros<;>rfl
@[simp] def zHd:K 97 0=some [(6,0)]/\K 107 0=some [(2,0),(5,0),(6,0),(7,0)]/\K 109 0=some [(0,0),(1,0),(4,0)]/\K 122 0=some [(0,0),(6,0),(7,0),(8,0),(9,0)]/\K 124 0=some [(0,0),(1,0),(7,0),(8,0)]/\K 125 0=some [(0,0),(1,0),(7,0),(8,0)]/\K 126 0=some [(1,0),(6,0),(36,0),(37,0),(38,0)]/\K 126 2=some [(1,0),(6,0),(7,0),(8,0),(9,0),(36,0),(37,0),(38,0)]/\K 128 0=some [(0,0),(5,1),(6,1),(9,0),(10,0),(11,0)]/\K 132 0=some [(0,0),(3,0)]/\K 132 2=some [(0,0),(3,0),(4,0),(5,0)]/\K 133 0=some [(0,0),(1,0),(6,0),(7,0),(8,0)]/\K 141 0=some [(3,0),(5,0)]/\K 143 0=some [(0,0),(9,0),(10,0),(11,0)]/\K 149 0=some [(5,0),(8,0),(9,0),(10,0)]/\K 152 0=some [(0,0),(1,0),(2,0),(9,0),(12,0),(56,0),(57,0),(58,0)]/\K 152 2=some [(1000015,0),(17,0),(79,0),(80,0),(81,0)]/\K 158 0=some [(3,0),(6,0),(7,0),(8,0)]/\K 159 0=some [(3,1),(6,0),(7,0),(8,0)]/\K 160 0=some [(3,1),(4,0),(7,0),(8,0),(9,0)]/\K 161 0=some [(0,0),(3,1),(4,0)]/\K 161 2=some [(0,0),(3,1),(4,0),(5,0)]/\K 162 0=some [(0,0),(3,0),(4,0),(18,0),(19,0),(20,0)]/\K 162 2=some [(3,0),(4,0),(7,0),(47,0),(48,0),(49,0)]/\K 163 0=some [(3,0),(4,0),(16,0),(17,0),(18,0)]/\K 164 0=some [(0,0),(1,0),(2,0),(3,0),(8,0),(9,0)]/\K 177 0=some [(7,0),(8,0)]/\K 178 0=some [(0,0),(2,0),(9,0),(56,0),(57,0)]/\K 178 2=some [(0,0),(2,0),(9,0),(10,0),(11,0),(56,0),(57,0)]/\K 179 1=some [(8,1),(10,0),(30,0),(31,0),(32,0)]/\K 179 3=some [(8,1),(14,0),(52,0),(53,0),(54,0)]/\K 179 5=some [(8,1),(18,0),(73,0),(74,0),(75,0)]/\K 182 0=some [(0,0),(1,0),(6,0),(7,0),(8,0)]/\K 184 0=some [(0,0),(3,0),(4,0)]/\K 185 0=some [(0,0),(1,0),(2,0),(6,0)]/\K 185 2=some [(0,0),(1,0),(2,0),(6,0),(7,0)]/\K 186 0=some [(0,0),(6,0),(7,0),(8,0),(9,0)]/\K 186 2=some [(0,0),(6,0),(7,0),(10,0)]/\K 187 0=some [(0,0),(1,0),(6,0),(7,0),(8,0),(9,0)]/\K 189 0=some [(0,0),(6,0),(7,0)]/\K 190 0=some [(0,0),(1,0),(2,0),(7,0),(8,0)]/\K 190 2=some [(0,0),(1,0),(2,0),(7,0),(8,0)]/\K 190 4=some [(0,0),(1,0),(2,0),(7,0),(8,0),(9,0)]/\K 190 6=some [(0,0),(1,0),(2,0),(7,0),(8,0),(10,0)]/\K 191 0=some [(0,0),(1,0),(9,0),(10,0)]/\K 191 2=some [(0,0),(1,0),(9,0),(10,0)]/\K 191 4=some [(0,0),(1,0),(9,0),(10,0)]/\K 192 0=some [(0,0),(1,0),(10,0),(11,0)]/\K 192 2=some [(0,0),(1,0),(10,0),(11,0)]/\K 192 4=some [(0,0),(1,0),(10,0),(11,0)]/\K 192 6=some [(0,0),(1,0),(10,0),(11,0)]/\K 192 8=some [(0,0),(1,0),(10,0),(11,0)]/\K 195 2=some [(0,0),(1,0),(6,0),(7,1),(8,0)]/\K 196 0=some [(12,0),(15,1),(85,0),(86,0),(87,0)]/\K 199 0=some [(0,0),(3,0)]/\K 199 2=some [(0,0),(3,0),(4,0),(5,0)]/\K 202 0=some [(0,0),(2,0),(3,0),(8,0)]/\K 210 0=some [(0,0),(1,0),(5,1)]/\K 211 0=some [(0,0),(1,0),(5,0),(6,1)]/\K 211 2=some [(0,0),(5,0),(6,1),(9,1),(104,0),(105,0),(106,0)]:=by and_intros<;>rfl
@[simp] def zGr:K 212 0=some [(5,0),(7,1),(36,0),(37,0),(38,0)]/\K 214 0=some [(0,0),(11,1),(45,0),(46,0),(47,0)]/\K 215 0=some [(0,0),(1,0),(2,0),(3,0),(8,0),(9,0)]/\K 218 0=some [(7,0),(8,0)]/\K 220 0=some [(0,0),(1,0),(2,0),(6,0)]/\K 220 2=some [(0,0),(1,0),(2,0),(6,0),(7,0)]/\K 221 0=some [(0,0),(6,0),(7,0),(8,0),(9,0)]/\K 221 2=some [(0,0),(6,0),(7,0),(10,0)]/\K 222 0=some [(0,0),(1,0),(6,0),(7,0),(8,0),(9,0)]/\K 224 0=some [(0,0),(6,0),(7,0)]/\K 225 0=some [(0,0),(1,0),(2,0),(7,0),(8,0)]/\K 225 2=some [(0,0),(1,0),(2,0),(7,0),(8,0)]/\K 225 4=some [(0,0),(1,0),(2,0),(7,0),(8,0),(9,0)]/\K 225 6=some [(0,0),(1,0),(2,0),(7,0),(8,0),(10,0)]/\K 226 0=some [(0,0),(1,0),(9,0),(10,0)]/\K 226 2=some [(0,0),(1,0),(9,0),(10,0)]/\K 226 4=some [(0,0),(1,0),(9,0),(10,0)]/\K 227 0=some [(0,0),(1,0),(10,0),(11,0)]/\K 227 2=some [(0,0),(1,0),(10,0),(11,0)]/\K 227 4=some [(0,0),(1,0),(10,0),(11,0)]/\K 227 6=some [(0,0),(1,0),(10,0),(11,0)]/\K 227 8=some [(0,0),(1,0),(10,0),(11,0)]/\K 228 0=some [(0,0),(2,0),(3,0),(8,0)]/\Hn 3 6=[0]/\Hn 4 7=[0]/\Hn 4 17=[]/\Hn 6 7=[0]/\Hn 7 22=[7]/\Hn 8 7=[0]/\Hn 8 11=[2,9,16]/\Hn 8 16=[2]/\Hn 11 5=[]/\Hn 12 17=[0]/\Hn 12 28=[0,1008]/\Hn 14 11=[]/\Hn 15 7=[]/\Hn 15 9=[]/\Hn 17 6=[]/\Hn 18 9=[]/\Hn 18 12=[]/\Hn 18 20=[0,1,4]/\Hn 19 1=[]/\Hn 19 5=[]/\Hn 19 7=[0,1,4,5,8,9,10,11,12]/\Hn 19 14=[]/\Hn 19 15=[0]/\Hn 19 17=[]/\Hn 20 19=[]/\Hn 22 7=[]/\Hn 22 14=[]/\Hn 22 19=[]/\Hn 25 1=[12]/\Hn 28 1=[4]/\Hn 30 6=[]/\Hn 36 6=[]/\Hn 40 9=[6]/\Hn 41 1=[5,6]/\Hn 50 10=[]/\Hn 60 4=[]/\Hn 60 29=[]:=by and_intros<;>rfl
@[simp] def zGs:Hn 61 6=[]/\Hn 74 6=[]/\Hn 87 3=[]/\Hn 93 6=[8]/\Hn 95 10=[]/\Hn 107 11=[11,13,2015,3008]/\Hn 107 18=[4,2005,3002]/\Hn 107 19=[0]/\Hn 126 11=[]/\Hn 132 6=[]/\Hn 132 11=[]/\Hn 152 31=[6]/\Hn 161 5=[]/\Hn 164 17=[]/\Hn 177 9=[]/\Hn 178 16=[]/\Hn 185 4=[]/\Hn 185 6=[]/\Hn 186 10=[]/\Hn 187 10=[]/\Hn 189 3=[]/\Hn 190 5=[]/\Hn 190 11=[]/\Hn 190 16=[]/\Hn 190 17=[]/\Hn 190 22=[]/\Hn 190 23=[]/\Hn 191 1=[]/\Hn 191 3=[]/\Hn 191 5=[]/\Hn 191 8=[]/\Hn 192 1=[]/\Hn 192 3=[]/\Hn 192 5=[]/\Hn 192 8=[]/\Hn 192 10=[]/\Hn 192 13=[]/\Hn 192 15=[]/\Hn 192 18=[]/\Hn 192 21=[]/\Hn 195 29=[]/\Hn 199 6=[]/\Hn 199 11=[]/\Hn 202 3=[]/\Hn 202 5=[]/\Hn 202 6=[]/\Hn 204 1=[]/\Hn 204 2=[]/\Hn 204 3=[]/\Hn 209 4=[8]/\Hn 215 17=[]/\Hn 216 1=[]/\Hn 217 4=[8]/\Hn 218 9=[]/\Hn 220 4=[]/\Hn 220 6=[]/\Hn 221 10=[]/\Hn 222 10=[]/\Hn 224 3=[]/\Hn 225 5=[]:=by and_intros<;>rfl
@[simp] def zC4:Hn 225 11=[]/\Hn 225 16=[]/\Hn 225 17=[]/\Hn 225 22=[]/\Hn 225 23=[]/\Hn 226 1=[]/\Hn 226 3=[]/\Hn 226 5=[]/\Hn 226 8=[]/\Hn 227 1=[]/\Hn 227 3=[]/\Hn 227 5=[]/\Hn 227 8=[]/\Hn 227 10=[]/\Hn 227 13=[]/\Hn 227 15=[]/\Hn 227 18=[]/\Hn 227 21=[]/\Hn 228 3=[]/\Hn 228 5=[]/\Hn 228 6=[]/\Hn 231 1=[]:=by and_intros<;>rfl
noncomputable abbrev R:Run:=zeA Tryz.prog G K Hn
end Go.Am.Ab
namespace Go.Am
def zzs:IntKind.bits .u8=8:=rfl
def zw1:IntKind.bits .u32=32:=rfl
def zw2:IntKind.bits .u64=64:=rfl
def zw3:IntKind.bits .i64=64:=rfl
def zf4 (x:Int):IntKind.u8.wrap x=x % 256:=by simp[IntKind.wrap,IntKind.signed,IntKind.bits]
def zcW (x:Int):IntKind.u32.wrap x=x % 4294967296:=by simp[IntKind.wrap,IntKind.signed,IntKind.bits]
def zaj (x:Int):IntKind.u64.wrap x=x % 18446744073709551616:=by simp[IntKind.wrap,IntKind.signed,IntKind.bits]
def zaX (x:Int):IntKind.i64.wrap x=if x % 18446744073709551616>=9223372036854775808 then x % 18446744073709551616 - 18446744073709551616 else x % 18446744073709551616:=by
 simp[IntKind.wrap,IntKind.signed,IntKind.bits]
def zaQ (n:Nat) (w:Nat):(BitVec.ofInt w (n:Int)).toNat=n % 2 ^ w:=by
 rw[ydw];have:(n:Int) % ((2 ^ w:Nat):Int)=((n % 2 ^ w:Nat):Int):=by rw[Int.natCast_emod]
 rw[this,yaz]
def zC5 {x y:Nat} (hx:x<2 ^ 64) (hy:y<2 ^ 64):IntKind.u64.wrap (BitVec.ofInt 64 (x:Int) ||| BitVec.ofInt 64 (y:Int)).toNat=((x ||| y:Nat):Int):=by
 rw[ydr,zaQ,zaQ,yaJ hx,yaJ hy,zaj];have:=yc2 hx hy;omega
def zzt {x y:Nat} (hx:x<2 ^ 64) (hy:y<2 ^ 64):IntKind.u64.wrap (BitVec.ofInt 64 (x:Int) &&& BitVec.ofInt 64 (y:Int)).toNat=((x &&& y:Nat):Int):=by
 rw[ycJ,zaQ,zaQ,yaJ hx,yaJ hy,zaj];have:=ydx x hy;omega
def zzu {x y:Nat} (hx:x<2 ^ 64) (hy:y<2 ^ 64):IntKind.u64.wrap (BitVec.ofInt 64 (x:Int) ^^^ BitVec.ofInt 64 (y:Int)).toNat=((x ^^^ y:Nat):Int):=by
 rw[ycK,zaQ,zaQ,yaJ hx,yaJ hy,zaj];have:=Nat.xor_lt_two_pow hx hy;omega
def zGt {x y:Nat} (hx:x<2 ^ 8) (hy:y<2 ^ 8):IntKind.u8.wrap (BitVec.ofInt 8 (x:Int) ||| BitVec.ofInt 8 (y:Int)).toNat=((x ||| y:Nat):Int):=by
 rw[ydr,zaQ,zaQ,yaJ hx,yaJ hy,zf4];have:=yc2 hx hy;omega
def zC6 {x y:Nat} (hx:x<2 ^ 8) (hy:y<2 ^ 8):IntKind.u8.wrap (BitVec.ofInt 8 (x:Int) &&& BitVec.ofInt 8 (y:Int)).toNat=((x &&& y:Nat):Int):=by
 rw[ycJ,zaQ,zaQ,yaJ hx,yaJ hy,zf4];have:=ydx x hy;omega
def zC7 {x y:Nat} (hx:x<2 ^ 32) (hy:y<2 ^ 32):IntKind.u32.wrap (BitVec.ofInt 32 (x:Int) ||| BitVec.ofInt 32 (y:Int)).toNat=((x ||| y:Nat):Int):=by
 rw[ydr,zaQ,zaQ,yaJ hx,yaJ hy,zcW];have:=yc2 hx hy;omega
def zzv {x y:Nat} (hx:x<2 ^ 32) (hy:y<2 ^ 32):IntKind.u32.wrap (BitVec.ofInt 32 (x:Int) &&& BitVec.ofInt 32 (y:Int)).toNat=((x &&& y:Nat):Int):=by
 rw[ycJ,zaQ,zaQ,yaJ hx,yaJ hy,zcW];have:=ydx x hy;omega
def zzw {x y:Nat} (hx:x<2 ^ 32) (hy:y<2 ^ 32):IntKind.u32.wrap (BitVec.ofInt 32 (x:Int) ^^^ BitVec.ofInt 32 (y:Int)).toNat=((x ^^^ y:Nat):Int):=by
 rw[ycK,zaQ,zaQ,yaJ hx,yaJ hy,zcW];have:=Nat.xor_lt_two_pow hx hy;omega
def znL {x y:Int} (h1:0<=x) (h2:x<256) (h3:0<=y) (h4:y<256):zbq .or .u8 x y=some (.int .u8 ((x.toNat ||| y.toNat:Nat):Int)):=by
 obtain⟨a,rfl⟩:=yaC h1;obtain⟨b,rfl⟩:=yaC h3
 show some (D.int .u8 _)=_
 rw[yaz,yaz];exact congrArg (λz=>some (D.int .u8 z)) (zGt (by omega) (by omega))
attribute [simp] znL
def zml {x y:Int} (h1:0<=x) (h2:x<256) (h3:0<=y) (h4:y<256):zbq .and .u8 x y=some (.int .u8 ((x.toNat &&& y.toNat:Nat):Int)):=by
 obtain⟨a,rfl⟩:=yaC h1;obtain⟨b,rfl⟩:=yaC h3
 show some (D.int .u8 _)=_
 rw[yaz,yaz];exact congrArg (λz=>some (D.int .u8 z)) (zC6 (by omega) (by omega))
attribute [simp] zml
def zmm {x y:Int} (h1:0<=x) (h2:x<4294967296) (h3:0<=y) (h4:y<4294967296):zbq .or .u32 x y=some (.int .u32 ((x.toNat ||| y.toNat:Nat):Int)):=by
 obtain⟨a,rfl⟩:=yaC h1;obtain⟨b,rfl⟩:=yaC h3
 show some (D.int .u32 _)=_
 rw[yaz,yaz];exact congrArg (λz=>some (D.int .u32 z)) (zC7 (by omega) (by omega))
attribute [simp] zmm
def zkG {x y:Int} (h1:0<=x) (h2:x<4294967296) (h3:0<=y) (h4:y<4294967296):zbq .and .u32 x y=some (.int .u32 ((x.toNat &&& y.toNat:Nat):Int)):=by
 obtain⟨a,rfl⟩:=yaC h1;obtain⟨b,rfl⟩:=yaC h3
 show some (D.int .u32 _)=_
 rw[yaz,yaz];exact congrArg (λz=>some (D.int .u32 z)) (zzv (by omega) (by omega))
attribute [simp] zkG
def zkH {x y:Int} (h1:0<=x) (h2:x<4294967296) (h3:0<=y) (h4:y<4294967296):zbq .xor .u32 x y=some (.int .u32 ((x.toNat ^^^ y.toNat:Nat):Int)):=by
 obtain⟨a,rfl⟩:=yaC h1;obtain⟨b,rfl⟩:=yaC h3
 show some (D.int .u32 _)=_
 rw[yaz,yaz];exact congrArg (λz=>some (D.int .u32 z)) (zzw (by omega) (by omega))
attribute [simp] zkH
def zmn {x y:Int} (h1:0<=x) (h2:x<18446744073709551616) (h3:0<=y) (h4:y<18446744073709551616):zbq .or .u64 x y=some (.int .u64 ((x.toNat ||| y.toNat:Nat):Int)):=by
 obtain⟨a,rfl⟩:=yaC h1;obtain⟨b,rfl⟩:=yaC h3
 show some (D.int .u64 _)=_
 rw[yaz,yaz];exact congrArg (λz=>some (D.int .u64 z)) (zC5 (by omega) (by omega))
attribute [simp] zmn
def zkI {x y:Int} (h1:0<=x) (h2:x<18446744073709551616) (h3:0<=y) (h4:y<18446744073709551616):zbq .and .u64 x y=some (.int .u64 ((x.toNat &&& y.toNat:Nat):Int)):=by
 obtain⟨a,rfl⟩:=yaC h1;obtain⟨b,rfl⟩:=yaC h3
 show some (D.int .u64 _)=_
 rw[yaz,yaz];exact congrArg (λz=>some (D.int .u64 z)) (zzt (by omega) (by omega))
attribute [simp] zkI
def zkJ {x y:Int} (h1:0<=x) (h2:x<18446744073709551616) (h3:0<=y) (h4:y<18446744073709551616):zbq .xor .u64 x y=some (.int .u64 ((x.toNat ^^^ y.toNat:Nat):Int)):=by
 obtain⟨a,rfl⟩:=yaC h1;obtain⟨b,rfl⟩:=yaC h3
 show some (D.int .u64 _)=_
 rw[yaz,yaz];exact congrArg (λz=>some (D.int .u64 z)) (zzu (by omega) (by omega))
attribute [simp] zkJ
def zC8 {x y i:Nat} (hx:x % 2 ^ i=0) (hy:y<2 ^ i):x ||| y=x+y:=by
 have e:x=2 ^ i*(x / 2 ^ i):=by
  have:=ycR x (2 ^ i);omega
 rw[e,Nat.two_pow_add_eq_or_of_lt hy]
def zf5 {x y i:Nat} (hx:x % 2 ^ i=0) (hy:y<2 ^ i):y ||| x=y+x:=by rw[Nat.or_comm,zC8 hx hy,yby]
def zGu (n:Nat):(n % 256 ||| 128)=n % 128+128:=by
 have h1:n % 256=n % 128+128*(n / 128 % 2):=by omega
 have h2:n / 128 % 2=0\/n / 128 % 2=1:=by omega
 have h3:n % 128<2 ^ 7:=by omega
 rcases h2 with h | h
 ·rw[h1,h,Nat.mul_zero,ycN]
  rw[zf5 (i:=7) (by decide) h3]
 ·rw[h1,h,ybU]
  have:n % 128+128=n % 128 ||| 128:=(zf5 (i:=7) (by decide) h3).symm
  rw[this,Nat.or_assoc,Nat.or_self]
def zgR (n k:Nat):n &&& (2 ^ k - 1)=n % 2 ^ k:=Nat.and_two_pow_sub_one_eq_mod n k
def zC9 (n:Nat):n &&& 127=n % 128:=zgR n 7
def zIc (n:Nat):n &&& 1=n % 2:=zgR n 1
def zw4 {x:Nat} (hx:x<2 ^ 64):x ^^^ 18446744073709551615=18446744073709551615 - x:=by
 have h:(BitVec.ofNat 64 x ^^^ BitVec.allOnes 64).toNat=(~~~ BitVec.ofNat 64 x).toNat:=by rw[BitVec.xor_allOnes]
 rw[ycK,BitVec.toNat_not,ycU,BitVec.toNat_allOnes,yaJ hx]at h;exact h
def zf6 {x:Int} (h1: -9223372036854775808<=x) (h2:x<=9223372036854775807):zbq .xor .i64 x 0=some (.int .i64 x):=by
 show some (D.int .i64 (IntKind.i64.wrap (BitVec.ofInt 64 x ^^^ BitVec.ofInt 64 0).toNat))=_
 have:BitVec.ofInt 64 0=0#64:=rfl;rw[this,ydV,ydw,zaX];congr 2;split <;> omega
def zhH {x:Int} (h1: -9223372036854775808<=x) (h2:x<=9223372036854775807):zbq .xor .i64 x (-1)=some (.int .i64 (-x - 1)):=by
 show some (D.int .i64 (IntKind.i64.wrap (BitVec.ofInt 64 x ^^^ BitVec.ofInt 64 (-1)).toNat))=_
 have:BitVec.ofInt 64 (-1)=BitVec.allOnes 64:=by decide
 rw[this,BitVec.xor_allOnes,BitVec.toNat_not,ydw,zaX];congr 2;split <;> omega
attribute [simp] zf6 zhH
def u8n (n:Nat):UInt8:=UInt8.ofNat n
def zdh {n:Nat} (h:n<256):(u8n n).toNat=n:=by simp[u8n];omega
def zDa (b:UInt8):u8n b.toNat=b:=by simp[u8n]
abbrev bytes (l:List UInt8):List D:=l.map zbT
def zqA {b:UInt8} {x:Int} (h:(b.toNat:Int)=x):zbT b= .int .u8 x:=by simp[zbT,h]
def zcU {n:Nat} (h:n<256):(UInt8.ofNat n).toNat=n:=by simp;omega
@[simp] def zDb (l:List UInt8):(ByteArray.mk l.toArray).toList=l:=by rw[ByteArray.toList_eq]
@[simp] def zGv (l:List UInt8):(ByteArray.mk l.toArray).size=l.length:=by simp[ByteArray.size]
@[simp] def zAU (l:List UInt8):l.mapM (byteOf? ∘ zbT)=some l:=by rw[<- List.mapM_map];exact zdq l
@[simp] def zAV (l:List UInt8) (k:Nat):((l.map zbT).take k).mapM byteOf?=some (l.take k):=by rw[<- ybZ,zdq]
@[simp] def zAW (l:List UInt8) (k:Nat):((l.map zbT).drop k).mapM byteOf?=some (l.drop k):=by rw[<- ycm,zdq]
@[simp] def zt6 (l:List UInt8) (k j:Nat):(((l.map zbT).take k).drop j).mapM byteOf?=some ((l.take k).drop j):=by rw[<- ybZ,<- ycm,zdq]
@[simp] def zw5 (l:List UInt8):zao 1 (l.map zbT)=true:=zaJ l λ_=>rfl
@[simp] def zyr {α:Type} (k:IntKind) (f:α->Int) (l:List α):zao 1 (l.map λx=>D.int k (f x))=true:=zaJ l λ_=>rfl
@[simp] def zys (l:List ByteArray):zao 1 (l.map D.str)=true:=zaJ l λ_=>rfl
attribute [simp] cut
@[simp] def zyt {α β:Type} (f:α->β) (l:List α):(l.map f).take l.length=l.map f:=yaB (by simp)
attribute [simp] zbT zdh zGu zC9 zIc zDa
attribute [simp] zf4 zcW zzs zw1 zw2 zw3
@[simp] def zyu (m:Nat):((m:Int) % 256).toNat=m % 256:=by omega
@[simp] def zzx (m:Nat):((m:Int) % 4294967296).toNat=m % 4294967296:=by omega
@[simp] def zzy (m:Nat):((m:Int) % 18446744073709551616).toNat=m % 18446744073709551616:=by omega
def zqB (a b:Int) (h:0<=b):a.fdiv b=a / b:=Int.fdiv_eq_ediv_of_nonneg a h
@[simp] def zEu (a:Int) (w:Nat):a.fdiv (2 ^ w)=a / 2 ^ w:=zqB a _ (ydW (Int.pow_pos (by decide)))
attribute [simp] zqB
def zw6 (a b:Int) (h:0<=a):a.tdiv b=a / b:=Int.tdiv_eq_ediv_of_nonneg h
def zw7 (a b:Int) (h:0<=a):a.tmod b=a % b:=Int.tmod_eq_emod_of_nonneg h
attribute [simp] zw6 zw7
end Go.Am
namespace Go.Am.Ab
structure Fld where
 id:Int
 name:ByteArray
 kind:Int
 need:Bool
structure Sch where
 id:Int
 fields:List Fld
structure Snap where
 id:Int
 parent:Int
 seq:Int
 offset:Int
 time:Int
 schema:Int
 mans:List ByteArray
structure Tab where
 schemas:List Sch
 snaps:List Snap
 current:Int
structure Pol where
 keep:Int
 age:Int
abbrev u64 (n:Int):D:= .int .u64 n
abbrev i64 (n:Int):D:= .int .i64 n
def Fld.d (f:Fld):D:= .agg [.int .u32 f.id,.str f.name,.int .u8 f.kind,.bool f.need]
def Sch.d (s:Sch):D:= .agg [.int .u32 s.id,.list (s.fields.map Fld.d)]
def Snap.d (s:Snap):D:= .agg [.int .u64 s.id,.int .u64 s.parent,.int .u64 s.seq,.int .u64 s.offset,.int .u64 s.time,.int .u32 s.schema,.list (s.mans.map .str)]
def Tab.d (t:Tab):D:= .agg [.list (t.schemas.map Sch.d),.list (t.snaps.map Snap.d),.int .u64 t.current]
def Pol.d (p:Pol):D:= .agg [.int .i64 p.keep,.int .u64 p.age]
attribute [simp] Fld.d Sch.d Snap.d Tab.d Pol.d
end Go.Am.Ab
namespace Go.Am.Ab
def nI {m n:Nat}:(m:Int)=n↔m=n:=Int.natCast_inj
def wI {x:Int} (h1: -9223372036854775808<=x) (h2:x<=9223372036854775807):IntKind.i64.wrap x=x:=zwZ h1 h2
end Go.Am.Ab
namespace Go.Am.Ab
open Go.Proofs
structure Bun (f:FuncId) (fn:Func) (c:Code) (rs:List ResultVar) (ts:List TypeId):Prop where
 a:Tryz.prog.funcs[f]? =some fn
 b:fn.body=some c
 j:fn.results.toList=rs
 d:fn.resultTypes.toList=ts
 e:codeOk Tryz.prog (Hn f) fn.ntmps c=true
 g : (fn.name == "runtime.NumGoroutine") = false
 i:splits G f=false
def rg {f:FuncId} {fn:Func} {c:Code} {rs:List ResultVar} {ts:List TypeId} {args:List V} {h:List Obj} {r:List V × List Obj} (u:Bun f fn c rs ts) (hl:Nat.ble args.length fn.ntmps=true) (hr: ∀T:Option (List V × List Obj)->Prop,T (some r)->T (zts Tryz.prog h.length rs ts (zcA Tryz.prog G K Hn (zeA Tryz.prog G K Hn) f h.length 0 c ⟨⟩ (zaq 0 args) h))):zeA Tryz.prog G K Hn f args h=some r:=zfk u.a u.b u.j u.d u.e u.g (.inl u.i) (ydb hl) hr
def ra {f:FuncId} {fn:Func} {c:Code} {rs:List ResultVar} {ts:List TypeId} {args:List V} {h:List Obj} {p:Option (List V × List Obj)->Prop} (u:Bun f fn c rs ts) (hl:Nat.ble args.length fn.ntmps=true) (hp: ¬ p none) (hr:p (zts Tryz.prog h.length rs ts (zcA Tryz.prog G K Hn (zeA Tryz.prog G K Hn) f h.length 0 c ⟨⟩ (zaq 0 args) h))):p (zeA Tryz.prog G K Hn f args h):=zzo u.a u.b u.j u.d u.e u.g (.inl u.i) (ydb hl) hp hr
def b7:=Bun.mk (f:=7) (rs:=[.tmp 4]) (ts:=[4]) Tryz.func7 rfl rfl rfl (by kernel_rfl) (by kernel_rfl) zH8
def b10:=Bun.mk (f:=10) (rs:=[.tmp 2]) (ts:=[4]) Tryz.func10 rfl rfl rfl (by kernel_rfl) (by kernel_rfl) zFA
def b11:=Bun.mk (f:=11) (rs:=[.tmp 2]) (ts:=[26]) Tryz.func11 rfl rfl rfl (by kernel_rfl) (by kernel_rfl) zFB
def b12:=Bun.mk (f:=12) (rs:=[.cell 6 30,.cell 7 31]) (ts:=[30,31]) Tryz.func12 rfl rfl rfl (by kernel_rfl) (by kernel_rfl) zFC
def b13:=Bun.mk (f:=13) (rs:=[.tmp 2]) (ts:=[34]) Tryz.func13 rfl rfl rfl (by kernel_rfl) (by kernel_rfl) zFD
def b15:=Bun.mk (f:=15) (rs:=[.tmp 2]) (ts:=[3]) Tryz.func15 rfl rfl rfl (by kernel_rfl) (by kernel_rfl) zFE
def b17:=Bun.mk (f:=17) (rs:=[.tmp 6]) (ts:=[26]) Tryz.func17 rfl rfl rfl (by kernel_rfl) (by kernel_rfl) zFF
def b18:=Bun.mk (f:=18) (rs:=[.tmp 2,.tmp 3]) (ts:=[49,31]) Tryz.func18 rfl rfl rfl (by kernel_rfl) (by kernel_rfl) zFG
def b23:=Bun.mk (f:=23) (rs:=[.tmp 4]) (ts:=[4]) Tryz.func23 rfl rfl rfl (by kernel_rfl) (by kernel_rfl) zFH
def b26:=Bun.mk (f:=26) (rs:=[.tmp 2]) (ts:=[26]) Tryz.func26 rfl rfl rfl (by kernel_rfl) (by kernel_rfl) zFI
def b27:=Bun.mk (f:=27) (rs:=[.tmp 2]) (ts:=[34]) Tryz.func27 rfl rfl rfl (by kernel_rfl) (by kernel_rfl) zFJ
def b28:=Bun.mk (f:=28) (rs:=[.cell 2 25]) (ts:=[25]) Tryz.func28 rfl rfl rfl (by kernel_rfl) (by kernel_rfl) zFK
def b30:=Bun.mk (f:=30) (rs:=[.tmp 4]) (ts:=[4]) Tryz.func30 rfl rfl rfl (by kernel_rfl) (by kernel_rfl) zFL
def b36:=Bun.mk (f:=36) (rs:=[.tmp 4]) (ts:=[4]) Tryz.func36 rfl rfl rfl (by kernel_rfl) (by kernel_rfl) zFM
def b37:=Bun.mk (f:=37) (rs:=[.tmp 2]) (ts:=[58]) Tryz.func37 rfl rfl rfl (by kernel_rfl) (by kernel_rfl) zFN
def b38:=Bun.mk (f:=38) (rs:=[.tmp 2]) (ts:=[58]) Tryz.func38 rfl rfl rfl (by kernel_rfl) (by kernel_rfl) zFO
def b39:=Bun.mk (f:=39) (rs:=[.tmp 2]) (ts:=[31]) Tryz.func39 rfl rfl rfl (by kernel_rfl) (by kernel_rfl) zFP
def b40:=Bun.mk (f:=40) (rs:=[.tmp 4]) (ts:=[31]) Tryz.func40 rfl rfl rfl (by kernel_rfl) (by kernel_rfl) zFQ
def b41:=Bun.mk (f:=41) (rs:=[.tmp 2]) (ts:=[30]) Tryz.func41 rfl rfl rfl (by kernel_rfl) (by kernel_rfl) zFR
def b42:=Bun.mk (f:=42) (rs:=[.tmp 2]) (ts:=[30]) Tryz.func42 rfl rfl rfl (by kernel_rfl) (by kernel_rfl) zFS
def b43:=Bun.mk (f:=43) (rs:=[.tmp 4]) (ts:=[92]) Tryz.func43 rfl rfl rfl (by kernel_rfl) (by kernel_rfl) zFT
def b44:=Bun.mk (f:=44) (rs:=[.tmp 4]) (ts:=[71]) Tryz.func44 rfl rfl rfl (by kernel_rfl) (by kernel_rfl) zFU
def b45:=Bun.mk (f:=45) (rs:=[.tmp 4,.tmp 5]) (ts:=[30,31]) Tryz.func45 rfl rfl rfl (by kernel_rfl) (by kernel_rfl) zFV
def b46:=Bun.mk (f:=46) (rs:=[.tmp 4]) (ts:=[30]) Tryz.func46 rfl rfl rfl (by kernel_rfl) (by kernel_rfl) zFW
def b47:=Bun.mk (f:=47) (rs:=[.cell 2 77]) (ts:=[77]) Tryz.func47 rfl rfl rfl (by kernel_rfl) (by kernel_rfl) zFX
def b48:=Bun.mk (f:=48) (rs:=[.tmp 2]) (ts:=[30]) Tryz.func48 rfl rfl rfl (by kernel_rfl) (by kernel_rfl) zFY
def b49:=Bun.mk (f:=49) (rs:=[.tmp 2]) (ts:=[71]) Tryz.func49 rfl rfl rfl (by kernel_rfl) (by kernel_rfl) zFZ
def b50:=Bun.mk (f:=50) (rs:=[.tmp 4]) (ts:=[3]) Tryz.func50 rfl rfl rfl (by kernel_rfl) (by kernel_rfl) zF0
def b56:=Bun.mk (f:=56) (rs:=[.tmp 2]) (ts:=[4]) Tryz.func56 rfl rfl rfl (by kernel_rfl) (by kernel_rfl) zF1
def b57:=Bun.mk (f:=57) (rs:=[.tmp 4]) (ts:=[4]) Tryz.func57 rfl rfl rfl (by kernel_rfl) (by kernel_rfl) zF2
def b59:=Bun.mk (f:=59) (rs:=[.tmp 2,.tmp 3]) (ts:=[30,4]) Tryz.func59 rfl rfl rfl (by kernel_rfl) (by kernel_rfl) zF3
def b60:=Bun.mk (f:=60) (rs:=[.tmp 2,.tmp 3]) (ts:=[49,4]) Tryz.func60 rfl rfl rfl (by kernel_rfl) (by kernel_rfl) zF4
def b61:=Bun.mk (f:=61) (rs:=[.tmp 4]) (ts:=[4]) Tryz.func61 rfl rfl rfl (by kernel_rfl) (by kernel_rfl) zF5
def b71:=Bun.mk (f:=71) (rs:=[.cell 2 41]) (ts:=[41]) Tryz.func71 rfl rfl rfl (by kernel_rfl) (by kernel_rfl) zF6
def b74:=Bun.mk (f:=74) (rs:=[.tmp 4]) (ts:=[4]) Tryz.func74 rfl rfl rfl (by kernel_rfl) (by kernel_rfl) zF7
def b78:=Bun.mk (f:=78) (rs:=[.tmp 2,.tmp 3,.tmp 4]) (ts:=[129,129,4]) Tryz.func78 rfl rfl rfl (by kernel_rfl) (by kernel_rfl) zF8
def b81:=Bun.mk (f:=81) (rs:=[.cell 2 41]) (ts:=[41]) Tryz.func81 rfl rfl rfl (by kernel_rfl) (by kernel_rfl) zF9
def b82:=Bun.mk (f:=82) (rs:=[.tmp 2]) (ts:=[4]) Tryz.func82 rfl rfl rfl (by kernel_rfl) (by kernel_rfl) zGa
def b83:=Bun.mk (f:=83) (rs:=[.tmp 4]) (ts:=[4]) Tryz.func83 rfl rfl rfl (by kernel_rfl) (by kernel_rfl) zGb
def b84:=Bun.mk (f:=84) (rs:=[.tmp 3]) (ts:=[4]) Tryz.func84 rfl rfl rfl (by kernel_rfl) (by kernel_rfl) zGc
def b85:=Bun.mk (f:=85) (rs:=[.tmp 2]) (ts:=[4]) Tryz.func85 rfl rfl rfl (by kernel_rfl) (by kernel_rfl) zGd
def b86:=Bun.mk (f:=86) (rs:=[.tmp 2]) (ts:=[39]) Tryz.func86 rfl rfl rfl (by kernel_rfl) (by kernel_rfl) zGe
def b88:=Bun.mk (f:=88) (rs:=[.tmp 2]) (ts:=[4]) Tryz.func88 rfl rfl rfl (by kernel_rfl) (by kernel_rfl) zGf
def b89:=Bun.mk (f:=89) (rs:=[.tmp 4]) (ts:=[4]) Tryz.func89 rfl rfl rfl (by kernel_rfl) (by kernel_rfl) zGg
def b90:=Bun.mk (f:=90) (rs:=[.tmp 2]) (ts:=[30]) Tryz.func90 rfl rfl rfl (by kernel_rfl) (by kernel_rfl) zGh
def b91:=Bun.mk (f:=91) (rs:=[.tmp 2,.tmp 3]) (ts:=[30,4]) Tryz.func91 rfl rfl rfl (by kernel_rfl) (by kernel_rfl) zGi
def b92:=Bun.mk (f:=92) (rs:=[.tmp 2]) (ts:=[30]) Tryz.func92 rfl rfl rfl (by kernel_rfl) (by kernel_rfl) zGj
def b93:=Bun.mk (f:=93) (rs:=[.tmp 4]) (ts:=[30]) Tryz.func93 rfl rfl rfl (by kernel_rfl) (by kernel_rfl) zGk
def b94:=Bun.mk (f:=94) (rs:=[.tmp 2]) (ts:=[4]) Tryz.func94 rfl rfl rfl (by kernel_rfl) (by kernel_rfl) zGl
def b95:=Bun.mk (f:=95) (rs:=[.tmp 4]) (ts:=[3]) Tryz.func95 rfl rfl rfl (by kernel_rfl) (by kernel_rfl) zGm
def b96:=Bun.mk (f:=96) (rs:=[.tmp 4]) (ts:=[9]) Tryz.func96 rfl rfl rfl (by kernel_rfl) (by kernel_rfl) zGn
def b97:=Bun.mk (f:=97) (rs:=[.tmp 4,.tmp 5]) (ts:=[9,4]) Tryz.func97 rfl rfl rfl (by kernel_rfl) (by kernel_rfl) zGo
def b98:=Bun.mk (f:=98) (rs:=[.cell 2 41,.tmp 3]) (ts:=[41,4]) Tryz.func98 rfl rfl rfl (by kernel_rfl) (by kernel_rfl) zGp
def b99:=Bun.mk (f:=99) (rs:=[.tmp 2]) (ts:=[22]) Tryz.func99 rfl rfl rfl (by kernel_rfl) (by kernel_rfl) zGq
def zId:=Bun.mk (f:=101) (rs:=[.tmp 2]) (ts:=[70]) Tryz.func101 rfl rfl rfl (by kernel_rfl) (by kernel_rfl) zB0
def zIe:=Bun.mk (f:=107) (rs:=[.cell 2 25,.tmp 3,.tmp 4]) (ts:=[25,30,31]) Tryz.func107 rfl rfl rfl (by kernel_rfl) (by kernel_rfl) zB1
def zEv:=Bun.mk (f:=108) (rs:=[.tmp 4]) (ts:=[3]) Tryz.func108 rfl rfl rfl (by kernel_rfl) (by kernel_rfl) zB2
def zIf:=Bun.mk (f:=109) (rs:=[]) (ts:=[]) Tryz.func109 rfl rfl rfl (by kernel_rfl) (by kernel_rfl) zB3
def zAX:=Bun.mk (f:=110) (rs:=[.tmp 6,.tmp 7]) (ts:=[71,31]) Tryz.func110 rfl rfl rfl (by kernel_rfl) (by kernel_rfl) zB4
def zHe:=Bun.mk (f:=120) (rs:=[.tmp 2]) (ts:=[3]) Tryz.func120 rfl rfl rfl (by kernel_rfl) (by kernel_rfl) zB5
def zw8:=Bun.mk (f:=122) (rs:=[.tmp 2,.tmp 3,.tmp 4]) (ts:=[3,3,4]) Tryz.func122 rfl rfl rfl (by kernel_rfl) (by kernel_rfl) zB6
def zIg:=Bun.mk (f:=124) (rs:=[.tmp 4]) (ts:=[3]) Tryz.func124 rfl rfl rfl (by kernel_rfl) (by kernel_rfl) zB7
def zHf:=Bun.mk (f:=125) (rs:=[.tmp 4]) (ts:=[3]) Tryz.func125 rfl rfl rfl (by kernel_rfl) (by kernel_rfl) zB8
def zIh:=Bun.mk (f:=126) (rs:=[.tmp 4,.tmp 5]) (ts:=[30,4]) Tryz.func126 rfl rfl rfl (by kernel_rfl) (by kernel_rfl) zB9
def zDc:=Bun.mk (f:=127) (rs:=[.tmp 4,.tmp 5]) (ts:=[30,4]) Tryz.func127 rfl rfl rfl (by kernel_rfl) (by kernel_rfl) zCa
def zGw:=Bun.mk (f:=128) (rs:=[.tmp 4]) (ts:=[30]) Tryz.func128 rfl rfl rfl (by kernel_rfl) (by kernel_rfl) zCb
def zIi:=Bun.mk (f:=129) (rs:=[.tmp 2]) (ts:=[30]) Tryz.func129 rfl rfl rfl (by kernel_rfl) (by kernel_rfl) zCc
def zHg:=Bun.mk (f:=132) (rs:=[.tmp 2]) (ts:=[143]) Tryz.func132 rfl rfl rfl (by kernel_rfl) (by kernel_rfl) zCd
def zIj:=Bun.mk (f:=133) (rs:=[.tmp 4,.tmp 5]) (ts:=[3,4]) Tryz.func133 rfl rfl rfl (by kernel_rfl) (by kernel_rfl) zCe
def zHh:=Bun.mk (f:=134) (rs:=[.tmp 2]) (ts:=[30]) Tryz.func134 rfl rfl rfl (by kernel_rfl) (by kernel_rfl) zCf
def zIk:=Bun.mk (f:=135) (rs:=[.tmp 4]) (ts:=[4]) Tryz.func135 rfl rfl rfl (by kernel_rfl) (by kernel_rfl) zCg
def zGx:=Bun.mk (f:=136) (rs:=[.tmp 4]) (ts:=[3]) Tryz.func136 rfl rfl rfl (by kernel_rfl) (by kernel_rfl) zCh
def zGy:=Bun.mk (f:=137) (rs:=[.tmp 4]) (ts:=[3]) Tryz.func137 rfl rfl rfl (by kernel_rfl) (by kernel_rfl) zCi
def zGz:=Bun.mk (f:=138) (rs:=[.tmp 4]) (ts:=[3]) Tryz.func138 rfl rfl rfl (by kernel_rfl) (by kernel_rfl) zCj
def zIl:=Bun.mk (f:=139) (rs:=[.tmp 2]) (ts:=[117]) Tryz.func139 rfl rfl rfl (by kernel_rfl) (by kernel_rfl) zCk
def zGA:=Bun.mk (f:=140) (rs:=[.tmp 4]) (ts:=[3]) Tryz.func140 rfl rfl rfl (by kernel_rfl) (by kernel_rfl) zCl
def zIm:=Bun.mk (f:=141) (rs:=[.tmp 2]) (ts:=[3]) Tryz.func141 rfl rfl rfl (by kernel_rfl) (by kernel_rfl) zCm
def zGB:=Bun.mk (f:=142) (rs:=[.tmp 2,.tmp 3]) (ts:=[21,4]) Tryz.func142 rfl rfl rfl (by kernel_rfl) (by kernel_rfl) zCn
def zIn:=Bun.mk (f:=143) (rs:=[.tmp 4]) (ts:=[22]) Tryz.func143 rfl rfl rfl (by kernel_rfl) (by kernel_rfl) zCo
def zEw:=Bun.mk (f:=148) (rs:=[.tmp 4]) (ts:=[90]) Tryz.func148 rfl rfl rfl (by kernel_rfl) (by kernel_rfl) zCp
def zIo:=Bun.mk (f:=149) (rs:=[.tmp 2,.tmp 3,.tmp 4]) (ts:=[90,3,31]) Tryz.func149 rfl rfl rfl (by kernel_rfl) (by kernel_rfl) zCq
def zGC:=Bun.mk (f:=150) (rs:=[]) (ts:=[]) Tryz.func150 rfl rfl rfl (by kernel_rfl) (by kernel_rfl) zCr
def zEx:=Bun.mk (f:=151) (rs:=[]) (ts:=[]) Tryz.func151 rfl rfl rfl (by kernel_rfl) (by kernel_rfl) zCs
def zAY:=Bun.mk (f:=152) (rs:=[.tmp 6,.tmp 7]) (ts:=[71,31]) Tryz.func152 rfl rfl rfl (by kernel_rfl) (by kernel_rfl) zCt
def zIp:=Bun.mk (f:=158) (rs:=[.tmp 2]) (ts:=[3]) Tryz.func158 rfl rfl rfl (by kernel_rfl) (by kernel_rfl) zCu
def zIq:=Bun.mk (f:=159) (rs:=[.tmp 2]) (ts:=[30]) Tryz.func159 rfl rfl rfl (by kernel_rfl) (by kernel_rfl) zCv
def zIr:=Bun.mk (f:=160) (rs:=[.tmp 2]) (ts:=[30]) Tryz.func160 rfl rfl rfl (by kernel_rfl) (by kernel_rfl) zCw
def zIs:=Bun.mk (f:=161) (rs:=[.tmp 2]) (ts:=[30]) Tryz.func161 rfl rfl rfl (by kernel_rfl) (by kernel_rfl) zCx
def zHi:=Bun.mk (f:=162) (rs:=[.tmp 2]) (ts:=[30]) Tryz.func162 rfl rfl rfl (by kernel_rfl) (by kernel_rfl) zCy
def zHj:=Bun.mk (f:=163) (rs:=[.tmp 2]) (ts:=[30]) Tryz.func163 rfl rfl rfl (by kernel_rfl) (by kernel_rfl) zCz
def zIt:=Bun.mk (f:=166) (rs:=[.tmp 4]) (ts:=[4]) Tryz.func166 rfl rfl rfl (by kernel_rfl) (by kernel_rfl) zCA
def zHk:=Bun.mk (f:=168) (rs:=[.tmp 4]) (ts:=[4]) Tryz.func168 rfl rfl rfl (by kernel_rfl) (by kernel_rfl) zCB
def zIu:=Bun.mk (f:=169) (rs:=[.tmp 2]) (ts:=[4]) Tryz.func169 rfl rfl rfl (by kernel_rfl) (by kernel_rfl) zCC
def zHl:=Bun.mk (f:=170) (rs:=[.tmp 2]) (ts:=[4]) Tryz.func170 rfl rfl rfl (by kernel_rfl) (by kernel_rfl) zCD
def zIv:=Bun.mk (f:=171) (rs:=[.tmp 2]) (ts:=[4]) Tryz.func171 rfl rfl rfl (by kernel_rfl) (by kernel_rfl) zCE
def zHm:=Bun.mk (f:=172) (rs:=[.tmp 2]) (ts:=[4]) Tryz.func172 rfl rfl rfl (by kernel_rfl) (by kernel_rfl) zCF
def zHn:=Bun.mk (f:=176) (rs:=[.tmp 2,.tmp 3,.tmp 4]) (ts:=[2,3,31]) Tryz.func176 rfl rfl rfl (by kernel_rfl) (by kernel_rfl) zCG
def zHo:=Bun.mk (f:=177) (rs:=[.tmp 4]) (ts:=[156]) Tryz.func177 rfl rfl rfl (by kernel_rfl) (by kernel_rfl) zCH
def zGD:=Bun.mk (f:=178) (rs:=[.tmp 6,.tmp 7]) (ts:=[156,31]) Tryz.func178 rfl rfl rfl (by kernel_rfl) (by kernel_rfl) zCI
def zGE:=Bun.mk (f:=179) (rs:=[.tmp 6,.tmp 7]) (ts:=[71,31]) Tryz.func179 rfl rfl rfl (by kernel_rfl) (by kernel_rfl) zCJ
def zIw:=Bun.mk (f:=180) (rs:=[.tmp 2]) (ts:=[3]) Tryz.func180 rfl rfl rfl (by kernel_rfl) (by kernel_rfl) zCK
def zHp:=Bun.mk (f:=181) (rs:=[.tmp 2]) (ts:=[142]) Tryz.func181 rfl rfl rfl (by kernel_rfl) (by kernel_rfl) zCL
def zIx:=Bun.mk (f:=182) (rs:=[.tmp 4,.tmp 5]) (ts:=[3,4]) Tryz.func182 rfl rfl rfl (by kernel_rfl) (by kernel_rfl) zCM
def zIy:=Bun.mk (f:=183) (rs:=[.tmp 2]) (ts:=[30]) Tryz.func183 rfl rfl rfl (by kernel_rfl) (by kernel_rfl) zCN
def zIz:=Bun.mk (f:=184) (rs:=[.tmp 2]) (ts:=[2]) Tryz.func184 rfl rfl rfl (by kernel_rfl) (by kernel_rfl) zCO
def zIA:=Bun.mk (f:=194) (rs:=[.tmp 4,.tmp 5]) (ts:=[47,47]) Tryz.func194 rfl rfl rfl (by kernel_rfl) (by kernel_rfl) zCP
def zDd:=Bun.mk (f:=195) (rs:=[.tmp 4,.tmp 5]) (ts:=[142,31]) Tryz.func195 rfl rfl rfl (by kernel_rfl) (by kernel_rfl) zCQ
def zwb:=Bun.mk (f:=196) (rs:=[.tmp 4,.tmp 5]) (ts:=[143,31]) Tryz.func196 rfl rfl rfl (by kernel_rfl) (by kernel_rfl) zCR
def zHq:=Bun.mk (f:=199) (rs:=[.tmp 2]) (ts:=[142]) Tryz.func199 rfl rfl rfl (by kernel_rfl) (by kernel_rfl) zCS
def zIB:=Bun.mk (f:=200) (rs:=[.tmp 4]) (ts:=[4]) Tryz.func200 rfl rfl rfl (by kernel_rfl) (by kernel_rfl) zCT
def zIC:=Bun.mk (f:=208) (rs:=[.tmp 4,.tmp 5]) (ts:=[90,90]) Tryz.func208 rfl rfl rfl (by kernel_rfl) (by kernel_rfl) zCU
def zID:=Bun.mk (f:=209) (rs:=[.tmp 2]) (ts:=[2]) Tryz.func209 rfl rfl rfl (by kernel_rfl) (by kernel_rfl) zCV
def zIE:=Bun.mk (f:=210) (rs:=[.tmp 4]) (ts:=[142]) Tryz.func210 rfl rfl rfl (by kernel_rfl) (by kernel_rfl) zCW
def zDe:=Bun.mk (f:=211) (rs:=[.tmp 4]) (ts:=[142]) Tryz.func211 rfl rfl rfl (by kernel_rfl) (by kernel_rfl) zCX
def zAZ:=Bun.mk (f:=212) (rs:=[.tmp 4]) (ts:=[142]) Tryz.func212 rfl rfl rfl (by kernel_rfl) (by kernel_rfl) zCY
def zGF:=Bun.mk (f:=213) (rs:=[]) (ts:=[]) Tryz.func213 rfl rfl rfl (by kernel_rfl) (by kernel_rfl) zCZ
def zEy:=Bun.mk (f:=214) (rs:=[.tmp 4,.tmp 5,.tmp 6]) (ts:=[143,30,31]) Tryz.func214 rfl rfl rfl (by kernel_rfl) (by kernel_rfl) zC0
def zHr:=Bun.mk (f:=217) (rs:=[.tmp 2]) (ts:=[90]) Tryz.func217 rfl rfl rfl (by kernel_rfl) (by kernel_rfl) zC1
def zHs:=Bun.mk (f:=218) (rs:=[.tmp 4]) (ts:=[142]) Tryz.func218 rfl rfl rfl (by kernel_rfl) (by kernel_rfl) zC2
def zEz:=Bun.mk (f:=219) (rs:=[.tmp 6]) (ts:=[156]) Tryz.func219 rfl rfl rfl (by kernel_rfl) (by kernel_rfl) zC3
attribute [simp] zaq nI wI
end Go.Am.Ab
