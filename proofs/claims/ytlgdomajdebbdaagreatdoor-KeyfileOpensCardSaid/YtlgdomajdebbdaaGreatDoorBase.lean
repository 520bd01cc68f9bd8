/- Facts on the types of the program, what loops keep, numbers. -/
import Derived.Test.YtlgdomajdebbdaaGreatDoorProg
import Derived.KernelRfl
import Derived.Test.YtlgdomajdebbdaaGreatDoorMachD
set_option linter.all false
--  36 catchment/colfile.Write no liveness: code rangeFunc
--  42 catchment/colfile.Open no liveness: code rangeFunc
--  43 (*catchment/colfile.File).Find no liveness: code rangeFunc
--  99 catchment/pred.May loud pairs [(17,6,7)]
--  101 catchment/catchmentref09.May loud pairs [(9,7,8),(26,6,7)]
/- Facts on the types of this program,and what each loop zno. Printed by seat.py. -/
namespace Go.Am.Ab
open Go.Proofs
attribute [simp] Tryz.underlying0 Tryz.underlying2 Tryz.underlying3 Tryz.underlying4 Tryz.underlying5 Tryz.underlying9 Tryz.underlying20 Tryz.underlying21 Tryz.underlying22 Tryz.underlying24 Tryz.underlying25 Tryz.underlying26 Tryz.underlying28 Tryz.underlying29 Tryz.underlying31 Tryz.underlying35 Tryz.underlying37 Tryz.underlying38 Tryz.underlying44 Tryz.underlying46 Tryz.underlying47 Tryz.underlying50 Tryz.underlying56 Tryz.underlying59 Tryz.underlying60 Tryz.underlying61 Tryz.underlying62 Tryz.underlying63 Tryz.underlying67 Tryz.underlying71 Tryz.underlying72 Tryz.underlying73 Tryz.underlying76 Tryz.underlying78 Tryz.underlying79 Tryz.underlying81 Tryz.underlying83 Tryz.underlying89 Tryz.underlying95 Tryz.underlying96 Tryz.underlying99 Tryz.underlying100 Tryz.underlying101 Tryz.underlying109 Tryz.underlying111 Tryz.underlying113 Tryz.underlying114 Tryz.underlying116 Tryz.underlying119 Tryz.underlying120 Tryz.underlying126 Tryz.underlying128 Tryz.underlying133 Tryz.underlying134 Tryz.underlying140 Tryz.underlying146 Tryz.underlying148 Tryz.underlying149 Tryz.underlying150 Tryz.underlying151 Tryz.underlying153 Tryz.underlying155 Tryz.underlying164 Tryz.underlying165 Tryz.underlying168 Tryz.underlying178 Tryz.underlying179 Tryz.underlying180 Tryz.underlying181 Tryz.underlying182 Tryz.underlying188 Tryz.underlying191 Tryz.underlying193 Tryz.underlying195 Tryz.underlying198 Tryz.underlying199 Tryz.underlying201 Tryz.underlying204 Tryz.underlying206 Tryz.underlying207 Tryz.underlying208 Tryz.underlying212 Tryz.underlying213 Tryz.underlying215 Tryz.underlying221 Tryz.underlying225 Tryz.underlying226 Tryz.underlying238 Tryz.underlying239 Tryz.underlying244 Tryz.underlying246 Tryz.underlying247 Tryz.underlying248 Tryz.underlying250 Tryz.underlying252 Tryz.underlying257 Tryz.underlying258 Tryz.underlying260 Tryz.underlying261 Tryz.underlying262 Tryz.underlying265 Tryz.underlying267 Tryz.underlying273 Tryz.underlying275 Tryz.underlying278 Tryz.underlying280 Tryz.underlying282 Tryz.underlying286 Tryz.underlying288 Tryz.underlying289 Tryz.underlying298 Tryz.underlying300 Tryz.underlying302 Tryz.underlying303 Tryz.underlying304 Tryz.underlying307 Tryz.underlying309
@[simp] def sz2:sizeOf? Tryz.prog 2=some 1:=by kernel_rfl
@[simp] def zs2:zeroVs? Tryz.prog 2=some [.d (.int .i64 0)]:=by kernel_rfl
@[simp] def al2 (h:List Am.Obj):zew Tryz.prog h 2=some (.ptr h.length 0,h++[.box [.d (.int .i64 0)]]):=zdZ zs2
@[simp] def zs3:zeroVs? Tryz.prog 3=some [.d (.int .i64 0)]:=by kernel_rfl
@[simp] def al3 (h:List Am.Obj):zew Tryz.prog h 3=some (.ptr h.length 0,h++[.box [.d (.int .i64 0)]]):=zdZ zs3
@[simp] def zs9:zeroVs? Tryz.prog 9=some [.d (.str ⟨#[]⟩)]:=by kernel_rfl
@[simp] def al9 (h:List Am.Obj):zew Tryz.prog h 9=some (.ptr h.length 0,h++[.box [.d (.str ⟨#[]⟩)]]):=zdZ zs9
@[simp] def sz0:sizeOf? Tryz.prog 0=some 1/\agg? Tryz.prog 0=some false/\agg? Tryz.prog 2=some false/\(zero? Tryz.prog 2).isSome=true/\appElem? Tryz.prog 2=some 1/\makeElem? Tryz.prog 2=some (1,.int .i64 0)/\zeroD? Tryz.prog 2=some (.int .i64 0)/\sizeOf? Tryz.prog 3=some 1/\agg? Tryz.prog 3=some false/\sizeOf? Tryz.prog 4=some 1/\agg? Tryz.prog 4=some false/\zeroVs? Tryz.prog 4=some [.d (.bool false)]/\(zero? Tryz.prog 4).isSome=true/\appElem? Tryz.prog 4=some 1/\makeElem? Tryz.prog 4=some (1,.bool false)/\zeroD? Tryz.prog 4=some (.bool false)/\sizeOf? Tryz.prog 5=some 1/\agg? Tryz.prog 5=some false/\zeroVs? Tryz.prog 5=some [.d (.int .u8 0)]/\(zero? Tryz.prog 5).isSome=true/\appElem? Tryz.prog 5=some 1/\makeElem? Tryz.prog 5=some (1,.int .u8 0)/\zeroD? Tryz.prog 5=some (.int .u8 0)/\sizeOf? Tryz.prog 9=some 1/\agg? Tryz.prog 9=some false/\(zero? Tryz.prog 9).isSome=true/\appElem? Tryz.prog 9=some 1/\zeroD? Tryz.prog 9=some (.str ⟨#[]⟩)/\sizeOf? Tryz.prog 20=some 1/\agg? Tryz.prog 20=some false/\sizeOf? Tryz.prog 21=some 1/\agg? Tryz.prog 21=some false/\sizeOf? Tryz.prog 22=some 1/\agg? Tryz.prog 22=some false/\zbi Tryz.prog 22=3/\sizeOf? Tryz.prog 24=some 1/\agg? Tryz.prog 24=some false/\zbi Tryz.prog 24=1/\sizeOf? Tryz.prog 25=some 1/\agg? Tryz.prog 25=some false/\sizeOf? Tryz.prog 26=some 1/\agg? Tryz.prog 26=some false/\sizeOf? Tryz.prog 28=some 1/\agg? Tryz.prog 28=some false/\sizeOf? Tryz.prog 29=some 1/\agg? Tryz.prog 29=some false/\zbi Tryz.prog 29=1/\sizeOf? Tryz.prog 31=some 1/\agg? Tryz.prog 31=some false/\sizeOf? Tryz.prog 35=some 1/\agg? Tryz.prog 35=some false/\sizeOf? Tryz.prog 37=some 1/\agg? Tryz.prog 37=some false/\sizeOf? Tryz.prog 38=some 1/\agg? Tryz.prog 38=some false/\sizeOf? Tryz.prog 44=some 1/\agg? Tryz.prog 44=some false/\zeroVs? Tryz.prog 44=some [.d .nilI]/\(zero? Tryz.prog 44).isSome=true/\appElem? Tryz.prog 44=some 1:=by and_intros<;>kernel_rfl
@[simp] def zFm (parts:List (Nat × V)):zbc Tryz.prog 46 parts=(zb0 (λi=>[(0,1),(1,1),(2,1)][i]?) [.d (.int .u8 0),.d (.int .i64 0),.d (.str ⟨#[]⟩)] parts).map zbZ:=zal (by kernel_rfl) (by kernel_rfl)
@[simp] def zDL:zeroVs? Tryz.prog 47=some [.d (.int .u8 0),.d (.int .i64 0),.d (.str ⟨#[]⟩)]:=by kernel_rfl
@[simp] def zFn (h:List Am.Obj):zew Tryz.prog h 47=some (.ptr h.length 0,h++[.box [.d (.int .u8 0),.d (.int .i64 0),.d (.str ⟨#[]⟩)]]):=zdZ zDL
@[simp] def zFo (parts:List (Nat × V)):zbc Tryz.prog 47 parts=(zb0 (λi=>[(0,1),(1,1),(2,1)][i]?) [.d (.int .u8 0),.d (.int .i64 0),.d (.str ⟨#[]⟩)] parts).map zbZ:=zal (by kernel_rfl) (by kernel_rfl)
@[simp] def zFp (parts:List (Nat × V)):zbc Tryz.prog 61 parts=(zb0 (λi=>[(0,1),(1,1)][i]?) [.d (.int .u32 0),.nilS] parts).map zbZ:=zal (by kernel_rfl) (by kernel_rfl)
@[simp] def zFq (parts:List (Nat × V)):zbc Tryz.prog 62 parts=(zb0 (λi=>[(0,1),(1,1)][i]?) [.d (.int .u32 0),.nilS] parts).map zbZ:=zal (by kernel_rfl) (by kernel_rfl)
@[simp] def zFr (parts:List (Nat × V)):zbc Tryz.prog 72 parts=(zb0 (λi=>[(0,1),(1,1),(2,3),(5,1)][i]?) [.d (.int .u8 0),.d (.int .u32 0),.d (.int .u8 0),.d (.int .i64 0),.d (.str ⟨#[]⟩),.nilS] parts).map zbZ:=zal (by kernel_rfl) (by kernel_rfl)
@[simp] def zFs (parts:List (Nat × V)):zbc Tryz.prog 73 parts=(zb0 (λi=>[(0,1),(1,1),(2,3),(5,1)][i]?) [.d (.int .u8 0),.d (.int .u32 0),.d (.int .u8 0),.d (.int .i64 0),.d (.str ⟨#[]⟩),.nilS] parts).map zbZ:=zal (by kernel_rfl) (by kernel_rfl)
@[simp] def zFt:makeElem? Tryz.prog 44=some (1,.nilI)/\zeroD? Tryz.prog 44=some (.nilI)/\sizeOf? Tryz.prog 46=some 3/\agg? Tryz.prog 46=some true/\fieldOff? Tryz.prog 46 0=some (0,28)/\fieldOff? Tryz.prog 46 1=some (1,2)/\fieldOff? Tryz.prog 46 2=some (2,9)/\zdo Tryz.prog 46=some [(0,0),(1,0),(2,2)]/\sizeOf? Tryz.prog 47=some 3/\agg? Tryz.prog 47=some true/\(zero? Tryz.prog 47).isSome=true/\appElem? Tryz.prog 47=some 3/\fieldOff? Tryz.prog 47 0=some (0,28)/\fieldOff? Tryz.prog 47 1=some (1,2)/\fieldOff? Tryz.prog 47 2=some (2,9)/\zdo Tryz.prog 47=some [(0,0),(1,0),(2,2)]/\zeroD? Tryz.prog 47=some (.agg [.int .u8 0,.int .i64 0,.str ⟨#[]⟩])/\sizeOf? Tryz.prog 50=some 1/\agg? Tryz.prog 50=some false/\sizeOf? Tryz.prog 56=some 1/\agg? Tryz.prog 56=some false/\sizeOf? Tryz.prog 59=some 1/\agg? Tryz.prog 59=some false/\sizeOf? Tryz.prog 60=some 1/\agg? Tryz.prog 60=some false/\zbi Tryz.prog 60=4/\sizeOf? Tryz.prog 61=some 2/\agg? Tryz.prog 61=some true/\fieldOff? Tryz.prog 61 0=some (0,59)/\fieldOff? Tryz.prog 61 1=some (1,60)/\sizeOf? Tryz.prog 62=some 2/\agg? Tryz.prog 62=some true/\fieldOff? Tryz.prog 62 0=some (0,59)/\fieldOff? Tryz.prog 62 1=some (1,60)/\sizeOf? Tryz.prog 63=some 1/\agg? Tryz.prog 63=some false/\zbi Tryz.prog 63=1/\sizeOf? Tryz.prog 67=some 1/\agg? Tryz.prog 67=some false/\zbi Tryz.prog 67=1/\sizeOf? Tryz.prog 71=some 1/\agg? Tryz.prog 71=some false/\zbi Tryz.prog 71=6/\sizeOf? Tryz.prog 72=some 6/\agg? Tryz.prog 72=some true/\fieldOff? Tryz.prog 72 0=some (0,5)/\fieldOff? Tryz.prog 72 1=some (1,59)/\fieldOff? Tryz.prog 72 2=some (2,47)/\fieldOff? Tryz.prog 72 3=some (5,71)/\sizeOf? Tryz.prog 73=some 6/\agg? Tryz.prog 73=some true/\fieldOff? Tryz.prog 73 0=some (0,5)/\fieldOff? Tryz.prog 73 1=some (1,59)/\fieldOff? Tryz.prog 73 2=some (2,47)/\fieldOff? Tryz.prog 73 3=some (5,71)/\sizeOf? Tryz.prog 76=some 1/\agg? Tryz.prog 76=some false/\sizeOf? Tryz.prog 78=some 1/\agg? Tryz.prog 78=some false/\sizeOf? Tryz.prog 79=some 1:=by and_intros<;>kernel_rfl
@[simp] def zFu (parts:List (Nat × V)):zbc Tryz.prog 95 parts=(zb0 (λi=>[(0,1),(1,1),(2,1),(3,1)][i]?) [.d (.int .u32 0),.d (.str ⟨#[]⟩),.d (.int .u8 0),.d (.bool false)] parts).map zbZ:=zal (by kernel_rfl) (by kernel_rfl)
@[simp] def zFv (parts:List (Nat × V)):zbc Tryz.prog 96 parts=(zb0 (λi=>[(0,1),(1,1),(2,1),(3,1)][i]?) [.d (.int .u32 0),.d (.str ⟨#[]⟩),.d (.int .u8 0),.d (.bool false)] parts).map zbZ:=zal (by kernel_rfl) (by kernel_rfl)
@[simp] def zFw (parts:List (Nat × V)):zbc Tryz.prog 99 parts=(zb0 (λi=>[(0,1),(1,1),(2,1),(3,1),(4,3),(7,3)][i]?) [.d (.int .i64 0),.d (.int .i64 0),.d (.bool false),.d (.bool false),.d (.int .u8 0),.d (.int .i64 0),.d (.str ⟨#[]⟩),.d (.int .u8 0),.d (.int .i64 0),.d (.str ⟨#[]⟩)] parts).map zbZ:=zal (by kernel_rfl) (by kernel_rfl)
@[simp] def zDM (parts:List (Nat × V)):zbc Tryz.prog 100 parts=(zb0 (λi=>[(0,1),(1,1),(2,1),(3,1),(4,3),(7,3)][i]?) [.d (.int .i64 0),.d (.int .i64 0),.d (.bool false),.d (.bool false),.d (.int .u8 0),.d (.int .i64 0),.d (.str ⟨#[]⟩),.d (.int .u8 0),.d (.int .i64 0),.d (.str ⟨#[]⟩)] parts).map zbZ:=zal (by kernel_rfl) (by kernel_rfl)
@[simp] def zDN (parts:List (Nat × V)):zbc Tryz.prog 119 parts=(zb0 (λi=>[(0,1),(1,1)][i]?) [.d (.int .u8 0),.nilS] parts).map zbZ:=zal (by kernel_rfl) (by kernel_rfl)
@[simp] def zFx:agg? Tryz.prog 79=some false/\sizeOf? Tryz.prog 81=some 1/\agg? Tryz.prog 81=some false/\sizeOf? Tryz.prog 83=some 1/\agg? Tryz.prog 83=some false/\sizeOf? Tryz.prog 89=some 1/\agg? Tryz.prog 89=some false/\sizeOf? Tryz.prog 95=some 4/\agg? Tryz.prog 95=some true/\fieldOff? Tryz.prog 95 0=some (0,59)/\fieldOff? Tryz.prog 95 1=some (1,9)/\fieldOff? Tryz.prog 95 2=some (2,28)/\fieldOff? Tryz.prog 95 3=some (3,4)/\zdo Tryz.prog 95=some [(0,0),(1,2),(2,0),(3,1)]/\sizeOf? Tryz.prog 96=some 4/\agg? Tryz.prog 96=some true/\fieldOff? Tryz.prog 96 0=some (0,59)/\fieldOff? Tryz.prog 96 1=some (1,9)/\fieldOff? Tryz.prog 96 2=some (2,28)/\fieldOff? Tryz.prog 96 3=some (3,4)/\zdo Tryz.prog 96=some [(0,0),(1,2),(2,0),(3,1)]/\sizeOf? Tryz.prog 99=some 10/\agg? Tryz.prog 99=some true/\fieldOff? Tryz.prog 99 0=some (0,3)/\fieldOff? Tryz.prog 99 1=some (1,3)/\fieldOff? Tryz.prog 99 2=some (2,4)/\fieldOff? Tryz.prog 99 3=some (3,4)/\fieldOff? Tryz.prog 99 4=some (4,47)/\fieldOff? Tryz.prog 99 5=some (7,47)/\sizeOf? Tryz.prog 100=some 10/\agg? Tryz.prog 100=some true/\fieldOff? Tryz.prog 100 0=some (0,3)/\fieldOff? Tryz.prog 100 1=some (1,3)/\fieldOff? Tryz.prog 100 2=some (2,4)/\fieldOff? Tryz.prog 100 3=some (3,4)/\fieldOff? Tryz.prog 100 4=some (4,47)/\fieldOff? Tryz.prog 100 5=some (7,47)/\sizeOf? Tryz.prog 101=some 1/\agg? Tryz.prog 101=some false/\sizeOf? Tryz.prog 109=some 1/\agg? Tryz.prog 109=some false/\sizeOf? Tryz.prog 111=some 1/\agg? Tryz.prog 111=some false/\sizeOf? Tryz.prog 113=some 1/\agg? Tryz.prog 113=some false/\zeroVs? Tryz.prog 113=some [.d (.int .u64 0)]/\(zero? Tryz.prog 113).isSome=true/\appElem? Tryz.prog 113=some 1/\makeElem? Tryz.prog 113=some (1,.int .u64 0)/\zeroD? Tryz.prog 113=some (.int .u64 0)/\sizeOf? Tryz.prog 114=some 1/\agg? Tryz.prog 114=some false/\sizeOf? Tryz.prog 116=some 1/\agg? Tryz.prog 116=some false/\sizeOf? Tryz.prog 119=some 2/\agg? Tryz.prog 119=some true/\fieldOff? Tryz.prog 119 0=some (0,28)/\fieldOff? Tryz.prog 119 1=some (1,29)/\sizeOf? Tryz.prog 120=some 2/\agg? Tryz.prog 120=some true:=by and_intros<;>kernel_rfl
@[simp] def zDO (parts:List (Nat × V)):zbc Tryz.prog 120 parts=(zb0 (λi=>[(0,1),(1,1)][i]?) [.d (.int .u8 0),.nilS] parts).map zbZ:=zal (by kernel_rfl) (by kernel_rfl)
@[simp] def zDP (parts:List (Nat × V)):zbc Tryz.prog 149 parts=(zb0 (λi=>[(0,2),(2,1),(3,1),(4,1)][i]?) [.d (.int .u32 0),.nilS,.nilS,.d (.int .i64 0),.nilS] parts).map zbZ:=zal (by kernel_rfl) (by kernel_rfl)
@[simp] def zDQ (parts:List (Nat × V)):zbc Tryz.prog 150 parts=(zb0 (λi=>[(0,2),(2,1),(3,1),(4,1)][i]?) [.d (.int .u32 0),.nilS,.nilS,.d (.int .i64 0),.nilS] parts).map zbZ:=zal (by kernel_rfl) (by kernel_rfl)
@[simp] def zDR (parts:List (Nat × V)):zbc Tryz.prog 153 parts=(zb0 (λi=>some (i*1,1)) [.d (.bool false),.d (.bool false),.d (.bool false)] parts).map zbZ:=zeK (by kernel_rfl) Tryz.underlying153 (by kernel_rfl)
@[simp] def zDS:zeroVs? Tryz.prog 120=some [.d (.int .u8 0),.nilS]/\fieldOff? Tryz.prog 120 0=some (0,28)/\fieldOff? Tryz.prog 120 1=some (1,29)/\sizeOf? Tryz.prog 126=some 1/\agg? Tryz.prog 126=some false/\sizeOf? Tryz.prog 128=some 1/\agg? Tryz.prog 128=some false/\sizeOf? Tryz.prog 133=some 1/\agg? Tryz.prog 133=some false/\sizeOf? Tryz.prog 134=some 1/\agg? Tryz.prog 134=some false/\sizeOf? Tryz.prog 140=some 1/\agg? Tryz.prog 140=some false/\zbi Tryz.prog 140=1/\sizeOf? Tryz.prog 146=some 1/\agg? Tryz.prog 146=some false/\sizeOf? Tryz.prog 148=some 1/\agg? Tryz.prog 148=some false/\zbi Tryz.prog 148=1/\sizeOf? Tryz.prog 149=some 5/\agg? Tryz.prog 149=some true/\fieldOff? Tryz.prog 149 0=some (0,62)/\fieldOff? Tryz.prog 149 1=some (2,67)/\fieldOff? Tryz.prog 149 2=some (3,3)/\fieldOff? Tryz.prog 149 3=some (4,148)/\sizeOf? Tryz.prog 150=some 5/\agg? Tryz.prog 150=some true/\fieldOff? Tryz.prog 150 0=some (0,62)/\fieldOff? Tryz.prog 150 1=some (2,67)/\fieldOff? Tryz.prog 150 2=some (3,3)/\fieldOff? Tryz.prog 150 3=some (4,148)/\sizeOf? Tryz.prog 151=some 1/\agg? Tryz.prog 151=some false/\zbi Tryz.prog 151=10/\sizeOf? Tryz.prog 153=some 3/\agg? Tryz.prog 153=some true/\sizeOf? Tryz.prog 155=some 1/\agg? Tryz.prog 155=some false/\sizeOf? Tryz.prog 164=some 1/\agg? Tryz.prog 164=some false/\zbi Tryz.prog 164=1/\sizeOf? Tryz.prog 165=some 1/\agg? Tryz.prog 165=some false/\sizeOf? Tryz.prog 168=some 1/\agg? Tryz.prog 168=some false/\sizeOf? Tryz.prog 178=some 1/\agg? Tryz.prog 178=some false/\zbi Tryz.prog 178=1/\sizeOf? Tryz.prog 179=some 1/\agg? Tryz.prog 179=some false/\zbi Tryz.prog 179=1/\sizeOf? Tryz.prog 180=some 1/\agg? Tryz.prog 180=some false/\zbi Tryz.prog 180=1/\sizeOf? Tryz.prog 181=some 1/\agg? Tryz.prog 181=some false/\sizeOf? Tryz.prog 182=some 1/\agg? Tryz.prog 182=some false/\sizeOf? Tryz.prog 188=some 1/\agg? Tryz.prog 188=some false:=by and_intros<;>kernel_rfl
@[simp] def zDT (parts:List (Nat × V)):zbc Tryz.prog 207 parts=(zb0 (λi=>[(0,1),(1,1)][i]?) [.nilS,.d (.bool false)] parts).map zbZ:=zal (by kernel_rfl) (by kernel_rfl)
@[simp] def zDU (parts:List (Nat × V)):zbc Tryz.prog 208 parts=(zb0 (λi=>[(0,1),(1,1)][i]?) [.nilS,.d (.bool false)] parts).map zbZ:=zal (by kernel_rfl) (by kernel_rfl)
@[simp] def zDV (parts:List (Nat × V)):zbc Tryz.prog 247 parts=(zb0 (λi=>[(0,1),(1,1)][i]?) [.nilS,.d (.int .i64 0)] parts).map zbZ:=zal (by kernel_rfl) (by kernel_rfl)
@[simp] def zDW (parts:List (Nat × V)):zbc Tryz.prog 248 parts=(zb0 (λi=>[(0,1),(1,1)][i]?) [.nilS,.d (.int .i64 0)] parts).map zbZ:=zal (by kernel_rfl) (by kernel_rfl)
@[simp] def zDX:zbi Tryz.prog 188=1/\sizeOf? Tryz.prog 191=some 1/\agg? Tryz.prog 191=some false/\sizeOf? Tryz.prog 193=some 1/\agg? Tryz.prog 193=some false/\sizeOf? Tryz.prog 195=some 1/\agg? Tryz.prog 195=some false/\sizeOf? Tryz.prog 198=some 1/\agg? Tryz.prog 198=some false/\sizeOf? Tryz.prog 199=some 1/\agg? Tryz.prog 199=some false/\sizeOf? Tryz.prog 201=some 1/\agg? Tryz.prog 201=some false/\sizeOf? Tryz.prog 204=some 1/\agg? Tryz.prog 204=some false/\sizeOf? Tryz.prog 206=some 1/\agg? Tryz.prog 206=some false/\sizeOf? Tryz.prog 207=some 2/\agg? Tryz.prog 207=some true/\fieldOff? Tryz.prog 207 0=some (0,24)/\fieldOff? Tryz.prog 207 1=some (1,4)/\sizeOf? Tryz.prog 208=some 2/\agg? Tryz.prog 208=some true/\fieldOff? Tryz.prog 208 0=some (0,24)/\fieldOff? Tryz.prog 208 1=some (1,4)/\sizeOf? Tryz.prog 212=some 1/\agg? Tryz.prog 212=some false/\sizeOf? Tryz.prog 213=some 1/\agg? Tryz.prog 213=some false/\sizeOf? Tryz.prog 215=some 1/\agg? Tryz.prog 215=some false/\sizeOf? Tryz.prog 221=some 1/\agg? Tryz.prog 221=some false/\sizeOf? Tryz.prog 225=some 1/\agg? Tryz.prog 225=some false/\sizeOf? Tryz.prog 226=some 1/\agg? Tryz.prog 226=some false/\sizeOf? Tryz.prog 238=some 1/\agg? Tryz.prog 238=some false/\sizeOf? Tryz.prog 239=some 1/\agg? Tryz.prog 239=some false/\sizeOf? Tryz.prog 244=some 1/\agg? Tryz.prog 244=some false/\sizeOf? Tryz.prog 246=some 1/\agg? Tryz.prog 246=some false/\sizeOf? Tryz.prog 247=some 2/\agg? Tryz.prog 247=some true/\fieldOff? Tryz.prog 247 0=some (0,24)/\fieldOff? Tryz.prog 247 1=some (1,3)/\sizeOf? Tryz.prog 248=some 2/\agg? Tryz.prog 248=some true/\zeroVs? Tryz.prog 248=some [.nilS,.d (.int .i64 0)]/\fieldOff? Tryz.prog 248 0=some (0,24)/\fieldOff? Tryz.prog 248 1=some (1,3)/\sizeOf? Tryz.prog 250=some 1/\agg? Tryz.prog 250=some false/\sizeOf? Tryz.prog 252=some 1/\agg? Tryz.prog 252=some false/\sizeOf? Tryz.prog 257=some 1/\agg? Tryz.prog 257=some false:=by and_intros<;>kernel_rfl
@[simp] def zDY (parts:List (Nat × V)):zbc Tryz.prog 261 parts=(zb0 (λi=>[(0,1),(1,1)][i]?) [.nilS,.d (.int .i64 0)] parts).map zbZ:=zal (by kernel_rfl) (by kernel_rfl)
@[simp] def zDZ (parts:List (Nat × V)):zbc Tryz.prog 262 parts=(zb0 (λi=>[(0,1),(1,1)][i]?) [.nilS,.d (.int .i64 0)] parts).map zbZ:=zal (by kernel_rfl) (by kernel_rfl)
@[simp] def zBP:zeroVs? Tryz.prog 267=some [.d (.int .u64 0)]:=by kernel_rfl
@[simp] def zD0 (h:List Am.Obj):zew Tryz.prog h 267=some (.ptr h.length 0,h++[.box [.d (.int .u64 0)]]):=zdZ zBP
@[simp] def zBQ:zeroVs? Tryz.prog 273=some [.d .nilF,.d .nilF,.d .nilF,.d .nilF,.d .nilF]:=by kernel_rfl
@[simp] def zD1 (h:List Am.Obj):zew Tryz.prog h 273=some (.ptr h.length 0,h++[.box [.d .nilF,.d .nilF,.d .nilF,.d .nilF,.d .nilF]]):=zdZ zBQ
@[simp] def zD2 (parts:List (Nat × V)):zbc Tryz.prog 273 parts=(zb0 (λi=>some (i*1,1)) [.d .nilF,.d .nilF,.d .nilF,.d .nilF,.d .nilF] parts).map zbZ:=zeK (by kernel_rfl) Tryz.underlying273 (by kernel_rfl)
@[simp] def zD3 (parts:List (Nat × V)):zbc Tryz.prog 275 parts=(zb0 (λi=>some (i*1,1)) [.d (.int .u32 0),.d (.int .u32 0),.d (.int .u32 0),.d (.int .u32 0),.d (.int .u32 0),.d (.int .u32 0),.d (.int .u32 0),.d (.int .u32 0),.d (.int .u32 0),.d (.int .u32 0),.d (.int .u32 0),.d (.int .u32 0),.d (.int .u32 0),.d (.int .u32 0),.d (.int .u32 0),.d (.int .u32 0)] parts).map zbZ:=zeK (by kernel_rfl) Tryz.underlying275 (by kernel_rfl)
@[simp] def zD4 (parts:List (Nat × V)):zbc Tryz.prog 303 parts=(zb0 (λi=>[(0,1),(1,1)][i]?) [.nilS,.d (.int .i64 0)] parts).map zbZ:=zal (by kernel_rfl) (by kernel_rfl)
@[simp] def zD5 (parts:List (Nat × V)):zbc Tryz.prog 304 parts=(zb0 (λi=>[(0,1),(1,1)][i]?) [.nilS,.d (.int .i64 0)] parts).map zbZ:=zal (by kernel_rfl) (by kernel_rfl)
@[simp] def zD6:zbi Tryz.prog 257=1/\sizeOf? Tryz.prog 258=some 1/\agg? Tryz.prog 258=some false/\sizeOf? Tryz.prog 260=some 1/\agg? Tryz.prog 260=some false/\sizeOf? Tryz.prog 261=some 2/\agg? Tryz.prog 261=some true/\fieldOff? Tryz.prog 261 0=some (0,24)/\fieldOff? Tryz.prog 261 1=some (1,25)/\sizeOf? Tryz.prog 262=some 2/\agg? Tryz.prog 262=some true/\fieldOff? Tryz.prog 262 0=some (0,24)/\fieldOff? Tryz.prog 262 1=some (1,25)/\sizeOf? Tryz.prog 265=some 1/\agg? Tryz.prog 265=some false/\sizeOf? Tryz.prog 267=some 1/\agg? Tryz.prog 267=some false/\sizeOf? Tryz.prog 273=some 5/\agg? Tryz.prog 273=some true/\sizeOf? Tryz.prog 275=some 16/\agg? Tryz.prog 275=some true/\sizeOf? Tryz.prog 278=some 1/\agg? Tryz.prog 278=some false/\sizeOf? Tryz.prog 280=some 1/\agg? Tryz.prog 280=some false/\sizeOf? Tryz.prog 282=some 1/\agg? Tryz.prog 282=some false/\sizeOf? Tryz.prog 286=some 1/\agg? Tryz.prog 286=some false/\sizeOf? Tryz.prog 288=some 1/\agg? Tryz.prog 288=some false/\sizeOf? Tryz.prog 289=some 1/\agg? Tryz.prog 289=some false/\sizeOf? Tryz.prog 298=some 1/\agg? Tryz.prog 298=some false/\sizeOf? Tryz.prog 300=some 1/\agg? Tryz.prog 300=some false/\sizeOf? Tryz.prog 302=some 1/\agg? Tryz.prog 302=some false/\sizeOf? Tryz.prog 303=some 2/\agg? Tryz.prog 303=some true/\fieldOff? Tryz.prog 303 0=some (0,24)/\fieldOff? Tryz.prog 303 1=some (1,25)/\sizeOf? Tryz.prog 304=some 2/\agg? Tryz.prog 304=some true/\zeroVs? Tryz.prog 304=some [.nilS,.d (.int .i64 0)]/\fieldOff? Tryz.prog 304 0=some (0,24)/\fieldOff? Tryz.prog 304 1=some (1,25)/\sizeOf? Tryz.prog 307=some 1/\agg? Tryz.prog 307=some false/\sizeOf? Tryz.prog 309=some 1/\agg? Tryz.prog 309=some false:=by and_intros<;>kernel_rfl
def K:zh8:=λf b=>match f,b with
 |5,0=>some [(6,0),(8,0),(10,0),(12,0),(13,0)]
 |5,2=>some [(6,0),(8,0),(10,0),(14,0)]
 |6,0=>some [(5,0),(7,0),(8,0),(9,0),(11,0),(13,0),(14,0)]
 |6,2=>some [(5,0),(7,0),(8,0),(9,0),(11,0),(13,0),(15,3),(16,0)]
 |15,0=>some [(0,0),(1,0),(17,0),(18,0),(19,0)]
 |17,0=>some [(0,0),(1,0),(6,0)]
 |21,0=>some [(0,0),(1,0),(5,0)]
 |22,0=>some [(0,0),(3,3),(4,0)]
 |24,0=>some [(0,0),(3,3),(4,0)]
 |24,2=>some [(0,0),(3,3),(4,0),(5,3),(6,0),(7,0)]
 |30,0=>some [(0,0),(3,0),(5,0)]
 |31,0=>some [(3,1),(4,0),(5,0)]
 |62,0=>some [(0,0),(1,0),(5,0)]
 |62,2=>some [(0,0),(1,0),(5,0),(6,0),(7,0)]
 |64,0=>some [(0,0),(1,0),(26,0),(27,0),(28,0)]
 |64,2=>some [(0,0),(8,0),(9,1),(10,1),(11,1),(47,0),(48,0),(49,0)]
 |65,0=>some [(0,0),(3,1)]
 |67,0=>some [(0,0),(1,0),(6,0)]
 |67,2=>some [(0,0),(1,0),(8,1),(9,1),(10,1),(11,1),(12,0),(13,0)]
 |67,4=>some [(11,1),(15,0),(18,0),(19,1),(20,0)]
 |67,6=>some [(11,1),(15,0),(18,0),(19,1),(20,0),(21,0)]
 |70,0=>some [(5,0),(8,0),(9,0),(10,0)]
 |72,0=>some [(0,0),(1,0),(12,0),(13,0)]
 |75,0=>some [(0,0),(1,0),(2,0),(7,0),(8,0)]
 |79,0=>some [(0,0),(1,0),(5,0)]
 |79,2=>some [(0,0),(1,0),(5,0),(6,0)]
 |80,0=>some [(0,0),(5,0)]
 |80,2=>some [(0,0),(5,0),(6,0),(7,0)]
 |81,0=>some [(0,0),(1,0),(2,0),(8,1),(9,0)]
 |81,2=>some [(0,0),(1,0),(2,0),(8,1),(10,0),(13,0),(14,0)]
 |81,5=>some [(0,0),(1,0),(2,0),(8,1),(15,3),(22,0),(24,0)]
 |81,7=>some [(0,0),(1,0),(2,0),(8,1),(15,3),(16,0),(18,0)]
 |81,9=>some [(0,0),(1,0),(2,0),(8,1),(15,3),(19,0),(21,0)]
 |81,11=>some [(0,0),(1,0),(2,0),(8,1),(15,3),(25,3),(26,0),(27,0)]
 |114,0=>some [(0,0),(1,0),(2,0),(3,0),(4,0),(10,0),(11,0)]
 |123,0=>some [(3,0),(11,0),(12,0),(13,0)]
 |124,0=>some [(0,0),(4,1),(11,0)]
 |125,0=>some [(0,0),(3,0),(4,0),(5,1),(20,0),(21,0),(22,0)]
 |129,0=>some [(0,0),(4,1),(5,0)]
 |130,0=>some [(0,0),(3,1),(4,0)]
 |130,2=>some [(0,0),(3,1),(4,0),(5,1),(6,0),(7,0)]
 |131,0=>some [(0,0),(3,1),(4,1),(5,0)]
 |132,0=>some [(0,0),(1,0),(2,0),(9,0),(12,0),(56,0),(57,0),(58,0)]
 |132,2=>some [(1000015,0),(17,0),(79,0),(80,0),(81,0)]
 |133,0=>some [(0,0),(1,0),(2,0),(8,1),(9,0)]
 |133,2=>some [(0,0),(1,0),(2,0),(8,1),(9,0),(10,0),(11,0)]
 |133,4=>some [(0,0),(8,1),(13,0)]
 |135,0=>some [(13,0),(14,0),(15,0),(16,1),(17,0)]
 |162,0=>some [(0,0),(1,0),(2,0),(3,0),(8,0)]
 |162,2=>some [(0,0),(1,0),(2,0),(3,0),(8,0),(9,0)]
 |163,0=>some [(0,0),(3,0),(8,0),(9,0),(10,0),(11,0)]
 |163,2=>some [(0,0),(3,0),(8,0),(9,0),(12,0)]
 |164,0=>some [(0,0),(1,0),(8,0),(9,0),(10,0),(11,0)]
 |166,0=>some [(0,0),(8,0),(9,0)]
 |167,0=>some [(0,0),(1,0),(2,0),(3,0),(9,0),(10,0)]
 |167,2=>some [(0,0),(1,0),(2,0),(3,0),(9,0),(10,0)]
 |167,4=>some [(0,0),(1,0),(2,0),(3,0),(9,0),(10,0),(11,0)]
 |167,6=>some [(0,0),(1,0),(2,0),(3,0),(9,0),(10,0),(12,0)]
 |168,0=>some [(0,0),(1,0),(4,0),(11,0),(12,0)]
 |168,2=>some [(0,0),(1,0),(4,0),(11,0),(12,0)]
 |168,4=>some [(0,0),(1,0),(4,0),(11,0),(12,0)]
 |169,0=>some [(0,0),(1,0),(4,0),(12,0),(13,0)]
 |169,2=>some [(0,0),(1,0),(4,0),(12,0),(13,0)]
 |169,4=>some [(0,0),(1,0),(4,0),(12,0),(13,0)]
 |169,6=>some [(0,0),(1,0),(4,0),(12,0),(13,0)]
 |169,8=>some [(0,0),(1,0),(4,0),(12,0),(13,0)]
 |176,0=>some [(0,0),(1,0),(7,0),(8,0)]
 |177,0=>some [(1,0),(6,0),(36,0),(37,0),(38,0)]
 |177,2=>some [(1,0),(6,0),(7,0),(8,0),(9,0),(36,0),(37,0),(38,0)]
 |179,0=>some [(0,0),(5,1),(6,1),(9,0),(10,0),(11,0)]
 |183,0=>some [(0,0),(3,0)]
 |183,2=>some [(0,0),(3,0),(4,0),(5,0)]
 |184,0=>some [(0,0),(1,0),(6,0),(7,0),(8,0)]
 |185,0=>some [(0,0),(9,0),(10,0),(11,0)]
 |186,0=>some [(0,0),(1,0),(6,1),(7,0),(8,0)]
 |186,2=>some [(0,0),(1,0),(6,1),(7,0),(8,0),(9,0)]
 |187,1=>some [(1,0),(6,1),(7,0)]
 |187,3=>some [(1,0),(6,1),(8,0)]
 |187,5=>some [(1,0),(6,1),(9,0),(10,0)]
 |187,7=>some [(1,0),(6,1),(11,0),(12,1),(13,0)]
 |187,9=>some [(1,0),(6,1),(11,0),(12,1),(14,0)]
 |187,11=>some [(1,0),(17,0),(18,1),(19,0)]
 |189,0=>some [(7,0),(8,0)]
 |190,0=>some [(0,0),(2,0),(9,0),(56,0),(57,0)]
 |190,2=>some [(0,0),(2,0),(9,0),(10,0),(11,0),(56,0),(57,0)]
 |191,1=>some [(8,1),(10,0),(30,0),(31,0),(32,0)]
 |191,3=>some [(8,1),(14,0),(52,0),(53,0),(54,0)]
 |191,5=>some [(8,1),(18,0),(73,0),(74,0),(75,0)]
 |192,1=>some [(7,1),(21,0),(23,0),(24,0)]
 |192,3=>some [(0,0),(2,0),(7,1),(8,0)]
 |192,5=>some [(0,0),(2,0),(7,1),(9,0),(10,0)]
 |192,7=>some [(0,0),(2,0),(7,1)]
 |192,9=>some [(0,0),(2,0),(7,1),(11,0),(12,0),(13,0)]
 |192,11=>some [(0,0),(2,0),(7,1),(14,0),(15,1),(16,0)]
 |192,13=>some [(0,0),(7,1),(14,0),(15,1),(19,0),(20,0)]
 |194,0=>some [(0,0),(1,0),(7,1),(8,0)]
 |209,0=>some [(0,0),(2,0),(3,0),(4,0),(10,0)]
 |214,0=>some [(3,0),(6,0),(7,0),(8,0)]
 |215,0=>some [(3,1),(6,0),(7,0),(8,0)]
 |216,0=>some [(3,1),(4,0),(7,0),(8,0),(9,0)]
 |217,0=>some [(0,0),(3,1),(4,0)]
 |217,2=>some [(0,0),(3,1),(4,0),(5,0)]
 |218,0=>some [(0,0),(3,0),(4,0),(18,0),(19,0),(20,0)]
 |218,2=>some [(3,0),(4,0),(7,0),(47,0),(48,0),(49,0)]
 |219,0=>some [(3,0),(4,0),(16,0),(17,0),(18,0)]
 |220,0=>some [(0,0),(1,0),(2,0),(3,0),(8,0),(9,0)]
 |223,0=>some [(0,0),(3,0),(4,0)]
 |223,2=>some [(0,0),(3,0),(4,0)]
 |224,0=>some [(0,0),(3,1),(4,0)]
 |224,2=>some [(0,0),(3,1),(4,0),(5,1),(6,0),(7,0)]
 |225,0=>some [(0,0),(1,0),(5,0)]
 |227,2=>some [(0,0),(1,0),(6,0),(7,1),(8,0)]
 |228,0=>some [(12,0),(15,1),(85,0),(86,0),(87,0)]
 |236,0=>some [(0,0),(1,0),(6,0),(7,0),(8,0)]
 |238,0=>some [(0,0),(3,0),(4,0)]
 |239,0=>some [(0,0),(1,0),(2,0),(6,0)]
 |239,2=>some [(0,0),(1,0),(2,0),(6,0),(7,0)]
 |240,0=>some [(0,0),(6,0),(7,0),(8,0),(9,0)]
 |240,2=>some [(0,0),(6,0),(7,0),(10,0)]
 |241,0=>some [(0,0),(1,0),(6,0),(7,0),(8,0),(9,0)]
 |243,0=>some [(0,0),(6,0),(7,0)]
 |244,0=>some [(0,0),(1,0),(2,0),(7,0),(8,0)]
 |244,2=>some [(0,0),(1,0),(2,0),(7,0),(8,0)]
 |244,4=>some [(0,0),(1,0),(2,0),(7,0),(8,0),(9,0)]
 |244,6=>some [(0,0),(1,0),(2,0),(7,0),(8,0),(10,0)]
 |245,0=>some [(0,0),(1,0),(9,0),(10,0)]
 |245,2=>some [(0,0),(1,0),(9,0),(10,0)]
 |245,4=>some [(0,0),(1,0),(9,0),(10,0)]
 |246,0=>some [(0,0),(1,0),(10,0),(11,0)]
 |246,2=>some [(0,0),(1,0),(10,0),(11,0)]
 |246,4=>some [(0,0),(1,0),(10,0),(11,0)]
 |246,6=>some [(0,0),(1,0),(10,0),(11,0)]
 |246,8=>some [(0,0),(1,0),(10,0),(11,0)]
 |250,0=>some [(0,0),(1,0),(5,1)]
 |251,0=>some [(0,0),(1,0),(5,0),(6,1)]
 |251,2=>some [(0,0),(5,0),(6,1),(9,1),(104,0),(105,0),(106,0)]
 |252,0=>some [(5,0),(7,1),(36,0),(37,0),(38,0)]
 |254,0=>some [(0,0),(11,1),(45,0),(46,0),(47,0)]
 |258,0=>some [(0,0),(3,0)]
 |258,2=>some [(0,0),(3,0),(4,0),(5,0)]
 |261,0=>some [(0,0),(2,0),(3,0),(8,0)]
 |265,0=>some [(7,0),(8,0)]
 |267,0=>some [(0,0),(1,0),(2,0),(3,0),(8,0),(9,0)]
 |269,0=>some [(0,0),(1,0),(2,0),(6,0)]
 |269,2=>some [(0,0),(1,0),(2,0),(6,0),(7,0)]
 |270,0=>some [(0,0),(6,0),(7,0),(8,0),(9,0)]
 |270,2=>some [(0,0),(6,0),(7,0),(10,0)]
 |271,0=>some [(0,0),(1,0),(6,0),(7,0),(8,0),(9,0)]
 |273,0=>some [(0,0),(6,0),(7,0)]
 |274,0=>some [(0,0),(1,0),(2,0),(7,0),(8,0)]
 |274,2=>some [(0,0),(1,0),(2,0),(7,0),(8,0)]
 |274,4=>some [(0,0),(1,0),(2,0),(7,0),(8,0),(9,0)]
 |274,6=>some [(0,0),(1,0),(2,0),(7,0),(8,0),(10,0)]
 |275,0=>some [(0,0),(1,0),(9,0),(10,0)]
 |275,2=>some [(0,0),(1,0),(9,0),(10,0)]
 |275,4=>some [(0,0),(1,0),(9,0),(10,0)]
 |276,0=>some [(0,0),(1,0),(10,0),(11,0)]
 |276,2=>some [(0,0),(1,0),(10,0),(11,0)]
 |276,4=>some [(0,0),(1,0),(10,0),(11,0)]
 |276,6=>some [(0,0),(1,0),(10,0),(11,0)]
 |276,8=>some [(0,0),(1,0),(10,0),(11,0)]
 |277,0=>some [(0,0),(2,0),(3,0),(8,0)]
 |_,_=>none
def znM:List D:=[.int .u32 0,.int .u32 498536548,.int .u32 997073096,.int .u32 651767980,.int .u32 1994146192,.int .u32 1802195444,.int .u32 1303535960,.int .u32 1342533948,.int .u32 3988292384,.int .u32 4027552580,.int .u32 3604390888,.int .u32 3412177804,.int .u32 2607071920,.int .u32 2262029012,.int .u32 2685067896,.int .u32 3183342108]
def G:Nat->Option (List D):=λg=>if g=0 then some znM else if [1000060,1000062,1000114,1000162,1000163,1000164,1000165,1000166,1000167,1000168,1000169,1000179,1000182,1000183,1000189,1000209,1000212,1000213,1000220,1000234,1000239,1000240,1000241,1000242,1000243,1000244,1000245,1000246,1000257,1000258,1000261,1000262,1000263,1000265,1000267,1000268,1000269,1000270,1000271,1000272,1000273,1000274,1000275,1000276,1000277,1000278,1000279,1000280,2000059,2000127,2000181,2000256,3000020,3000178,3000027,4000027].contains g then some [] else none
def zD7:splits G 7=false:=by decide +kernel
def zBR:splits G 14=false:=by decide +kernel
def zBS:splits G 15=false:=by decide +kernel
def zBT:splits G 17=false:=by decide +kernel
def zBU:splits G 20=false:=by decide +kernel
def zBV:splits G 21=false:=by decide +kernel
def zBW:splits G 22=false:=by decide +kernel
def zBX:splits G 23=false:=by decide +kernel
def zBY:splits G 24=false:=by decide +kernel
def zBZ:splits G 25=false:=by decide +kernel
def zB0:splits G 26=false:=by decide +kernel
def zB1:splits G 27=false:=by decide +kernel
def zB2:splits G 30=false:=by decide +kernel
def zB3:splits G 31=false:=by decide +kernel
def zB4:splits G 32=false:=by decide +kernel
def zB5:splits G 48=false:=by decide +kernel
def zB6:splits G 58=false:=by decide +kernel
def zB7:splits G 59=true:=by decide +kernel
def zB8:splits G 60=false:=by decide +kernel
def zB9:splits G 61=false:=by decide +kernel
def zCa:splits G 62=false:=by decide +kernel
def zCb:splits G 63=false:=by decide +kernel
def zCc:splits G 64=false:=by decide +kernel
@[simp] def zFy:zad G 2=false/\zaf G 2=false/\zad G 3=false/\zaf G 3=false/\zad G 4=false/\zaf G 4=false/\zad G 5=false/\zaf G 5=false/\zad G 6=false/\zaf G 6=false/\zad G 7=false/\zaf G 7=false/\zad G 8=false/\zaf G 8=false/\zad G 14=false/\zaf G 14=false/\zad G 15=false/\zaf G 15=false/\zad G 17=false/\zaf G 17=false/\zad G 20=false/\zaf G 20=true/\zad G 21=false/\zaf G 21=false/\zad G 22=false/\zaf G 22=false/\zad G 23=false/\zaf G 23=false/\zad G 24=false/\zaf G 24=false/\zad G 25=false/\zaf G 25=false/\zad G 26=false/\zaf G 26=false/\zad G 27=false/\zaf G 27=true/\zad G 30=false/\zaf G 30=false/\zad G 31=false/\zaf G 31=false/\zad G 32=false/\zaf G 32=false/\zad G 48=false/\zaf G 48=false/\zad G 50=false/\zaf G 50=false/\zad G 58=false/\zaf G 58=false/\zad G 59=false/\zaf G 59=false/\zad G 60=true/\zaf G 60=false/\zad G 61=false/\zaf G 61=false/\zad G 62=true/\zaf G 62=false/\zad G 63=false/\zaf G 63=false/\zad G 64=false/\zaf G 64=false:=by and_intros<;>decide +kernel
def zCd:splits G 65=false:=by decide +kernel
def zCe:splits G 66=false:=by decide +kernel
def zCf:splits G 67=false:=by decide +kernel
def zCg:splits G 68=false:=by decide +kernel
def zCh:splits G 69=false:=by decide +kernel
def zCi:splits G 70=false:=by decide +kernel
def zCj:splits G 71=false:=by decide +kernel
def zCk:splits G 72=false:=by decide +kernel
def zCl:splits G 73=false:=by decide +kernel
def zCm:splits G 74=false:=by decide +kernel
def zCn:splits G 75=false:=by decide +kernel
def zCo:splits G 76=false:=by decide +kernel
def zCp:splits G 77=false:=by decide +kernel
def zCq:splits G 79=false:=by decide +kernel
def zCr:splits G 80=false:=by decide +kernel
def zCs:splits G 81=false:=by decide +kernel
def zxw:splits G 106=false:=by decide +kernel
def zxx:splits G 114=false:=by decide +kernel
def zxy:splits G 115=false:=by decide +kernel
def zxz:splits G 116=false:=by decide +kernel
def zxA:splits G 117=false:=by decide +kernel
def zxB:splits G 118=false:=by decide +kernel
def zxC:splits G 119=false:=by decide +kernel
def zxD:splits G 120=false:=by decide +kernel
def zxE:splits G 121=false:=by decide +kernel
def zxF:splits G 122=false:=by decide +kernel
def zxG:splits G 123=false:=by decide +kernel
def zxH:splits G 124=false:=by decide +kernel
def zxI:splits G 125=false:=by decide +kernel
def zxJ:splits G 126=false:=by decide +kernel
@[simp] def zD8:zad G 65=false/\zaf G 65=false/\zad G 66=false/\zaf G 66=false/\zad G 67=false/\zaf G 67=false/\zad G 68=false/\zaf G 68=false/\zad G 69=false/\zaf G 69=false/\zad G 70=false/\zaf G 70=false/\zad G 71=false/\zaf G 71=false/\zad G 72=false/\zaf G 72=false/\zad G 73=false/\zaf G 73=false/\zad G 74=false/\zaf G 74=false/\zad G 75=false/\zaf G 75=false/\zad G 76=false/\zaf G 76=false/\zad G 77=false/\zaf G 77=false/\zad G 79=false/\zaf G 79=false/\zad G 80=false/\zaf G 80=false/\zad G 81=false/\zaf G 81=false/\zad G 106=false/\zaf G 106=false/\zad G 114=true/\zaf G 114=false/\zad G 115=false/\zaf G 115=false/\zad G 116=false/\zaf G 116=false/\zad G 117=false/\zaf G 117=false/\zad G 118=false/\zaf G 118=false/\zad G 119=false/\zaf G 119=false/\zad G 120=false/\zaf G 120=false/\zad G 121=false/\zaf G 121=false/\zad G 122=false/\zaf G 122=false/\zad G 123=false/\zaf G 123=false/\zad G 124=false/\zaf G 124=false/\zad G 125=false/\zaf G 125=false/\zad G 126=false/\zaf G 126=false:=by and_intros<;>decide +kernel
def zxK:splits G 127=true:=by decide +kernel
def zxL:splits G 128=false:=by decide +kernel
def zxM:splits G 129=false:=by decide +kernel
def zxN:splits G 130=false:=by decide +kernel
def zxO:splits G 131=false:=by decide +kernel
def zxP:splits G 132=false:=by decide +kernel
def zxQ:splits G 133=false:=by decide +kernel
def zxR:splits G 134=false:=by decide +kernel
def zxS:splits G 135=false:=by decide +kernel
def zxT:splits G 162=false:=by decide +kernel
def zxU:splits G 163=false:=by decide +kernel
def zxV:splits G 164=false:=by decide +kernel
def zxW:splits G 165=false:=by decide +kernel
def zxX:splits G 166=false:=by decide +kernel
def zxY:splits G 167=false:=by decide +kernel
def zxZ:splits G 168=false:=by decide +kernel
def zx0:splits G 169=false:=by decide +kernel
def zx1:splits G 171=false:=by decide +kernel
def zx2:splits G 172=false:=by decide +kernel
def zx3:splits G 173=false:=by decide +kernel
def zx4:splits G 174=false:=by decide +kernel
def zx5:splits G 175=false:=by decide +kernel
def zx6:splits G 176=false:=by decide +kernel
def zx7:splits G 177=false:=by decide +kernel
def zx8:splits G 178=false:=by decide +kernel
def zx9:splits G 179=false:=by decide +kernel
def zya:splits G 180=false:=by decide +kernel
def zyb:splits G 181=true:=by decide +kernel
def zyc:splits G 182=false:=by decide +kernel
def zyd:splits G 183=false:=by decide +kernel
@[simp] def zDg:zad G 127=false/\zaf G 127=false/\zad G 128=false/\zaf G 128=false/\zad G 129=false/\zaf G 129=false/\zad G 130=false/\zaf G 130=false/\zad G 131=false/\zaf G 131=false/\zad G 132=false/\zaf G 132=false/\zad G 133=false/\zaf G 133=false/\zad G 134=false/\zaf G 134=false/\zad G 135=false/\zaf G 135=false/\zad G 162=true/\zaf G 162=false/\zad G 163=true/\zaf G 163=false/\zad G 164=true/\zaf G 164=false/\zad G 165=true/\zaf G 165=false/\zad G 166=true/\zaf G 166=false/\zad G 167=true/\zaf G 167=false/\zad G 168=true/\zaf G 168=false/\zad G 169=true/\zaf G 169=false/\zad G 171=false/\zaf G 171=false/\zad G 172=false/\zaf G 172=false/\zad G 173=false/\zaf G 173=false/\zad G 174=false/\zaf G 174=false/\zad G 175=false/\zaf G 175=false/\zad G 176=false/\zaf G 176=false/\zad G 177=false/\zaf G 177=false/\zad G 178=false/\zaf G 178=true/\zad G 179=true/\zaf G 179=false/\zad G 180=false/\zaf G 180=false/\zad G 181=false/\zaf G 181=false/\zad G 182=true/\zaf G 182=false/\zad G 183=true/\zaf G 183=false:=by and_intros<;>decide +kernel
def zye:splits G 184=false:=by decide +kernel
def zyf:splits G 185=false:=by decide +kernel
def zyg:splits G 186=false:=by decide +kernel
def zyh:splits G 187=false:=by decide +kernel
def zyi:splits G 188=false:=by decide +kernel
def zyj:splits G 189=false:=by decide +kernel
def zyk:splits G 190=false:=by decide +kernel
def zyl:splits G 191=false:=by decide +kernel
def zym:splits G 192=false:=by decide +kernel
def zyn:splits G 193=false:=by decide +kernel
def zyo:splits G 194=false:=by decide +kernel
def zyp:splits G 196=false:=by decide +kernel
def zyq:splits G 200=false:=by decide +kernel
def zyr:splits G 209=false:=by decide +kernel
def zys:splits G 210=false:=by decide +kernel
def zyt:splits G 211=false:=by decide +kernel
def zyu:splits G 212=false:=by decide +kernel
def zyv:splits G 213=false:=by decide +kernel
def zyw:splits G 214=false:=by decide +kernel
def zyx:splits G 215=false:=by decide +kernel
def zyy:splits G 216=false:=by decide +kernel
def zyz:splits G 217=false:=by decide +kernel
def zyA:splits G 218=false:=by decide +kernel
def zyB:splits G 219=false:=by decide +kernel
def zyC:splits G 220=false:=by decide +kernel
def zyD:splits G 221=false:=by decide +kernel
def zyE:splits G 223=false:=by decide +kernel
def zyF:splits G 224=false:=by decide +kernel
def zyG:splits G 225=false:=by decide +kernel
def zyH:splits G 226=false:=by decide +kernel
@[simp] def zDh:zad G 184=false/\zaf G 184=false/\zad G 185=false/\zaf G 185=false/\zad G 186=false/\zaf G 186=false/\zad G 187=false/\zaf G 187=false/\zad G 188=false/\zaf G 188=false/\zad G 189=true/\zaf G 189=false/\zad G 190=false/\zaf G 190=false/\zad G 191=false/\zaf G 191=false/\zad G 192=false/\zaf G 192=false/\zad G 193=false/\zaf G 193=false/\zad G 194=false/\zaf G 194=false/\zad G 196=false/\zaf G 196=false/\zad G 200=false/\zaf G 200=false/\zad G 209=true/\zaf G 209=false/\zad G 210=false/\zaf G 210=false/\zad G 211=false/\zaf G 211=false/\zad G 212=true/\zaf G 212=false/\zad G 213=true/\zaf G 213=false/\zad G 214=false/\zaf G 214=false/\zad G 215=false/\zaf G 215=false/\zad G 216=false/\zaf G 216=false/\zad G 217=false/\zaf G 217=false/\zad G 218=false/\zaf G 218=false/\zad G 219=false/\zaf G 219=false/\zad G 220=true/\zaf G 220=false/\zad G 221=false/\zaf G 221=false/\zad G 223=false/\zaf G 223=false/\zad G 224=false/\zaf G 224=false/\zad G 225=false/\zaf G 225=false/\zad G 226=false/\zaf G 226=false:=by and_intros<;>decide +kernel
def zyI:splits G 227=false:=by decide +kernel
def zyJ:splits G 228=false:=by decide +kernel
def zyK:splits G 229=false:=by decide +kernel
def zyL:splits G 230=false:=by decide +kernel
def zyM:splits G 231=false:=by decide +kernel
def zyN:splits G 233=false:=by decide +kernel
def zyO:splits G 234=false:=by decide +kernel
def zyP:splits G 235=false:=by decide +kernel
def zyQ:splits G 236=false:=by decide +kernel
def zyR:splits G 237=false:=by decide +kernel
def zyS:splits G 238=false:=by decide +kernel
def zyT:splits G 239=false:=by decide +kernel
def zyU:splits G 240=false:=by decide +kernel
def zyV:splits G 241=false:=by decide +kernel
def zyW:splits G 242=false:=by decide +kernel
def zyX:splits G 243=false:=by decide +kernel
def zyY:splits G 244=false:=by decide +kernel
def zyZ:splits G 245=false:=by decide +kernel
def zy0:splits G 246=false:=by decide +kernel
def zy1:splits G 248=false:=by decide +kernel
def zy2:splits G 249=false:=by decide +kernel
def zy3:splits G 250=false:=by decide +kernel
def zy4:splits G 251=false:=by decide +kernel
def zy5:splits G 252=false:=by decide +kernel
def zy6:splits G 253=false:=by decide +kernel
def zy7:splits G 254=false:=by decide +kernel
def zy8:splits G 255=false:=by decide +kernel
def zy9:splits G 256=true:=by decide +kernel
def zza:splits G 257=false:=by decide +kernel
def zzb:splits G 258=false:=by decide +kernel
@[simp] def zDi:zad G 227=false/\zaf G 227=false/\zad G 228=false/\zaf G 228=false/\zad G 229=false/\zaf G 229=false/\zad G 230=false/\zaf G 230=false/\zad G 231=false/\zaf G 231=false/\zad G 233=false/\zaf G 233=false/\zad G 234=true/\zaf G 234=false/\zad G 235=false/\zaf G 235=false/\zad G 236=false/\zaf G 236=false/\zad G 237=false/\zaf G 237=false/\zad G 238=false/\zaf G 238=false/\zad G 239=true/\zaf G 239=false/\zad G 240=true/\zaf G 240=false/\zad G 241=true/\zaf G 241=false/\zad G 242=true/\zaf G 242=false/\zad G 243=true/\zaf G 243=false/\zad G 244=true/\zaf G 244=false/\zad G 245=true/\zaf G 245=false/\zad G 246=true/\zaf G 246=false/\zad G 248=false/\zaf G 248=false/\zad G 249=false/\zaf G 249=false/\zad G 250=false/\zaf G 250=false/\zad G 251=false/\zaf G 251=false/\zad G 252=false/\zaf G 252=false/\zad G 253=false/\zaf G 253=false/\zad G 254=false/\zaf G 254=false/\zad G 255=false/\zaf G 255=false/\zad G 256=false/\zaf G 256=false/\zad G 257=true/\zaf G 257=false/\zad G 258=true/\zaf G 258=false:=by and_intros<;>decide +kernel
def zzc:splits G 259=false:=by decide +kernel
def zzd:splits G 261=false:=by decide +kernel
def zze:splits G 262=false:=by decide +kernel
def zzf:splits G 263=false:=by decide +kernel
def zzg:splits G 264=false:=by decide +kernel
def zzh:splits G 265=false:=by decide +kernel
def zzi:splits G 266=false:=by decide +kernel
def zzj:splits G 267=false:=by decide +kernel
def zzk:splits G 268=false:=by decide +kernel
def zzl:splits G 269=false:=by decide +kernel
def zzm:splits G 270=false:=by decide +kernel
def zzn:splits G 271=false:=by decide +kernel
def zzo:splits G 272=false:=by decide +kernel
def zzp:splits G 273=false:=by decide +kernel
def zzq:splits G 274=false:=by decide +kernel
def zzr:splits G 275=false:=by decide +kernel
def zzs:splits G 276=false:=by decide +kernel
def zzt:splits G 277=false:=by decide +kernel
def zzu:splits G 278=false:=by decide +kernel
def zzv:splits G 279=false:=by decide +kernel
def zzw:splits G 280=false:=by decide +kernel
@[simp] def zDj:zad G 259=false/\zaf G 259=false/\zad G 261=true/\zaf G 261=false/\zad G 262=true/\zaf G 262=false/\zad G 263=true/\zaf G 263=false/\zad G 264=false/\zaf G 264=false/\zad G 265=true/\zaf G 265=false/\zad G 266=false/\zaf G 266=false/\zad G 267=true/\zaf G 267=false/\zad G 268=true/\zaf G 268=false/\zad G 269=true/\zaf G 269=false/\zad G 270=true/\zaf G 270=false/\zad G 271=true/\zaf G 271=false/\zad G 272=true/\zaf G 272=false/\zad G 273=true/\zaf G 273=false/\zad G 274=true/\zaf G 274=false/\zad G 275=true/\zaf G 275=false/\zad G 276=true/\zaf G 276=false/\zad G 277=true/\zaf G 277=false/\zad G 278=true/\zaf G 278=false/\zad G 279=true/\zaf G 279=false/\zad G 280=true/\zaf G 280=false/\zno G 20=false/\zno G 178=false/\zno G 27=true:=by and_intros<;>decide +kernel
def Hn:zh7:=λf r=>match f,r with
 |6,23=>[11]
 |8,6=>[0]
 |48,1=>[12]
 |80,15=>[6,7]
 |132,31=>[6]
 |249,4=>[8]
 |264,4=>[8]
 |_,_=>[]
@[simp] def G_0:G 0=some znM/\K 5 0=some [(6,0),(8,0),(10,0),(12,0),(13,0)]/\K 5 2=some [(6,0),(8,0),(10,0),(14,0)]/\K 6 0=some [(5,0),(7,0),(8,0),(9,0),(11,0),(13,0),(14,0)]/\K 6 2=some [(5,0),(7,0),(8,0),(9,0),(11,0),(13,0),(15,3),(16,0)]/\K 15 0=some [(0,0),(1,0),(17,0),(18,0),(19,0)]/\K 17 0=some [(0,0),(1,0),(6,0)]/\K 21 0=some [(0,0),(1,0),(5,0)]/\K 22 0=some [(0,0),(3,3),(4,0)]/\K 24 0=some [(0,0),(3,3),(4,0)]/\K 24 2=some [(0,0),(3,3),(4,0),(5,3),(6,0),(7,0)]/\K 30 0=some [(0,0),(3,0),(5,0)]/\K 31 0=some [(3,1),(4,0),(5,0)]/\K 62 0=some [(0,0),(1,0),(5,0)]/\K 62 2=some [(0,0),(1,0),(5,0),(6,0),(7,0)]/\K 64 0=some [(0,0),(1,0),(26,0),(27,0),(28,0)]/\K 64 2=some [(0,0),(8,0),(9,1),(10,1),(11,1),(47,0),(48,0),(49,0)]/\K 65 0=some [(0,0),(3,1)]/\K 67 0=some [(0,0),(1,0),(6,0)]/\K 67 2=some [(0,0),(1,0),(8,1),(9,1),(10,1),(11,1),(12,0),(13,0)]/\K 67 4=some [(11,1),(15,0),(18,0),(19,1),(20,0)]/\K 67 6=some [(11,1),(15,0),(18,0),(19,1),(20,0),(21,0)]/\K 70 0=some [(5,0),(8,0),(9,0),(10,0)]/\K 72 0=some [(0,0),(1,0),(12,0),(13,0)]/\K 75 0=some [(0,0),(1,0),(2,0),(7,0),(8,0)]/\K 79 0=some [(0,0),(1,0),(5,0)]/\K 79 2=some [(0,0),(1,0),(5,0),(6,0)]/\K 80 0=some [(0,0),(5,0)]/\K 80 2=some [(0,0),(5,0),(6,0),(7,0)]/\K 81 0=some [(0,0),(1,0),(2,0),(8,1),(9,0)]/\K 81 2=some [(0,0),(1,0),(2,0),(8,1),(10,0),(13,0),(14,0)]/\K 81 5=some [(0,0),(1,0),(2,0),(8,1),(15,3),(22,0),(24,0)]/\K 81 7=some [(0,0),(1,0),(2,0),(8,1),(15,3),(16,0),(18,0)]/\K 81 9=some [(0,0),(1,0),(2,0),(8,1),(15,3),(19,0),(21,0)]/\K 81 11=some [(0,0),(1,0),(2,0),(8,1),(15,3),(25,3),(26,0),(27,0)]/\K 114 0=some [(0,0),(1,0),(2,0),(3,0),(4,0),(10,0),(11,0)]/\K 123 0=some [(3,0),(11,0),(12,0),(13,0)]/\K 124 0=some [(0,0),(4,1),(11,0)]/\K 125 0=some [(0,0),(3,0),(4,0),(5,1),(20,0),(21,0),(22,0)]/\K 129 0=some [(0,0),(4,1),(5,0)]/\K 130 0=some [(0,0),(3,1),(4,0)]/\K 130 2=some [(0,0),(3,1),(4,0),(5,1),(6,0),(7,0)]/\K 131 0=some [(0,0),(3,1),(4,1),(5,0)]/\K 132 0=some [(0,0),(1,0),(2,0),(9,0),(12,0),(56,0),(57,0),(58,0)]/\K 132 2=some [(1000015,0),(17,0),(79,0),(80,0),(81,0)]/\K 133 0=some [(0,0),(1,0),(2,0),(8,1),(9,0)]/\K 133 2=some [(0,0),(1,0),(2,0),(8,1),(9,0),(10,0),(11,0)]/\K 133 4=some [(0,0),(8,1),(13,0)]/\K 135 0=some [(13,0),(14,0),(15,0),(16,1),(17,0)]/\K 162 0=some [(0,0),(1,0),(2,0),(3,0),(8,0)]/\K 162 2=some [(0,0),(1,0),(2,0),(3,0),(8,0),(9,0)]/\K 163 0=some [(0,0),(3,0),(8,0),(9,0),(10,0),(11,0)]/\K 163 2=some [(0,0),(3,0),(8,0),(9,0),(12,0)]/\K 164 0=some [(0,0),(1,0),(8,0),(9,0),(10,0),(11,0)]/\K 166 0=some [(0,0),(8,0),(9,0)]/\K 167 0=some [(0,0),(1,0),(2,0),(3,0),(9,0),(10,0)]/\K 167 2=some [(0,0),(1,0),(2,0),(3,0),(9,0),(10,0)]/\K 167 4=some [(0,0),(1,0),(2,0),(3,0),(9,0),(10,0),(11,0)]/\K 167 6=some [(0,0),(1,0),(2,0),(3,0),(9,0),(10,0),(12,0)]/\K 168 0=some [(0,0),(1,0),(4,0),(11,0),(12,0)]:=by and_intros<;>rfl
@[simp] def zCt:K 168 2=some [(0,0),(1,0),(4,0),(11,0),(12,0)]/\K 168 4=some [(0,0),(1,0),(4,0),(11,0),(12,0)]/\K 169 0=some [(0,0),(1,0),(4,0),(12,0),(13,0)]/\K 169 2=some [(0,0),(1,0),(4,0),(12,0),(13,0)]/\K 169 4=some [(0,0),(1,0),(4,0),(12,0),(13,0)]/\K 169 6=some [(0,0),(1,0),(4,0),(12,0),(13,0)]/\K 169 8=some [(0,0),(1,0),(4,0),(12,0),(13,0)]/\K 176 0=some [(0,0),(1,0),(7,0),(8,0)]/\K 177 0=some [(1,0),(6,0),(36,0),(37,0),(38,0)]/\K 177 2=some [(1,0),(6,0),(7,0),(8,0),(9,0),(36,0),(37,0),(38,0)]/\K 179 0=some [(0,0),(5,1),(6,1),(9,0),(10,0),(11,0)]/\K 183 0=some [(0,0),(3,0)]/\K 183 2=some [(0,0),(3,0),(4,0),(5,0)]/\K 184 0=some [(0,0),(1,0),(6,0),(7,0),(8,0)]/\K 185 0=some [(0,0),(9,0),(10,0),(11,0)]/\K 186 0=some [(0,0),(1,0),(6,1),(7,0),(8,0)]/\K 186 2=some [(0,0),(1,0),(6,1),(7,0),(8,0),(9,0)]/\K 187 1=some [(1,0),(6,1),(7,0)]/\K 187 3=some [(1,0),(6,1),(8,0)]/\K 187 5=some [(1,0),(6,1),(9,0),(10,0)]/\K 187 7=some [(1,0),(6,1),(11,0),(12,1),(13,0)]/\K 187 9=some [(1,0),(6,1),(11,0),(12,1),(14,0)]/\K 187 11=some [(1,0),(17,0),(18,1),(19,0)]/\K 189 0=some [(7,0),(8,0)]/\K 190 0=some [(0,0),(2,0),(9,0),(56,0),(57,0)]/\K 190 2=some [(0,0),(2,0),(9,0),(10,0),(11,0),(56,0),(57,0)]/\K 191 1=some [(8,1),(10,0),(30,0),(31,0),(32,0)]/\K 191 3=some [(8,1),(14,0),(52,0),(53,0),(54,0)]/\K 191 5=some [(8,1),(18,0),(73,0),(74,0),(75,0)]/\K 192 1=some [(7,1),(21,0),(23,0),(24,0)]/\K 192 3=some [(0,0),(2,0),(7,1),(8,0)]/\K 192 5=some [(0,0),(2,0),(7,1),(9,0),(10,0)]/\K 192 7=some [(0,0),(2,0),(7,1)]/\K 192 9=some [(0,0),(2,0),(7,1),(11,0),(12,0),(13,0)]/\K 192 11=some [(0,0),(2,0),(7,1),(14,0),(15,1),(16,0)]/\K 192 13=some [(0,0),(7,1),(14,0),(15,1),(19,0),(20,0)]/\K 194 0=some [(0,0),(1,0),(7,1),(8,0)]/\K 209 0=some [(0,0),(2,0),(3,0),(4,0),(10,0)]/\K 214 0=some [(3,0),(6,0),(7,0),(8,0)]/\K 215 0=some [(3,1),(6,0),(7,0),(8,0)]/\K 216 0=some [(3,1),(4,0),(7,0),(8,0),(9,0)]/\K 217 0=some [(0,0),(3,1),(4,0)]/\K 217 2=some [(0,0),(3,1),(4,0),(5,0)]/\K 218 0=some [(0,0),(3,0),(4,0),(18,0),(19,0),(20,0)]/\K 218 2=some [(3,0),(4,0),(7,0),(47,0),(48,0),(49,0)]/\K 219 0=some [(3,0),(4,0),(16,0),(17,0),(18,0)]/\K 220 0=some [(0,0),(1,0),(2,0),(3,0),(8,0),(9,0)]/\K 223 0=some [(0,0),(3,0),(4,0)]/\K 223 2=some [(0,0),(3,0),(4,0)]/\K 224 0=some [(0,0),(3,1),(4,0)]/\K 224 2=some [(0,0),(3,1),(4,0),(5,1),(6,0),(7,0)]/\K 225 0=some [(0,0),(1,0),(5,0)]/\K 227 2=some [(0,0),(1,0),(6,0),(7,1),(8,0)]/\K 228 0=some [(12,0),(15,1),(85,0),(86,0),(87,0)]/\K 236 0=some [(0,0),(1,0),(6,0),(7,0),(8,0)]/\K 238 0=some [(0,0),(3,0),(4,0)]/\K 239 0=some [(0,0),(1,0),(2,0),(6,0)]/\K 239 2=some [(0,0),(1,0),(2,0),(6,0),(7,0)]/\K 240 0=some [(0,0),(6,0),(7,0),(8,0),(9,0)]/\K 240 2=some [(0,0),(6,0),(7,0),(10,0)]:=by and_intros<;>rfl
@[simp] def zCu:K 241 0=some [(0,0),(1,0),(6,0),(7,0),(8,0),(9,0)]/\K 243 0=some [(0,0),(6,0),(7,0)]/\K 244 0=some [(0,0),(1,0),(2,0),(7,0),(8,0)]/\K 244 2=some [(0,0),(1,0),(2,0),(7,0),(8,0)]/\K 244 4=some [(0,0),(1,0),(2,0),(7,0),(8,0),(9,0)]/\K 244 6=some [(0,0),(1,0),(2,0),(7,0),(8,0),(10,0)]/\K 245 0=some [(0,0),(1,0),(9,0),(10,0)]/\K 245 2=some [(0,0),(1,0),(9,0),(10,0)]/\K 245 4=some [(0,0),(1,0),(9,0),(10,0)]/\K 246 0=some [(0,0),(1,0),(10,0),(11,0)]/\K 246 2=some [(0,0),(1,0),(10,0),(11,0)]/\K 246 4=some [(0,0),(1,0),(10,0),(11,0)]/\K 246 6=some [(0,0),(1,0),(10,0),(11,0)]/\K 246 8=some [(0,0),(1,0),(10,0),(11,0)]/\K 250 0=some [(0,0),(1,0),(5,1)]/\K 251 0=some [(0,0),(1,0),(5,0),(6,1)]/\K 251 2=some [(0,0),(5,0),(6,1),(9,1),(104,0),(105,0),(106,0)]/\K 252 0=some [(5,0),(7,1),(36,0),(37,0),(38,0)]/\K 254 0=some [(0,0),(11,1),(45,0),(46,0),(47,0)]/\K 258 0=some [(0,0),(3,0)]/\K 258 2=some [(0,0),(3,0),(4,0),(5,0)]/\K 261 0=some [(0,0),(2,0),(3,0),(8,0)]/\K 265 0=some [(7,0),(8,0)]/\K 267 0=some [(0,0),(1,0),(2,0),(3,0),(8,0),(9,0)]/\K 269 0=some [(0,0),(1,0),(2,0),(6,0)]/\K 269 2=some [(0,0),(1,0),(2,0),(6,0),(7,0)]/\K 270 0=some [(0,0),(6,0),(7,0),(8,0),(9,0)]/\K 270 2=some [(0,0),(6,0),(7,0),(10,0)]/\K 271 0=some [(0,0),(1,0),(6,0),(7,0),(8,0),(9,0)]/\K 273 0=some [(0,0),(6,0),(7,0)]/\K 274 0=some [(0,0),(1,0),(2,0),(7,0),(8,0)]/\K 274 2=some [(0,0),(1,0),(2,0),(7,0),(8,0)]/\K 274 4=some [(0,0),(1,0),(2,0),(7,0),(8,0),(9,0)]/\K 274 6=some [(0,0),(1,0),(2,0),(7,0),(8,0),(10,0)]/\K 275 0=some [(0,0),(1,0),(9,0),(10,0)]/\K 275 2=some [(0,0),(1,0),(9,0),(10,0)]/\K 275 4=some [(0,0),(1,0),(9,0),(10,0)]/\K 276 0=some [(0,0),(1,0),(10,0),(11,0)]/\K 276 2=some [(0,0),(1,0),(10,0),(11,0)]/\K 276 4=some [(0,0),(1,0),(10,0),(11,0)]/\K 276 6=some [(0,0),(1,0),(10,0),(11,0)]/\K 276 8=some [(0,0),(1,0),(10,0),(11,0)]/\K 277 0=some [(0,0),(2,0),(3,0),(8,0)]/\Hn 6 20=[]/\Hn 6 23=[11]/\Hn 8 6=[0]/\Hn 21 6=[]/\Hn 24 11=[]/\Hn 30 4=[]/\Hn 32 11=[]/\Hn 48 1=[12]/\Hn 61 10=[]/\Hn 62 6=[]/\Hn 62 11=[]/\Hn 67 42=[]/\Hn 72 6=[]/\Hn 76 1=[]/\Hn 77 1=[]/\Hn 80 15=[6,7]/\Hn 81 57=[]:=by and_intros<;>rfl
@[simp] def zzx:Hn 114 17=[]/\Hn 130 10=[]/\Hn 130 12=[]/\Hn 132 31=[6]/\Hn 134 13=[]/\Hn 134 16=[]/\Hn 162 4=[]/\Hn 162 6=[]/\Hn 163 10=[]/\Hn 164 10=[]/\Hn 166 3=[]/\Hn 167 5=[]/\Hn 167 11=[]/\Hn 167 16=[]/\Hn 167 17=[]/\Hn 167 22=[]/\Hn 167 23=[]/\Hn 168 1=[]/\Hn 168 3=[]/\Hn 168 5=[]/\Hn 168 8=[]/\Hn 169 1=[]/\Hn 169 3=[]/\Hn 169 5=[]/\Hn 169 8=[]/\Hn 169 10=[]/\Hn 169 13=[]/\Hn 169 15=[]/\Hn 169 18=[]/\Hn 169 21=[]/\Hn 177 11=[]/\Hn 183 6=[]/\Hn 183 11=[]/\Hn 187 16=[]/\Hn 187 23=[]/\Hn 187 36=[]/\Hn 189 9=[]/\Hn 190 16=[]/\Hn 193 5=[]/\Hn 209 3=[]/\Hn 209 5=[]/\Hn 209 6=[]/\Hn 211 1=[]/\Hn 211 2=[]/\Hn 211 3=[]/\Hn 217 5=[]/\Hn 220 17=[]/\Hn 224 10=[]/\Hn 224 12=[]/\Hn 227 29=[]/\Hn 234 1=[]/\Hn 239 4=[]/\Hn 239 6=[]/\Hn 240 10=[]/\Hn 241 10=[]/\Hn 243 3=[]/\Hn 244 5=[]/\Hn 244 11=[]/\Hn 244 16=[]/\Hn 244 17=[]:=by and_intros<;>rfl
@[simp] def zzy:Hn 244 22=[]/\Hn 244 23=[]/\Hn 245 1=[]/\Hn 245 3=[]/\Hn 245 5=[]/\Hn 245 8=[]/\Hn 246 1=[]/\Hn 246 3=[]/\Hn 246 5=[]/\Hn 246 8=[]/\Hn 246 10=[]/\Hn 246 13=[]/\Hn 246 15=[]/\Hn 246 18=[]/\Hn 246 21=[]/\Hn 249 4=[8]/\Hn 258 6=[]/\Hn 258 11=[]/\Hn 261 3=[]/\Hn 261 5=[]/\Hn 261 6=[]/\Hn 264 4=[8]/\Hn 265 9=[]/\Hn 267 17=[]/\Hn 268 1=[]/\Hn 269 4=[]/\Hn 269 6=[]/\Hn 270 10=[]/\Hn 271 10=[]/\Hn 273 3=[]/\Hn 274 5=[]/\Hn 274 11=[]/\Hn 274 16=[]/\Hn 274 17=[]/\Hn 274 22=[]/\Hn 274 23=[]/\Hn 275 1=[]/\Hn 275 3=[]/\Hn 275 5=[]/\Hn 275 8=[]/\Hn 276 1=[]/\Hn 276 3=[]/\Hn 276 5=[]/\Hn 276 8=[]/\Hn 276 10=[]/\Hn 276 13=[]/\Hn 276 15=[]/\Hn 276 18=[]/\Hn 276 21=[]/\Hn 277 3=[]/\Hn 277 5=[]/\Hn 277 6=[]/\Hn 280 1=[]:=by and_intros<;>rfl
noncomputable abbrev R:Run:=zhp Tryz.prog G K Hn
end Go.Am.Ab
namespace Go.Am.Ab
structure Fld where
 id:Int
 name:ByteArray
 kind:Int
 need:Bool
structure Sch where
 id:Int
 fields:List Fld
structure Snap where
 id:Int
 parent:Int
 seq:Int
 offset:Int
 time:Int
 schema:Int
 mans:List ByteArray
structure Tab where
 schemas:List Sch
 snaps:List Snap
 current:Int
structure Pol where
 keep:Int
 age:Int
abbrev u64 (n:Int):D:= .int .u64 n
abbrev i64 (n:Int):D:= .int .i64 n
def Fld.d (f:Fld):D:= .agg [.int .u32 f.id,.str f.name,.int .u8 f.kind,.bool f.need]
def Sch.d (s:Sch):D:= .agg [.int .u32 s.id,.list (s.fields.map Fld.d)]
def Snap.d (s:Snap):D:= .agg [.int .u64 s.id,.int .u64 s.parent,.int .u64 s.seq,.int .u64 s.offset,.int .u64 s.time,.int .u32 s.schema,.list (s.mans.map .str)]
def Tab.d (t:Tab):D:= .agg [.list (t.schemas.map Sch.d),.list (t.snaps.map Snap.d),.int .u64 t.current]
def Pol.d (p:Pol):D:= .agg [.int .i64 p.keep,.int .u64 p.age]
attribute [simp] Fld.d Sch.d Snap.d Tab.d Pol.d
end Go.Am.Ab
namespace Go.Am
def zvx:IntKind.bits .u8=8:=rfl
def ztX:IntKind.bits .u32=32:=rfl
def ztY:IntKind.bits .u64=64:=rfl
def ztZ:IntKind.bits .i64=64:=rfl
def zfJ (x:Int):IntKind.u8.wrap x=x % 256:=by simp[IntKind.wrap,IntKind.signed,IntKind.bits]
def zc6 (x:Int):IntKind.u32.wrap x=x % 4294967296:=by simp[IntKind.wrap,IntKind.signed,IntKind.bits]
def zab (x:Int):IntKind.u64.wrap x=x % 18446744073709551616:=by simp[IntKind.wrap,IntKind.signed,IntKind.bits]
def zat (x:Int):IntKind.i64.wrap x=if x % 18446744073709551616>=9223372036854775808 then x % 18446744073709551616 - 18446744073709551616 else x % 18446744073709551616:=by
 simp[IntKind.wrap,IntKind.signed,IntKind.bits]
def za7 (n:Nat) (w:Nat):(BitVec.ofInt w (n:Int)).toNat=n % 2 ^ w:=by
 rw[BitVec.toNat_ofInt];have:(n:Int) % ((2 ^ w:Nat):Int)=((n % 2 ^ w:Nat):Int):=by rw[Int.natCast_emod]
 rw[this,Int.toNat_natCast]
def zzz {x y:Nat} (hx:x<2 ^ 64) (hy:y<2 ^ 64):IntKind.u64.wrap (BitVec.ofInt 64 (x:Int) ||| BitVec.ofInt 64 (y:Int)).toNat=((x ||| y:Nat):Int):=by
 rw[BitVec.toNat_or,za7,za7,Nat.mod_eq_of_lt hx,Nat.mod_eq_of_lt hy,zab];have:=Nat.or_lt_two_pow hx hy;omega
def zvy {x y:Nat} (hx:x<2 ^ 64) (hy:y<2 ^ 64):IntKind.u64.wrap (BitVec.ofInt 64 (x:Int) &&& BitVec.ofInt 64 (y:Int)).toNat=((x &&& y:Nat):Int):=by
 rw[BitVec.toNat_and,za7,za7,Nat.mod_eq_of_lt hx,Nat.mod_eq_of_lt hy,zab];have:=Nat.and_lt_two_pow x hy;omega
def zvz {x y:Nat} (hx:x<2 ^ 64) (hy:y<2 ^ 64):IntKind.u64.wrap (BitVec.ofInt 64 (x:Int) ^^^ BitVec.ofInt 64 (y:Int)).toNat=((x ^^^ y:Nat):Int):=by
 rw[BitVec.toNat_xor,za7,za7,Nat.mod_eq_of_lt hx,Nat.mod_eq_of_lt hy,zab];have:=Nat.xor_lt_two_pow hx hy;omega
def zCv {x y:Nat} (hx:x<2 ^ 8) (hy:y<2 ^ 8):IntKind.u8.wrap (BitVec.ofInt 8 (x:Int) ||| BitVec.ofInt 8 (y:Int)).toNat=((x ||| y:Nat):Int):=by
 rw[BitVec.toNat_or,za7,za7,Nat.mod_eq_of_lt hx,Nat.mod_eq_of_lt hy,zfJ];have:=Nat.or_lt_two_pow hx hy;omega
def zzA {x y:Nat} (hx:x<2 ^ 8) (hy:y<2 ^ 8):IntKind.u8.wrap (BitVec.ofInt 8 (x:Int) &&& BitVec.ofInt 8 (y:Int)).toNat=((x &&& y:Nat):Int):=by
 rw[BitVec.toNat_and,za7,za7,Nat.mod_eq_of_lt hx,Nat.mod_eq_of_lt hy,zfJ];have:=Nat.and_lt_two_pow x hy;omega
def zzB {x y:Nat} (hx:x<2 ^ 32) (hy:y<2 ^ 32):IntKind.u32.wrap (BitVec.ofInt 32 (x:Int) ||| BitVec.ofInt 32 (y:Int)).toNat=((x ||| y:Nat):Int):=by
 rw[BitVec.toNat_or,za7,za7,Nat.mod_eq_of_lt hx,Nat.mod_eq_of_lt hy,zc6];have:=Nat.or_lt_two_pow hx hy;omega
def zvA {x y:Nat} (hx:x<2 ^ 32) (hy:y<2 ^ 32):IntKind.u32.wrap (BitVec.ofInt 32 (x:Int) &&& BitVec.ofInt 32 (y:Int)).toNat=((x &&& y:Nat):Int):=by
 rw[BitVec.toNat_and,za7,za7,Nat.mod_eq_of_lt hx,Nat.mod_eq_of_lt hy,zc6];have:=Nat.and_lt_two_pow x hy;omega
def zvB {x y:Nat} (hx:x<2 ^ 32) (hy:y<2 ^ 32):IntKind.u32.wrap (BitVec.ofInt 32 (x:Int) ^^^ BitVec.ofInt 32 (y:Int)).toNat=((x ^^^ y:Nat):Int):=by
 rw[BitVec.toNat_xor,za7,za7,Nat.mod_eq_of_lt hx,Nat.mod_eq_of_lt hy,zc6];have:=Nat.xor_lt_two_pow hx hy;omega
def zmk {x y:Int} (h1:0<=x) (h2:x<256) (h3:0<=y) (h4:y<256):zbI .or .u8 x y=some (.int .u8 ((x.toNat ||| y.toNat:Nat):Int)):=by
 obtain⟨a,rfl⟩:=Int.eq_ofNat_of_zero_le h1;obtain⟨b,rfl⟩:=Int.eq_ofNat_of_zero_le h3
 show some (D.int .u8 _)=_
 rw[Int.toNat_natCast,Int.toNat_natCast];exact congrArg (λz=>some (D.int .u8 z)) (zCv (by omega) (by omega))
attribute [simp] zmk
def zk3 {x y:Int} (h1:0<=x) (h2:x<256) (h3:0<=y) (h4:y<256):zbI .and .u8 x y=some (.int .u8 ((x.toNat &&& y.toNat:Nat):Int)):=by
 obtain⟨a,rfl⟩:=Int.eq_ofNat_of_zero_le h1;obtain⟨b,rfl⟩:=Int.eq_ofNat_of_zero_le h3
 show some (D.int .u8 _)=_
 rw[Int.toNat_natCast,Int.toNat_natCast];exact congrArg (λz=>some (D.int .u8 z)) (zzA (by omega) (by omega))
attribute [simp] zk3
def zk4 {x y:Int} (h1:0<=x) (h2:x<4294967296) (h3:0<=y) (h4:y<4294967296):zbI .or .u32 x y=some (.int .u32 ((x.toNat ||| y.toNat:Nat):Int)):=by
 obtain⟨a,rfl⟩:=Int.eq_ofNat_of_zero_le h1;obtain⟨b,rfl⟩:=Int.eq_ofNat_of_zero_le h3
 show some (D.int .u32 _)=_
 rw[Int.toNat_natCast,Int.toNat_natCast];exact congrArg (λz=>some (D.int .u32 z)) (zzB (by omega) (by omega))
attribute [simp] zk4
def zjK {x y:Int} (h1:0<=x) (h2:x<4294967296) (h3:0<=y) (h4:y<4294967296):zbI .and .u32 x y=some (.int .u32 ((x.toNat &&& y.toNat:Nat):Int)):=by
 obtain⟨a,rfl⟩:=Int.eq_ofNat_of_zero_le h1;obtain⟨b,rfl⟩:=Int.eq_ofNat_of_zero_le h3
 show some (D.int .u32 _)=_
 rw[Int.toNat_natCast,Int.toNat_natCast];exact congrArg (λz=>some (D.int .u32 z)) (zvA (by omega) (by omega))
attribute [simp] zjK
def zjL {x y:Int} (h1:0<=x) (h2:x<4294967296) (h3:0<=y) (h4:y<4294967296):zbI .xor .u32 x y=some (.int .u32 ((x.toNat ^^^ y.toNat:Nat):Int)):=by
 obtain⟨a,rfl⟩:=Int.eq_ofNat_of_zero_le h1;obtain⟨b,rfl⟩:=Int.eq_ofNat_of_zero_le h3
 show some (D.int .u32 _)=_
 rw[Int.toNat_natCast,Int.toNat_natCast];exact congrArg (λz=>some (D.int .u32 z)) (zvB (by omega) (by omega))
attribute [simp] zjL
def zk5 {x y:Int} (h1:0<=x) (h2:x<18446744073709551616) (h3:0<=y) (h4:y<18446744073709551616):zbI .or .u64 x y=some (.int .u64 ((x.toNat ||| y.toNat:Nat):Int)):=by
 obtain⟨a,rfl⟩:=Int.eq_ofNat_of_zero_le h1;obtain⟨b,rfl⟩:=Int.eq_ofNat_of_zero_le h3
 show some (D.int .u64 _)=_
 rw[Int.toNat_natCast,Int.toNat_natCast];exact congrArg (λz=>some (D.int .u64 z)) (zzz (by omega) (by omega))
attribute [simp] zk5
def zjM {x y:Int} (h1:0<=x) (h2:x<18446744073709551616) (h3:0<=y) (h4:y<18446744073709551616):zbI .and .u64 x y=some (.int .u64 ((x.toNat &&& y.toNat:Nat):Int)):=by
 obtain⟨a,rfl⟩:=Int.eq_ofNat_of_zero_le h1;obtain⟨b,rfl⟩:=Int.eq_ofNat_of_zero_le h3
 show some (D.int .u64 _)=_
 rw[Int.toNat_natCast,Int.toNat_natCast];exact congrArg (λz=>some (D.int .u64 z)) (zvy (by omega) (by omega))
attribute [simp] zjM
def zjN {x y:Int} (h1:0<=x) (h2:x<18446744073709551616) (h3:0<=y) (h4:y<18446744073709551616):zbI .xor .u64 x y=some (.int .u64 ((x.toNat ^^^ y.toNat:Nat):Int)):=by
 obtain⟨a,rfl⟩:=Int.eq_ofNat_of_zero_le h1;obtain⟨b,rfl⟩:=Int.eq_ofNat_of_zero_le h3
 show some (D.int .u64 _)=_
 rw[Int.toNat_natCast,Int.toNat_natCast];exact congrArg (λz=>some (D.int .u64 z)) (zvz (by omega) (by omega))
attribute [simp] zjN
def zzC {x y i:Nat} (hx:x % 2 ^ i=0) (hy:y<2 ^ i):x ||| y=x+y:=by
 have e:x=2 ^ i*(x / 2 ^ i):=by
  have:=Nat.div_add_mod x (2 ^ i);omega
 rw[e,Nat.two_pow_add_eq_or_of_lt hy]
def zgO {x y i:Nat} (hx:x % 2 ^ i=0) (hy:y<2 ^ i):y ||| x=y+x:=by rw[Nat.or_comm,zzC hx hy,Nat.add_comm]
def zCw (n:Nat):(n % 256 ||| 128)=n % 128+128:=by
 have h1:n % 256=n % 128+128*(n / 128 % 2):=by omega
 have h2:n / 128 % 2=0\/n / 128 % 2=1:=by omega
 have h3:n % 128<2 ^ 7:=by omega
 rcases h2 with h | h
 ·rw[h1,h,Nat.mul_zero,Nat.add_zero]
  rw[zgO (i:=7) (by decide) h3]
 ·rw[h1,h,Nat.mul_one]
  have:n % 128+128=n % 128 ||| 128:=(zgO (i:=7) (by decide) h3).symm
  rw[this,Nat.or_assoc,Nat.or_self]
def zdI (n k:Nat):n &&& (2 ^ k - 1)=n % 2 ^ k:=Nat.and_two_pow_sub_one_eq_mod n k
def zzD (n:Nat):n &&& 127=n % 128:=zdI n 7
def zD9 (n:Nat):n &&& 1=n % 2:=zdI n 1
def zt0 {x:Nat} (hx:x<2 ^ 64):x ^^^ 18446744073709551615=18446744073709551615 - x:=by
 have h:(BitVec.ofNat 64 x ^^^ BitVec.allOnes 64).toNat=(~~~ BitVec.ofNat 64 x).toNat:=by rw[BitVec.xor_allOnes]
 rw[BitVec.toNat_xor,BitVec.toNat_not,BitVec.toNat_ofNat,BitVec.toNat_allOnes,Nat.mod_eq_of_lt hx]at h;exact h
def zfK {x:Int} (h1: -9223372036854775808<=x) (h2:x<=9223372036854775807):zbI .xor .i64 x 0=some (.int .i64 x):=by
 show some (D.int .i64 (IntKind.i64.wrap (BitVec.ofInt 64 x ^^^ BitVec.ofInt 64 0).toNat))=_
 have:BitVec.ofInt 64 0=0#64:=rfl;rw[this,BitVec.xor_zero,BitVec.toNat_ofInt,zat];congr 2;split <;> omega
def zgP {x:Int} (h1: -9223372036854775808<=x) (h2:x<=9223372036854775807):zbI .xor .i64 x (-1)=some (.int .i64 (-x - 1)):=by
 show some (D.int .i64 (IntKind.i64.wrap (BitVec.ofInt 64 x ^^^ BitVec.ofInt 64 (-1)).toNat))=_
 have:BitVec.ofInt 64 (-1)=BitVec.allOnes 64:=by decide
 rw[this,BitVec.xor_allOnes,BitVec.toNat_not,BitVec.toNat_ofInt,zat];congr 2;split <;> omega
attribute [simp] zfK zgP
def u8n (n:Nat):UInt8:=UInt8.ofNat n
def zce {n:Nat} (h:n<256):(u8n n).toNat=n:=by simp[u8n];omega
def zzE (b:UInt8):u8n b.toNat=b:=by simp[u8n]
abbrev bytes (l:List UInt8):List D:=l.map zb8
def zk6 {b:UInt8} {x:Int} (h:(b.toNat:Int)=x):zb8 b= .int .u8 x:=by simp[zb8,h]
@[simp] def zzF (l:List UInt8):(ByteArray.mk l.toArray).toList=l:=by rw[ByteArray.toList_eq]
@[simp] def zCx (l:List UInt8):(ByteArray.mk l.toArray).size=l.length:=by simp[ByteArray.size]
@[simp] def zwI (l:List UInt8):l.mapM (byteOf? ∘ zb8)=some l:=by rw[<- List.mapM_map];exact zdH l
@[simp] def zwJ (l:List UInt8) (k:Nat):((l.map zb8).take k).mapM byteOf?=some (l.take k):=by rw[<- List.map_take,zdH]
@[simp] def zwK (l:List UInt8) (k:Nat):((l.map zb8).drop k).mapM byteOf?=some (l.drop k):=by rw[<- List.map_drop,zdH]
@[simp] def zrF (l:List UInt8) (k j:Nat):(((l.map zb8).take k).drop j).mapM byteOf?=some ((l.take k).drop j):=by rw[<- List.map_take,<- List.map_drop,zdH]
@[simp] def zt1 (l:List UInt8):zaw 1 (l.map zb8)=true:=zaN l λ_=>rfl
@[simp] def zuT {α:Type} (k:IntKind) (f:α->Int) (l:List α):zaw 1 (l.map λx=>D.int k (f x))=true:=zaN l λ_=>rfl
@[simp] def zuU (l:List ByteArray):zaw 1 (l.map D.str)=true:=zaN l λ_=>rfl
attribute [simp] cut
@[simp] def zuV {α β:Type} (f:α->β) (l:List α):(l.map f).take l.length=l.map f:=List.take_of_length_le (by simp)
attribute [simp] zb8 zce zCw zzD zD9 zzE
attribute [simp] zfJ zc6 zvx ztX ztY ztZ
@[simp] def zuW (m:Nat):((m:Int) % 256).toNat=m % 256:=by omega
@[simp] def zvC (m:Nat):((m:Int) % 4294967296).toNat=m % 4294967296:=by omega
@[simp] def zvD (m:Nat):((m:Int) % 18446744073709551616).toNat=m % 18446744073709551616:=by omega
def zoU (a b:Int) (h:0<=b):a.fdiv b=a / b:=Int.fdiv_eq_ediv_of_nonneg a h
@[simp] def zAN (a:Int) (w:Nat):a.fdiv (2 ^ w)=a / 2 ^ w:=zoU a _ (Int.le_of_lt (Int.pow_pos (by decide)))
attribute [simp] zoU
def zt2 (a b:Int) (h:0<=a):a.tdiv b=a / b:=Int.tdiv_eq_ediv_of_nonneg h
def zt3 (a b:Int) (h:0<=a):a.tmod b=a % b:=Int.tmod_eq_emod_of_nonneg h
attribute [simp] zt2 zt3
end Go.Am
namespace Go.Am.Ab
def nI {m n:Nat}:(m:Int)=n↔m=n:=Int.natCast_inj
def wI {x:Int} (h1: -9223372036854775808<=x) (h2:x<=9223372036854775807):IntKind.i64.wrap x=x:=ztW h1 h2
end Go.Am.Ab
namespace Go.Am.Ab
open Go.Proofs
structure Bun (f:FuncId) (fn:Func) (c:Code) (rs:List ResultVar) (ts:List TypeId):Prop where
 a:Tryz.prog.funcs[f]? =some fn
 b:fn.body=some c
 j:fn.results.toList=rs
 d:fn.resultTypes.toList=ts
 e:codeOk Tryz.prog (Hn f) fn.ntmps c=true
 g : (fn.name == "runtime.NumGoroutine") = false
 i:splits G f=false
def rg {f:FuncId} {fn:Func} {c:Code} {rs:List ResultVar} {ts:List TypeId} {args:List V} {h:List Obj} {r:List V × List Obj} (u:Bun f fn c rs ts) (hl:Nat.ble args.length fn.ntmps=true) (hr: ∀T:Option (List V × List Obj)->Prop,T (some r)->T (zrE Tryz.prog h.length rs ts (zbT Tryz.prog G K Hn (zhp Tryz.prog G K Hn) f h.length 0 c ⟨⟩ (zas 0 args) h))):zhp Tryz.prog G K Hn f args h=some r:=zgd u.a u.b u.j u.d u.e u.g (.inl u.i) (Nat.le_of_ble_eq_true hl) hr
def ra {f:FuncId} {fn:Func} {c:Code} {rs:List ResultVar} {ts:List TypeId} {args:List V} {h:List Obj} {p:Option (List V × List Obj)->Prop} (u:Bun f fn c rs ts) (hl:Nat.ble args.length fn.ntmps=true) (hp: ¬ p none) (hr:p (zrE Tryz.prog h.length rs ts (zbT Tryz.prog G K Hn (zhp Tryz.prog G K Hn) f h.length 0 c ⟨⟩ (zas 0 args) h))):p (zhp Tryz.prog G K Hn f args h):=zvv u.a u.b u.j u.d u.e u.g (.inl u.i) (Nat.le_of_ble_eq_true hl) hp hr
def b7:=Bun.mk (f:=7) (rs:=[.tmp 4]) (ts:=[4]) Tryz.func7 rfl rfl rfl (by kernel_rfl) (by kernel_rfl) zD7
def b14:=Bun.mk (f:=14) (rs:=[.tmp 0]) (ts:=[4]) Tryz.func14 rfl rfl rfl (by kernel_rfl) (by kernel_rfl) zBR
def b15:=Bun.mk (f:=15) (rs:=[.tmp 4,.tmp 5]) (ts:=[24,25]) Tryz.func15 rfl rfl rfl (by kernel_rfl) (by kernel_rfl) zBS
def b17:=Bun.mk (f:=17) (rs:=[.tmp 4,.tmp 5]) (ts:=[24,3]) Tryz.func17 rfl rfl rfl (by kernel_rfl) (by kernel_rfl) zBT
def b20:=Bun.mk (f:=20) (rs:=[.tmp 2,.tmp 3]) (ts:=[37,25]) Tryz.func20 rfl rfl rfl (by kernel_rfl) (by kernel_rfl) zBU
def b21:=Bun.mk (f:=21) (rs:=[.tmp 4]) (ts:=[4]) Tryz.func21 rfl rfl rfl (by kernel_rfl) (by kernel_rfl) zBV
def b22:=Bun.mk (f:=22) (rs:=[.tmp 2]) (ts:=[22]) Tryz.func22 rfl rfl rfl (by kernel_rfl) (by kernel_rfl) zBW
def b23:=Bun.mk (f:=23) (rs:=[.tmp 2]) (ts:=[29]) Tryz.func23 rfl rfl rfl (by kernel_rfl) (by kernel_rfl) zBX
def b24:=Bun.mk (f:=24) (rs:=[.tmp 2]) (ts:=[22]) Tryz.func24 rfl rfl rfl (by kernel_rfl) (by kernel_rfl) zBY
def b25:=Bun.mk (f:=25) (rs:=[.tmp 2]) (ts:=[28]) Tryz.func25 rfl rfl rfl (by kernel_rfl) (by kernel_rfl) zBZ
def b26:=Bun.mk (f:=26) (rs:=[.tmp 2]) (ts:=[3]) Tryz.func26 rfl rfl rfl (by kernel_rfl) (by kernel_rfl) zB0
def b27:=Bun.mk (f:=27) (rs:=[.tmp 4]) (ts:=[4]) Tryz.func27 rfl rfl rfl (by kernel_rfl) (by kernel_rfl) zB1
def b30:=Bun.mk (f:=30) (rs:=[.tmp 4]) (ts:=[4]) Tryz.func30 rfl rfl rfl (by kernel_rfl) (by kernel_rfl) zB2
def b31:=Bun.mk (f:=31) (rs:=[.tmp 2]) (ts:=[24]) Tryz.func31 rfl rfl rfl (by kernel_rfl) (by kernel_rfl) zB3
def b32:=Bun.mk (f:=32) (rs:=[.tmp 2,.tmp 3,.tmp 4]) (ts:=[3,22,3]) Tryz.func32 rfl rfl rfl (by kernel_rfl) (by kernel_rfl) zB4
def b48:=Bun.mk (f:=48) (rs:=[.tmp 2,.tmp 3]) (ts:=[24,4]) Tryz.func48 rfl rfl rfl (by kernel_rfl) (by kernel_rfl) zB5
def b58:=Bun.mk (f:=58) (rs:=[.tmp 2]) (ts:=[28]) Tryz.func58 rfl rfl rfl (by kernel_rfl) (by kernel_rfl) zB6
def b60:=Bun.mk (f:=60) (rs:=[]) (ts:=[]) Tryz.func60 rfl rfl rfl (by kernel_rfl) (by kernel_rfl) zB8
def b61:=Bun.mk (f:=61) (rs:=[.tmp 4]) (ts:=[3]) Tryz.func61 rfl rfl rfl (by kernel_rfl) (by kernel_rfl) zB9
def b62:=Bun.mk (f:=62) (rs:=[.tmp 4]) (ts:=[29]) Tryz.func62 rfl rfl rfl (by kernel_rfl) (by kernel_rfl) zCa
def b63:=Bun.mk (f:=63) (rs:=[.tmp 4]) (ts:=[4]) Tryz.func63 rfl rfl rfl (by kernel_rfl) (by kernel_rfl) zCb
def b64:=Bun.mk (f:=64) (rs:=[.tmp 4,.tmp 5]) (ts:=[24,25]) Tryz.func64 rfl rfl rfl (by kernel_rfl) (by kernel_rfl) zCc
def b65:=Bun.mk (f:=65) (rs:=[.tmp 2]) (ts:=[24]) Tryz.func65 rfl rfl rfl (by kernel_rfl) (by kernel_rfl) zCd
def b66:=Bun.mk (f:=66) (rs:=[.tmp 2]) (ts:=[24]) Tryz.func66 rfl rfl rfl (by kernel_rfl) (by kernel_rfl) zCe
def b67:=Bun.mk (f:=67) (rs:=[.tmp 4,.tmp 5]) (ts:=[24,3]) Tryz.func67 rfl rfl rfl (by kernel_rfl) (by kernel_rfl) zCf
def b68:=Bun.mk (f:=68) (rs:=[.tmp 2]) (ts:=[24]) Tryz.func68 rfl rfl rfl (by kernel_rfl) (by kernel_rfl) zCg
def b69:=Bun.mk (f:=69) (rs:=[.tmp 2,.tmp 3]) (ts:=[24,4]) Tryz.func69 rfl rfl rfl (by kernel_rfl) (by kernel_rfl) zCh
def b70:=Bun.mk (f:=70) (rs:=[.tmp 2,.tmp 3,.tmp 4]) (ts:=[113,3,25]) Tryz.func70 rfl rfl rfl (by kernel_rfl) (by kernel_rfl) zCi
def b71:=Bun.mk (f:=71) (rs:=[.tmp 6,.tmp 7]) (ts:=[29,25]) Tryz.func71 rfl rfl rfl (by kernel_rfl) (by kernel_rfl) zCj
def b72:=Bun.mk (f:=72) (rs:=[.tmp 4]) (ts:=[4]) Tryz.func72 rfl rfl rfl (by kernel_rfl) (by kernel_rfl) zCk
def b73:=Bun.mk (f:=73) (rs:=[.cell 2 47]) (ts:=[47]) Tryz.func73 rfl rfl rfl (by kernel_rfl) (by kernel_rfl) zCl
def b74:=Bun.mk (f:=74) (rs:=[.tmp 4]) (ts:=[3]) Tryz.func74 rfl rfl rfl (by kernel_rfl) (by kernel_rfl) zCm
def b75:=Bun.mk (f:=75) (rs:=[.tmp 6]) (ts:=[4]) Tryz.func75 rfl rfl rfl (by kernel_rfl) (by kernel_rfl) zCn
def b76:=Bun.mk (f:=76) (rs:=[.tmp 3]) (ts:=[4]) Tryz.func76 rfl rfl rfl (by kernel_rfl) (by kernel_rfl) zCo
def b77:=Bun.mk (f:=77) (rs:=[.tmp 3]) (ts:=[4]) Tryz.func77 rfl rfl rfl (by kernel_rfl) (by kernel_rfl) zCp
def b79:=Bun.mk (f:=79) (rs:=[.tmp 4]) (ts:=[59]) Tryz.func79 rfl rfl rfl (by kernel_rfl) (by kernel_rfl) zCq
def b80:=Bun.mk (f:=80) (rs:=[.tmp 2,.tmp 3,.tmp 4]) (ts:=[113,3,3]) Tryz.func80 rfl rfl rfl (by kernel_rfl) (by kernel_rfl) zCr
def b81:=Bun.mk (f:=81) (rs:=[.tmp 6,.tmp 7]) (ts:=[22,4]) Tryz.func81 rfl rfl rfl (by kernel_rfl) (by kernel_rfl) zCs
def zzG:=Bun.mk (f:=106) (rs:=[.tmp 4]) (ts:=[4]) Tryz.func106 rfl rfl rfl (by kernel_rfl) (by kernel_rfl) zxw
def zEa:=Bun.mk (f:=114) (rs:=[]) (ts:=[]) Tryz.func114 rfl rfl rfl (by kernel_rfl) (by kernel_rfl) zxx
def zEb:=Bun.mk (f:=115) (rs:=[.tmp 2]) (ts:=[3]) Tryz.func115 rfl rfl rfl (by kernel_rfl) (by kernel_rfl) zxy
def zCy:=Bun.mk (f:=116) (rs:=[.tmp 4]) (ts:=[3]) Tryz.func116 rfl rfl rfl (by kernel_rfl) (by kernel_rfl) zxz
def zCz:=Bun.mk (f:=117) (rs:=[.tmp 4]) (ts:=[3]) Tryz.func117 rfl rfl rfl (by kernel_rfl) (by kernel_rfl) zxA
def zCA:=Bun.mk (f:=118) (rs:=[.tmp 4]) (ts:=[3]) Tryz.func118 rfl rfl rfl (by kernel_rfl) (by kernel_rfl) zxB
def zEc:=Bun.mk (f:=119) (rs:=[.tmp 2]) (ts:=[155]) Tryz.func119 rfl rfl rfl (by kernel_rfl) (by kernel_rfl) zxC
def zCB:=Bun.mk (f:=120) (rs:=[.tmp 4]) (ts:=[3]) Tryz.func120 rfl rfl rfl (by kernel_rfl) (by kernel_rfl) zxD
def zCC:=Bun.mk (f:=121) (rs:=[.tmp 2]) (ts:=[4]) Tryz.func121 rfl rfl rfl (by kernel_rfl) (by kernel_rfl) zxE
def zEd:=Bun.mk (f:=122) (rs:=[.tmp 4]) (ts:=[4]) Tryz.func122 rfl rfl rfl (by kernel_rfl) (by kernel_rfl) zxF
def zEe:=Bun.mk (f:=123) (rs:=[.tmp 2]) (ts:=[24]) Tryz.func123 rfl rfl rfl (by kernel_rfl) (by kernel_rfl) zxG
def zEf:=Bun.mk (f:=124) (rs:=[.tmp 2,.tmp 3]) (ts:=[24,4]) Tryz.func124 rfl rfl rfl (by kernel_rfl) (by kernel_rfl) zxH
def zAO:=Bun.mk (f:=125) (rs:=[.tmp 2]) (ts:=[24]) Tryz.func125 rfl rfl rfl (by kernel_rfl) (by kernel_rfl) zxI
def zEg:=Bun.mk (f:=126) (rs:=[.tmp 2]) (ts:=[59]) Tryz.func126 rfl rfl rfl (by kernel_rfl) (by kernel_rfl) zxJ
def zEh:=Bun.mk (f:=128) (rs:=[.tmp 2]) (ts:=[24]) Tryz.func128 rfl rfl rfl (by kernel_rfl) (by kernel_rfl) zxL
def zEi:=Bun.mk (f:=129) (rs:=[.tmp 2,.tmp 3]) (ts:=[24,4]) Tryz.func129 rfl rfl rfl (by kernel_rfl) (by kernel_rfl) zxM
def zEj:=Bun.mk (f:=130) (rs:=[.tmp 2]) (ts:=[180]) Tryz.func130 rfl rfl rfl (by kernel_rfl) (by kernel_rfl) zxN
def zEk:=Bun.mk (f:=131) (rs:=[.tmp 2]) (ts:=[24]) Tryz.func131 rfl rfl rfl (by kernel_rfl) (by kernel_rfl) zxO
def zwL:=Bun.mk (f:=132) (rs:=[.tmp 6,.tmp 7]) (ts:=[29,25]) Tryz.func132 rfl rfl rfl (by kernel_rfl) (by kernel_rfl) zxP
def zDk:=Bun.mk (f:=133) (rs:=[.tmp 6,.tmp 7]) (ts:=[188,3]) Tryz.func133 rfl rfl rfl (by kernel_rfl) (by kernel_rfl) zxQ
def zrG:=Bun.mk (f:=134) (rs:=[.tmp 4,.tmp 5]) (ts:=[179,3]) Tryz.func134 rfl rfl rfl (by kernel_rfl) (by kernel_rfl) zxR
def zrb:=Bun.mk (f:=135) (rs:=[.tmp 4,.tmp 5]) (ts:=[180,4]) Tryz.func135 rfl rfl rfl (by kernel_rfl) (by kernel_rfl) zxS
def zEl:=Bun.mk (f:=162) (rs:=[]) (ts:=[]) Tryz.func162 rfl rfl rfl (by kernel_rfl) (by kernel_rfl) zxT
def zEm:=Bun.mk (f:=163) (rs:=[]) (ts:=[]) Tryz.func163 rfl rfl rfl (by kernel_rfl) (by kernel_rfl) zxU
def zEn:=Bun.mk (f:=164) (rs:=[]) (ts:=[]) Tryz.func164 rfl rfl rfl (by kernel_rfl) (by kernel_rfl) zxV
def zzH:=Bun.mk (f:=165) (rs:=[.tmp 8,.tmp 9]) (ts:=[3,225]) Tryz.func165 rfl rfl rfl (by kernel_rfl) (by kernel_rfl) zxW
def zEo:=Bun.mk (f:=166) (rs:=[]) (ts:=[]) Tryz.func166 rfl rfl rfl (by kernel_rfl) (by kernel_rfl) zxX
def zEp:=Bun.mk (f:=167) (rs:=[.tmp 8]) (ts:=[4]) Tryz.func167 rfl rfl rfl (by kernel_rfl) (by kernel_rfl) zxY
def zEq:=Bun.mk (f:=168) (rs:=[.tmp 10]) (ts:=[3]) Tryz.func168 rfl rfl rfl (by kernel_rfl) (by kernel_rfl) zxZ
def zEr:=Bun.mk (f:=169) (rs:=[.tmp 10,.tmp 11]) (ts:=[3,4]) Tryz.func169 rfl rfl rfl (by kernel_rfl) (by kernel_rfl) zx0
def zEs:=Bun.mk (f:=171) (rs:=[.tmp 2]) (ts:=[3]) Tryz.func171 rfl rfl rfl (by kernel_rfl) (by kernel_rfl) zx1
def zEt:=Bun.mk (f:=172) (rs:=[.tmp 2]) (ts:=[4]) Tryz.func172 rfl rfl rfl (by kernel_rfl) (by kernel_rfl) zx2
def zDl:=Bun.mk (f:=173) (rs:=[.tmp 2]) (ts:=[4]) Tryz.func173 rfl rfl rfl (by kernel_rfl) (by kernel_rfl) zx3
def zEu:=Bun.mk (f:=174) (rs:=[.tmp 2]) (ts:=[4]) Tryz.func174 rfl rfl rfl (by kernel_rfl) (by kernel_rfl) zx4
def zDm:=Bun.mk (f:=175) (rs:=[.tmp 2]) (ts:=[4]) Tryz.func175 rfl rfl rfl (by kernel_rfl) (by kernel_rfl) zx5
def zDn:=Bun.mk (f:=176) (rs:=[.tmp 4]) (ts:=[3]) Tryz.func176 rfl rfl rfl (by kernel_rfl) (by kernel_rfl) zx6
def zEv:=Bun.mk (f:=177) (rs:=[.tmp 4,.tmp 5]) (ts:=[24,4]) Tryz.func177 rfl rfl rfl (by kernel_rfl) (by kernel_rfl) zx7
def zzI:=Bun.mk (f:=178) (rs:=[.tmp 4,.tmp 5]) (ts:=[24,4]) Tryz.func178 rfl rfl rfl (by kernel_rfl) (by kernel_rfl) zx8
def zCD:=Bun.mk (f:=179) (rs:=[.tmp 4]) (ts:=[24]) Tryz.func179 rfl rfl rfl (by kernel_rfl) (by kernel_rfl) zx9
def zEw:=Bun.mk (f:=180) (rs:=[.tmp 2]) (ts:=[24]) Tryz.func180 rfl rfl rfl (by kernel_rfl) (by kernel_rfl) zya
def zEx:=Bun.mk (f:=182) (rs:=[]) (ts:=[]) Tryz.func182 rfl rfl rfl (by kernel_rfl) (by kernel_rfl) zyc
def zDo:=Bun.mk (f:=183) (rs:=[.tmp 2]) (ts:=[180]) Tryz.func183 rfl rfl rfl (by kernel_rfl) (by kernel_rfl) zyd
def zEy:=Bun.mk (f:=184) (rs:=[.tmp 4,.tmp 5]) (ts:=[3,4]) Tryz.func184 rfl rfl rfl (by kernel_rfl) (by kernel_rfl) zye
def zEz:=Bun.mk (f:=185) (rs:=[.tmp 4]) (ts:=[59]) Tryz.func185 rfl rfl rfl (by kernel_rfl) (by kernel_rfl) zyf
def zEA:=Bun.mk (f:=186) (rs:=[.tmp 4,.tmp 5]) (ts:=[24,4]) Tryz.func186 rfl rfl rfl (by kernel_rfl) (by kernel_rfl) zyg
def zwM:=Bun.mk (f:=187) (rs:=[.tmp 4,.tmp 5]) (ts:=[24,4]) Tryz.func187 rfl rfl rfl (by kernel_rfl) (by kernel_rfl) zyh
def zEB:=Bun.mk (f:=188) (rs:=[.tmp 2]) (ts:=[24]) Tryz.func188 rfl rfl rfl (by kernel_rfl) (by kernel_rfl) zyi
def zDp:=Bun.mk (f:=189) (rs:=[.tmp 4]) (ts:=[188]) Tryz.func189 rfl rfl rfl (by kernel_rfl) (by kernel_rfl) zyj
def zCE:=Bun.mk (f:=190) (rs:=[.tmp 6,.tmp 7]) (ts:=[188,25]) Tryz.func190 rfl rfl rfl (by kernel_rfl) (by kernel_rfl) zyk
def zCF:=Bun.mk (f:=191) (rs:=[.tmp 6,.tmp 7]) (ts:=[29,25]) Tryz.func191 rfl rfl rfl (by kernel_rfl) (by kernel_rfl) zyl
def znN:=Bun.mk (f:=192) (rs:=[.tmp 6]) (ts:=[179]) Tryz.func192 rfl rfl rfl (by kernel_rfl) (by kernel_rfl) zym
def zCG:=Bun.mk (f:=193) (rs:=[.tmp 4,.tmp 5,.tmp 6]) (ts:=[179,24,4]) Tryz.func193 rfl rfl rfl (by kernel_rfl) (by kernel_rfl) zyn
def zEC:=Bun.mk (f:=194) (rs:=[.tmp 4,.tmp 5,.tmp 6]) (ts:=[180,24,4]) Tryz.func194 rfl rfl rfl (by kernel_rfl) (by kernel_rfl) zyo
def zDq:=Bun.mk (f:=196) (rs:=[.tmp 2]) (ts:=[24]) Tryz.func196 rfl rfl rfl (by kernel_rfl) (by kernel_rfl) zyp
def zDr:=Bun.mk (f:=200) (rs:=[.tmp 2]) (ts:=[24]) Tryz.func200 rfl rfl rfl (by kernel_rfl) (by kernel_rfl) zyq
def zED:=Bun.mk (f:=209) (rs:=[]) (ts:=[]) Tryz.func209 rfl rfl rfl (by kernel_rfl) (by kernel_rfl) zyr
def zDs:=Bun.mk (f:=210) (rs:=[.tmp 2]) (ts:=[76]) Tryz.func210 rfl rfl rfl (by kernel_rfl) (by kernel_rfl) zys
def zEE:=Bun.mk (f:=211) (rs:=[.tmp 2]) (ts:=[113]) Tryz.func211 rfl rfl rfl (by kernel_rfl) (by kernel_rfl) zyt
def zEF:=Bun.mk (f:=212) (rs:=[.tmp 8]) (ts:=[3]) Tryz.func212 rfl rfl rfl (by kernel_rfl) (by kernel_rfl) zyu
def zEG:=Bun.mk (f:=213) (rs:=[.tmp 12]) (ts:=[3]) Tryz.func213 rfl rfl rfl (by kernel_rfl) (by kernel_rfl) zyv
def zEH:=Bun.mk (f:=214) (rs:=[.tmp 2]) (ts:=[3]) Tryz.func214 rfl rfl rfl (by kernel_rfl) (by kernel_rfl) zyw
def zEI:=Bun.mk (f:=215) (rs:=[.tmp 2]) (ts:=[24]) Tryz.func215 rfl rfl rfl (by kernel_rfl) (by kernel_rfl) zyx
def zEJ:=Bun.mk (f:=216) (rs:=[.tmp 2]) (ts:=[24]) Tryz.func216 rfl rfl rfl (by kernel_rfl) (by kernel_rfl) zyy
def zEK:=Bun.mk (f:=217) (rs:=[.tmp 2]) (ts:=[24]) Tryz.func217 rfl rfl rfl (by kernel_rfl) (by kernel_rfl) zyz
def zDt:=Bun.mk (f:=218) (rs:=[.tmp 2]) (ts:=[24]) Tryz.func218 rfl rfl rfl (by kernel_rfl) (by kernel_rfl) zyA
def zDu:=Bun.mk (f:=219) (rs:=[.tmp 2]) (ts:=[24]) Tryz.func219 rfl rfl rfl (by kernel_rfl) (by kernel_rfl) zyB
def zEL:=Bun.mk (f:=220) (rs:=[]) (ts:=[]) Tryz.func220 rfl rfl rfl (by kernel_rfl) (by kernel_rfl) zyC
def zEM:=Bun.mk (f:=221) (rs:=[.tmp 4]) (ts:=[4]) Tryz.func221 rfl rfl rfl (by kernel_rfl) (by kernel_rfl) zyD
def zEN:=Bun.mk (f:=223) (rs:=[.tmp 2]) (ts:=[3]) Tryz.func223 rfl rfl rfl (by kernel_rfl) (by kernel_rfl) zyE
def zEO:=Bun.mk (f:=224) (rs:=[.tmp 2]) (ts:=[179]) Tryz.func224 rfl rfl rfl (by kernel_rfl) (by kernel_rfl) zyF
def zEP:=Bun.mk (f:=225) (rs:=[.tmp 4]) (ts:=[113]) Tryz.func225 rfl rfl rfl (by kernel_rfl) (by kernel_rfl) zyG
def zEQ:=Bun.mk (f:=226) (rs:=[.tmp 4,.tmp 5]) (ts:=[76,76]) Tryz.func226 rfl rfl rfl (by kernel_rfl) (by kernel_rfl) zyH
def zzJ:=Bun.mk (f:=227) (rs:=[.tmp 4,.tmp 5]) (ts:=[179,25]) Tryz.func227 rfl rfl rfl (by kernel_rfl) (by kernel_rfl) zyI
def ztg:=Bun.mk (f:=228) (rs:=[.tmp 4,.tmp 5]) (ts:=[180,25]) Tryz.func228 rfl rfl rfl (by kernel_rfl) (by kernel_rfl) zyJ
def zER:=Bun.mk (f:=229) (rs:=[.tmp 2]) (ts:=[2]) Tryz.func229 rfl rfl rfl (by kernel_rfl) (by kernel_rfl) zyK
def zDv:=Bun.mk (f:=230) (rs:=[.tmp 2]) (ts:=[113]) Tryz.func230 rfl rfl rfl (by kernel_rfl) (by kernel_rfl) zyL
def zzK:=Bun.mk (f:=231) (rs:=[.tmp 6]) (ts:=[188]) Tryz.func231 rfl rfl rfl (by kernel_rfl) (by kernel_rfl) zyM
def zDw:=Bun.mk (f:=233) (rs:=[.tmp 2,.tmp 3,.tmp 4]) (ts:=[2,3,25]) Tryz.func233 rfl rfl rfl (by kernel_rfl) (by kernel_rfl) zyN
def zDx:=Bun.mk (f:=234) (rs:=[.tmp 10,.tmp 11]) (ts:=[3,3]) Tryz.func234 rfl rfl rfl (by kernel_rfl) (by kernel_rfl) zyO
def zDy:=Bun.mk (f:=235) (rs:=[.tmp 2]) (ts:=[179]) Tryz.func235 rfl rfl rfl (by kernel_rfl) (by kernel_rfl) zyP
def zES:=Bun.mk (f:=236) (rs:=[.tmp 4,.tmp 5]) (ts:=[3,4]) Tryz.func236 rfl rfl rfl (by kernel_rfl) (by kernel_rfl) zyQ
def zET:=Bun.mk (f:=237) (rs:=[.tmp 2]) (ts:=[24]) Tryz.func237 rfl rfl rfl (by kernel_rfl) (by kernel_rfl) zyR
def zEU:=Bun.mk (f:=238) (rs:=[.tmp 2]) (ts:=[2]) Tryz.func238 rfl rfl rfl (by kernel_rfl) (by kernel_rfl) zyS
def zEV:=Bun.mk (f:=239) (rs:=[]) (ts:=[]) Tryz.func239 rfl rfl rfl (by kernel_rfl) (by kernel_rfl) zyT
def zEW:=Bun.mk (f:=240) (rs:=[]) (ts:=[]) Tryz.func240 rfl rfl rfl (by kernel_rfl) (by kernel_rfl) zyU
def zEX:=Bun.mk (f:=241) (rs:=[]) (ts:=[]) Tryz.func241 rfl rfl rfl (by kernel_rfl) (by kernel_rfl) zyV
def zzL:=Bun.mk (f:=242) (rs:=[.tmp 6,.tmp 7]) (ts:=[3,225]) Tryz.func242 rfl rfl rfl (by kernel_rfl) (by kernel_rfl) zyW
def zEY:=Bun.mk (f:=243) (rs:=[]) (ts:=[]) Tryz.func243 rfl rfl rfl (by kernel_rfl) (by kernel_rfl) zyX
def zEZ:=Bun.mk (f:=244) (rs:=[.tmp 6]) (ts:=[4]) Tryz.func244 rfl rfl rfl (by kernel_rfl) (by kernel_rfl) zyY
def zE0:=Bun.mk (f:=245) (rs:=[.tmp 8]) (ts:=[3]) Tryz.func245 rfl rfl rfl (by kernel_rfl) (by kernel_rfl) zyZ
def zE1:=Bun.mk (f:=246) (rs:=[.tmp 8,.tmp 9]) (ts:=[3,4]) Tryz.func246 rfl rfl rfl (by kernel_rfl) (by kernel_rfl) zy0
def zE2:=Bun.mk (f:=248) (rs:=[.tmp 4,.tmp 5]) (ts:=[113,113]) Tryz.func248 rfl rfl rfl (by kernel_rfl) (by kernel_rfl) zy1
def zE3:=Bun.mk (f:=249) (rs:=[.tmp 2]) (ts:=[2]) Tryz.func249 rfl rfl rfl (by kernel_rfl) (by kernel_rfl) zy2
def zE4:=Bun.mk (f:=250) (rs:=[.tmp 4]) (ts:=[179]) Tryz.func250 rfl rfl rfl (by kernel_rfl) (by kernel_rfl) zy3
def zzM:=Bun.mk (f:=251) (rs:=[.tmp 4]) (ts:=[179]) Tryz.func251 rfl rfl rfl (by kernel_rfl) (by kernel_rfl) zy4
def zwN:=Bun.mk (f:=252) (rs:=[.tmp 4]) (ts:=[179]) Tryz.func252 rfl rfl rfl (by kernel_rfl) (by kernel_rfl) zy5
def zCH:=Bun.mk (f:=253) (rs:=[]) (ts:=[]) Tryz.func253 rfl rfl rfl (by kernel_rfl) (by kernel_rfl) zy6
def zAP:=Bun.mk (f:=254) (rs:=[.tmp 4,.tmp 5,.tmp 6]) (ts:=[180,24,25]) Tryz.func254 rfl rfl rfl (by kernel_rfl) (by kernel_rfl) zy7
def zDz:=Bun.mk (f:=255) (rs:=[.tmp 2,.tmp 3,.tmp 4]) (ts:=[2,3,3]) Tryz.func255 rfl rfl rfl (by kernel_rfl) (by kernel_rfl) zy8
def zE5:=Bun.mk (f:=257) (rs:=[]) (ts:=[]) Tryz.func257 rfl rfl rfl (by kernel_rfl) (by kernel_rfl) zza
def zDA:=Bun.mk (f:=258) (rs:=[.tmp 2]) (ts:=[179]) Tryz.func258 rfl rfl rfl (by kernel_rfl) (by kernel_rfl) zzb
def zE6:=Bun.mk (f:=259) (rs:=[.tmp 4]) (ts:=[4]) Tryz.func259 rfl rfl rfl (by kernel_rfl) (by kernel_rfl) zzc
def zE7:=Bun.mk (f:=261) (rs:=[]) (ts:=[]) Tryz.func261 rfl rfl rfl (by kernel_rfl) (by kernel_rfl) zzd
def zE8:=Bun.mk (f:=262) (rs:=[.tmp 6]) (ts:=[3]) Tryz.func262 rfl rfl rfl (by kernel_rfl) (by kernel_rfl) zze
def zE9:=Bun.mk (f:=263) (rs:=[.tmp 10]) (ts:=[3]) Tryz.func263 rfl rfl rfl (by kernel_rfl) (by kernel_rfl) zzf
def zDB:=Bun.mk (f:=264) (rs:=[.tmp 2]) (ts:=[113]) Tryz.func264 rfl rfl rfl (by kernel_rfl) (by kernel_rfl) zzg
def zDC:=Bun.mk (f:=265) (rs:=[.tmp 4]) (ts:=[179]) Tryz.func265 rfl rfl rfl (by kernel_rfl) (by kernel_rfl) zzh
def zAQ:=Bun.mk (f:=266) (rs:=[.tmp 6]) (ts:=[188]) Tryz.func266 rfl rfl rfl (by kernel_rfl) (by kernel_rfl) zzi
def zFa:=Bun.mk (f:=267) (rs:=[]) (ts:=[]) Tryz.func267 rfl rfl rfl (by kernel_rfl) (by kernel_rfl) zzj
def zDD:=Bun.mk (f:=268) (rs:=[.tmp 8,.tmp 9]) (ts:=[3,3]) Tryz.func268 rfl rfl rfl (by kernel_rfl) (by kernel_rfl) zzk
def zFb:=Bun.mk (f:=269) (rs:=[]) (ts:=[]) Tryz.func269 rfl rfl rfl (by kernel_rfl) (by kernel_rfl) zzl
def zFc:=Bun.mk (f:=270) (rs:=[]) (ts:=[]) Tryz.func270 rfl rfl rfl (by kernel_rfl) (by kernel_rfl) zzm
def zFd:=Bun.mk (f:=271) (rs:=[]) (ts:=[]) Tryz.func271 rfl rfl rfl (by kernel_rfl) (by kernel_rfl) zzn
def zzN:=Bun.mk (f:=272) (rs:=[.tmp 6,.tmp 7]) (ts:=[3,225]) Tryz.func272 rfl rfl rfl (by kernel_rfl) (by kernel_rfl) zzo
def zFe:=Bun.mk (f:=273) (rs:=[]) (ts:=[]) Tryz.func273 rfl rfl rfl (by kernel_rfl) (by kernel_rfl) zzp
def zFf:=Bun.mk (f:=274) (rs:=[.tmp 6]) (ts:=[4]) Tryz.func274 rfl rfl rfl (by kernel_rfl) (by kernel_rfl) zzq
def zFg:=Bun.mk (f:=275) (rs:=[.tmp 8]) (ts:=[3]) Tryz.func275 rfl rfl rfl (by kernel_rfl) (by kernel_rfl) zzr
def zFh:=Bun.mk (f:=276) (rs:=[.tmp 8,.tmp 9]) (ts:=[3,4]) Tryz.func276 rfl rfl rfl (by kernel_rfl) (by kernel_rfl) zzs
def zFi:=Bun.mk (f:=277) (rs:=[]) (ts:=[]) Tryz.func277 rfl rfl rfl (by kernel_rfl) (by kernel_rfl) zzt
def zFj:=Bun.mk (f:=278) (rs:=[.tmp 6]) (ts:=[3]) Tryz.func278 rfl rfl rfl (by kernel_rfl) (by kernel_rfl) zzu
def zFk:=Bun.mk (f:=279) (rs:=[.tmp 10]) (ts:=[3]) Tryz.func279 rfl rfl rfl (by kernel_rfl) (by kernel_rfl) zzv
def zDE:=Bun.mk (f:=280) (rs:=[.tmp 8,.tmp 9]) (ts:=[3,3]) Tryz.func280 rfl rfl rfl (by kernel_rfl) (by kernel_rfl) zzw
attribute [simp] zas nI wI
end Go.Am.Ab
