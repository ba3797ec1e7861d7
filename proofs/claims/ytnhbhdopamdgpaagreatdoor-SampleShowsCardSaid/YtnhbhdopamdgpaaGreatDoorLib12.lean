/- The calls of Go's library that the recipes come to. -/
import Derived.Test.YtnhbhdopamdgpaaGreatDoorEngLib
import Derived.Test.YtnhbhdopamdgpaaGreatDoorLay12C
namespace Go.Proofs.YtnhbhdopamdgpaaGreatDoor
open Go Go.Eng
set_option maxRecDepth 100000
theorem info9:(Tryz.prog.info? 9).map (fun i=>(i.zero,i.size,i.bytes))=some (some (.string ByteArray.empty),1,16):=by kernel_rfl
theorem gPow:Tryz.prog.globalNamed "internal/strconv.uint64pow10" = some 2:=by kernel_rfl
theorem lFields:CallOK Tryz.prog (oLib 43 ansF):=fields_ok Tryz.lays157 ⟨_,Tryz.func43,by kernel_rfl,by kernel_rfl⟩ info9 fun w hg c hc=>hg.sp c hc
theorem lSplit:CallOK Tryz.prog (oLib 45 ansS):=split_ok Tryz.lays146 ⟨_,Tryz.func45,by kernel_rfl,by kernel_rfl⟩ info9 fun w hg=>hg.len
theorem lItoa:CallOK Tryz.prog (oLib 24 ansI):=itoa_ok Tryz.lays171 ⟨_,Tryz.func24,by kernel_rfl,by kernel_rfl⟩ fun w hg=>by
 obtain⟨cs,t,e,h1,h2⟩:=hg.pow
 show World.var? Tryz.prog w "internal/strconv.uint64pow10" = _
 unfold World.var?
 rw[gPow]
 show (match w.heap[2]? with|some (.cells cs _ _)=>some cs|_=>none)=_
 rw[h1,h2]
noncomputable def lib0:Go.Eng.Call:=altQ (oLib 43 ansF) (altQ (oLib 45 ansS) (altQ (oLib 24 ansI) (oLib 44 ansA)))
end Go.Proofs.YtnhbhdopamdgpaaGreatDoor
