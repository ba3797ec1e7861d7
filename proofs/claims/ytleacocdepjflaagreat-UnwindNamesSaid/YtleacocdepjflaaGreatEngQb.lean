/- A part of the proof: EngQk, EngQb. -/
import Derived.Test.YtleacocdepjflaaGreatEngA
import Derived.Test.YtleacocdepjflaaGreatEngQa
namespace Go.Eng
open Go
set_option linter.unusedVariables false
noncomputable section
def arm_mov (x:Opd) (call:Call) (sh:Nat→Bool) (s:St) (row dst nvi:Nat):Option Res:=match Nat.beq (row % 65536) 6&&isRow (x.ev s.slots) with
  |true=>(moveA s (lvQ s dst) dst nvi (x.ev s.slots)).map .eff
  |false=>some (.eff (movA row (lvQ s dst) dst nvi (x.ev s.slots)))
def arm_pick (c:Opd) (a:Opd) (b:Opd) (call:Call) (sh:Nat→Bool) (s:St) (row dst nvi:Nat):Option Res:=(boolOfA (c.ev s.slots)).bind fun t=>Eff.pure (if t then a.ev s.slots else b.ev s.slots)
def arm_alloc (z:List AV) (call:Call) (sh:Nat→Bool) (s:St) (row dst nvi:Nat):Option Res:=some (.eff { val:=.ptr (lvQ s dst) dst nvi 0 0,upd:=[(lvQ s dst,dst,some (.box nvi z))],tip:=[],rd:=[] })
def arm_box (x:Opd) (call:Call) (sh:Nat→Bool) (s:St) (row dst nvi:Nat):Option Res:=match Nat.beq row 13 with
  |true=>(cellsOf (x.ev s.slots)).bind fun cs=>(dAll cs).bind fun ds=>Eff.pure (.dptr ds 0)
  |false=>(cellsOf (x.ev s.slots)).map fun cs=>.eff { val:=.ptr (lvQ s dst) dst nvi 0 0,upd:=[(lvQ s dst,dst,some (.box nvi cs))],tip:=[],rd:=[] }
def arm_build (z:List AV) (ps:List (Nat×Nat×Opd)) (call:Call) (sh:Nat→Bool) (s:St) (row dst nvi:Nat):Option Res:=(fillA s.slots z ps).bind fun cs=>Eff.pure (.agg cs)
def arm_buildSlice (sz : Nat) (n : Nat) (z : List D) (ps : List (Nat × Opd)) (call : Call) (sh : Nat → Bool) (s : St) (row dst nvi : Nat) : Option Res :=
  match Nat.beq row 2 with
  | true => match Nat.beq n 0 with
   |true=>none
   |false=>(fillA s.slots ((List.replicate n z).flatten.map .d) (ps.map fun p=>(p.1*sz,sz,p.2))).map fun cs=>
    .eff { val:=.bref (lvQ s dst) dst nvi 0 n sz,upd:=[(lvQ s dst,dst,some (.box nvi cs))],tip:=[],rd:=[] }
  |false=>
  match fillD s.mem s.slots sz (List.replicate n z) ps with
  |none=>none
  | some (els, ks) =>
   match Nat.beq row 0 with
   |true=>some (.eff { val:=.own els .full,upd:=frees s.mem ks,tip:=[],rd:=keysE ks })
   |false=>if (lvQ s dst,dst)∈ks then none else
    some (.eff { val:=.ref (lvQ s dst) dst nvi 0 n sz,upd:=frees s.mem ks++[(lvQ s dst,dst,some (.row nvi els))],tip:=[],rd:=keysE ks })
def arm_load (sz:Nat) (agg:Bool) (x:Opd) (call:Call) (sh:Nat→Bool) (s:St) (row dst nvi:Nat):Option Res:=(loadA s.mem sz (x.ev s.slots)).bind fun cs=>(wrapAgg agg cs).map fun v=>.eff { val:=v,upd:=[],tip:=[],rd:=keysOf (x.ev s.slots) }
def arm_store (sz:Nat) (x:Opd) (v:Opd) (call:Call) (sh:Nat→Bool) (s:St) (row dst nvi:Nat):Option Res:=(storeA s.mem sz (x.ev s.slots) (v.ev s.slots)).map .eff
def arm_nilCheck (x:Opd) (call:Call) (sh:Nat→Bool) (s:St) (row dst nvi:Nat):Option Res:=match x.ev s.slots with
  |.ptr lv sl ver i off=>Eff.pure (.ptr lv sl ver i off)
  |.dptr e off=>Eff.pure (.dptr e off)
  |.clo f cs=>Eff.pure (.clo f cs)
  |_=>none
def arm_bin (op:BinOp) (x:Opd) (y:Opd) (call:Call) (sh:Nat→Bool) (s:St) (row dst nvi:Nat):Option Res:=(binA op (x.ev s.slots) (y.ev s.slots)).bind fun v=>Eff.pure (scA v)
def arm_eqb (neg:Bool) (x:Opd) (y:Opd) (call:Call) (sh:Nat→Bool) (s:St) (row dst nvi:Nat):Option Res:=match boolOfA (x.ev s.slots),boolOfA (y.ev s.slots) with
  |some a,some b=>Eff.pure (scA (.bool (if neg then !(a==b) else a==b)))
  |_,_=>none
def arm_eqA (neg:Bool) (sz:Nat) (cells:List (Nat×Nat)) (x:Opd) (y:Opd) (call:Call) (sh:Nat→Bool) (s:St) (row dst nvi:Nat):Option Res:=match x.ev s.slots,y.ev s.slots with
  |.agg xs,.agg ys=>if xs.length≠sz∨ys.length≠sz then none else (eqAll xs ys cells).bind fun b=>Eff.pure (scA (.bool (if neg then !b else b)))
  |_,_=>none
def arm_isErr (neg:Bool) (x:Opd) (call:Call) (sh:Nat→Bool) (s:St) (row dst nvi:Nat):Option Res:=match x.ev s.slots with
  |.d .er=>Eff.pure (scA (.bool neg))
  |.d (.sc .nilIface)=>Eff.pure (scA (.bool !neg))
  |_=>none
def arm_un (op:UnOp) (x:Opd) (call:Call) (sh:Nat→Bool) (s:St) (row dst nvi:Nat):Option Res:=(unA op (x.ev s.slots)).bind fun v=>Eff.pure (scA v)
def arm_conv (k:IntKind) (x:Opd) (call:Call) (sh:Nat→Bool) (s:St) (row dst nvi:Nat):Option Res:=(intOfA (x.ev s.slots)).bind fun n=>Eff.pure (scA (.int k (k.wrap n)))
def arm_field (off:Nat) (sz:Nat) (agg:Bool) (x:Opd) (call:Call) (sh:Nat→Bool) (s:St) (row dst nvi:Nat):Option Res:=match x.ev s.slots with
  |.agg cs=>if off+sz≤cs.length then (wrapAgg agg ((cs.drop off).take sz)).bind Eff.pure else none
  |_=>none
def arm_fieldAddr (off:Nat) (x:Opd) (call:Call) (sh:Nat→Bool) (s:St) (row dst nvi:Nat):Option Res:=match x.ev s.slots with
  |.ptr lv sl ver i o=>Eff.pure (.ptr lv sl ver i (o+off))
  |.dptr e o=>Eff.pure (.dptr e (o+off))
  |_=>none
def arm_indexAddr (sz:Nat) (x:Opd) (i:Opd) (call:Call) (sh:Nat→Bool) (s:St) (row dst nvi:Nat):Option Res:=(natOfA (i.ev s.slots)).bind fun n=>match x.ev s.slots with
  |.d (.sl els)=>match els[n]? with
   |some e=>if e.length=sz then Eff.pure (.dptr e 0) else none
   |none=>none
  |.own els _=>match els[n]? with
   |some e=>if e.length=sz then Eff.pure (.dptr e 0) else none
   |none=>none
  |.ref lv sl ver off ln sz'=>if n<ln∧sz'=sz then Eff.pure (.ptr lv sl ver (off+n) 0) else none
  |.bref lv sl ver off ln sz'=>if n<ln∧sz'=sz then Eff.pure (.ptr lv sl ver 0 (off+n*sz)) else none
  |_=>none
def arm_indexArr (n:Nat) (sz:Nat) (x:Opd) (i:Opd) (call:Call) (sh:Nat→Bool) (s:St) (row dst nvi:Nat):Option Res:=(natOfA (i.ev s.slots)).bind fun k=>if k<n then
   match x.ev s.slots with
   |.ptr lv sl ver j o=>Eff.pure (.ptr lv sl ver j (o+k*sz))
   |.dptr e o=>Eff.pure (.dptr e (o+k*sz))
   |_=>none
  else none
def arm_indexA (n:Nat) (sz:Nat) (agg:Bool) (x:Opd) (i:Opd) (call:Call) (sh:Nat→Bool) (s:St) (row dst nvi:Nat):Option Res:=(natOfA (i.ev s.slots)).bind fun k=>match x.ev s.slots with
  |.agg cs=>if k<n∧k*sz+sz≤cs.length then (wrapAgg agg ((cs.drop (k*sz)).take sz)).bind Eff.pure else none
  |_=>none
def arm_indexS (x:Opd) (i:Opd) (call:Call) (sh:Nat→Bool) (s:St) (row dst nvi:Nat):Option Res:=(natOfA (i.ev s.slots)).bind fun k=>match x.ev s.slots with
  |.d (.sc (.string b))=>match b.data.toList[k]? with
   |some c=>Eff.pure (scA (.int .u8 c.toNat))
   |none=>none
  |_=>none
def arm_slice (sz:Nat) (x:Opd) (lo:Option Opd) (hi:Option Opd) (mx:Option Opd) (call:Call) (sh:Nat→Bool) (s:St) (row dst nvi:Nat):Option Res:=
  match boundA lo s.slots 0,boundA hi s.slots 0,boundA mx s.slots 0 with
  |some l,some h,some k=>match Nat.beq row 3&&(mx.isNone&&isRow (x.ev s.slots)) with
   |true=>(cutA s nvi sz (x.ev s.slots) l (hi.map fun _=>h)).map .eff
   |false=>(sliceA sz (x.ev s.slots) l (hi.map fun _=>h) (mx.map fun _=>k)).bind Eff.pure
  |_,_,_=>none
def arm_sliceS (x:Opd) (lo:Option Opd) (hi:Option Opd) (call:Call) (sh:Nat→Bool) (s:St) (row dst nvi:Nat):Option Res:=match x.ev s.slots with
  |.d (.sc (.string b))=>match boundA lo s.slots 0,boundA hi s.slots b.size with
   |some l,some h=>if l≤h∧h≤b.size then Eff.pure (scA (.string (b.extract l h))) else none
   |_,_=>none
  |_=>none
def arm_extract (x:Opd) (i:Nat) (call:Call) (sh:Nat→Bool) (s:St) (row dst nvi:Nat):Option Res:=match x.ev s.slots with
  |.tup vs=>(vs[i]?).bind Eff.pure
  |_=>none
def arm_len (x:Opd) (call:Call) (sh:Nat→Bool) (s:St) (row dst nvi:Nat):Option Res:=match x.ev s.slots with
  |.d (.sl els)=>Eff.pure (intA els.length)
  |.own els _=>Eff.pure (intA els.length)
  |.ref _ _ _ _ n _=>Eff.pure (intA n)
  |.bref _ _ _ _ n _=>Eff.pure (intA n)
  |_=>none
def arm_lenS (x:Opd) (call:Call) (sh:Nat→Bool) (s:St) (row dst nvi:Nat):Option Res:=match x.ev s.slots with
  |.d (.sc (.string b))=>Eff.pure (intA b.size)
  |_=>none
def arm_capF (x:Opd) (call:Call) (sh:Nat→Bool) (s:St) (row dst nvi:Nat):Option Res:=match x.ev s.slots with
  |.own els .full=>Eff.pure (intA els.length)
  |_=>none
def arm_b2s (x:Opd) (call:Call) (sh:Nat→Bool) (s:St) (row dst nvi:Nat):Option Res:=(elsOf s.mem (x.ev s.slots)).bind fun els=>(bytesOf els).map fun l=>.eff { val:=scA (.string (strOfB l)),upd:=[],tip:=[],rd:=keysOf (x.ev s.slots) }
def arm_s2b (x:Opd) (call:Call) (sh:Nat→Bool) (s:St) (row dst nvi:Nat):Option Res:=match x.ev s.slots with
  |.d (.sc (.string b))=>Eff.pure (.d (.sl (b.data.toList.map fun c=>[.sc (.int .u8 c.toNat)])))
  |_=>none
def arm_mkSet  (call:Call) (sh:Nat→Bool) (s:St) (row dst nvi:Nat):Option Res:=some (.eff { val:=.mp (lvQ s dst) dst nvi,upd:=[(lvQ s dst,dst,some (.mp nvi []))],tip:=[],rd:=[] })
def arm_hasK (m:Opd) (k:Opd) (call:Call) (sh:Nat→Bool) (s:St) (row dst nvi:Nat):Option Res:=match m.ev s.slots,k.ev s.slots with
  |.mp lv sl ver,.d (.sc (.string b))=>(setAt s.mem lv sl ver).map fun ks=>.eff { val:=scA (.bool (hasB ks b.data.toList)),upd:=[],tip:=[],rd:=[keyE lv sl] }
  |_,_=>none
def arm_addK (m:Opd) (k:Opd) (call:Call) (sh:Nat→Bool) (s:St) (row dst nvi:Nat):Option Res:=match m.ev s.slots,k.ev s.slots with
  |.mp lv sl ver,.d (.sc (.string b))=>(setAt s.mem lv sl ver).map fun ks=>.eff { val:=undefA,upd:=[(lv,sl,some (.mp ver (addB ks b.data.toList)))],tip:=[],rd:=[keyE lv sl] }
  |_,_=>none
def arm_lenC (n:Nat) (call:Call) (sh:Nat→Bool) (s:St) (row dst nvi:Nat):Option Res:=Eff.pure (intA n)
def arm_mini (x:Opd) (y:Opd) (call:Call) (sh:Nat→Bool) (s:St) (row dst nvi:Nat):Option Res:=match x.ev s.slots,y.ev s.slots with
  |.d (.sc (.int k a)),.d (.sc (.int k' b))=>if k=k' then Eff.pure (scA (.int k (min a b))) else none
  |_,_=>none
def arm_maxi (x:Opd) (y:Opd) (call:Call) (sh:Nat→Bool) (s:St) (row dst nvi:Nat):Option Res:=match x.ev s.slots,y.ev s.slots with
  |.d (.sc (.int k a)),.d (.sc (.int k' b))=>if k=k' then Eff.pure (scA (.int k (max a b))) else none
  |_,_=>none
def arm_append (sz:Nat) (bytes:Nat) (x:Opd) (y:Opd) (call:Call) (sh:Nat→Bool) (s:St) (row dst nvi:Nat):Option Res:=match Nat.beq row 11 with
  |true=>(appendB s (lvQ s dst) dst nvi sz bytes (x.ev s.slots) (y.ev s.slots)).map .eff
  |false=>(appendA s (!Nat.beq row 0) (placeA row (lvQ s dst) dst).1 (placeA row (lvQ s dst) dst).2 nvi sz bytes (x.ev s.slots) (y.ev s.slots)).map .eff
def arm_appendZ (sz:Nat) (bytes:Nat) (z:List D) (x:Opd) (n:Opd) (call:Call) (sh:Nat→Bool) (s:St) (row dst nvi:Nat):Option Res:=(natOfA (n.ev s.slots)).bind fun k=>if z.length=sz∧k≤maxLenA∧k*bytes≤roomA then
   (appendA s (!Nat.beq row 0) (lvQ s dst) dst nvi sz bytes (x.ev s.slots) (.d (.sl (List.replicate k z)))).map .eff else none
def arm_copy (sz:Nat) (x:Opd) (y:Opd) (call:Call) (sh:Nat→Bool) (s:St) (row dst nvi:Nat):Option Res:=match x.ev s.slots,newsOf s.mem (y.ev s.slots) with
  |.bref lv sl ver off n sz',some news=>match boxAt s.mem lv sl ver with
   | some cs => if sz' = sz ∧ off + n * sz ≤ cs.length ∧ news.all (fun e => e.length == sz) then
     some (.eff { val:=intA (min news.length n),upd:=[(lv,sl,some (.box ver (splice cs off ((news.take (min news.length n)).flatten.map .d))))],tip:=[],rd:=keyE lv sl :: keysOf (y.ev s.slots) }) else none
   |none=>none
  |.ref lv sl ver off ln sz',some news=>match rowAt s.mem lv sl ver with
   | some els => if sz' = sz ∧ off + ln ≤ els.length ∧ news.all (fun e => e.length == sz) then
     some (.eff { val:=intA (min news.length ln),upd:=[(lv,sl,some (.row ver (splice els off (news.take (min news.length ln)))))],tip:=[],rd:=keyE lv sl :: keysOf (y.ev s.slots) }) else none
   |none=>none
  |_,_=>none
def arm_makeSlice (sz : Nat) (bytes : Nat) (z : List D) (l : Opd) (c : Opd) (call : Call) (sh : Nat → Bool) (s : St) (row dst nvi : Nat) : Option Res := match natOfA (l.ev s.slots), natOfA (c.ev s.slots) with
  | some l, some c => if l ≤ c ∧ bytes * c ≤ roomA ∧ c ≤ maxLenA ∧ z.length = sz then
    some (.eff { val:=.ref (lvQ s dst) dst nvi 0 l sz,upd:=[(lvQ s dst,dst,some (.row nvi (List.replicate l z)))],tip:=[],rd:=[] }) else none
  |_,_=>none
def arm_makeFunc (f:Nat) (cap:List Opd) (call:Call) (sh:Nat→Bool) (s:St) (row dst nvi:Nat):Option Res:=if (evs s.slots cap).all isCell0 then Eff.pure (.clo f (evs s.slots cap)) else none
def arm_sliceB (n:Nat) (sz:Nat) (x:Opd) (call:Call) (sh:Nat→Bool) (s:St) (row dst nvi:Nat):Option Res:=match x.ev s.slots with
  |.ptr lv sl ver i off=>match Nat.beq i 0 with
   |true=>Eff.pure (.bref lv sl ver off n sz)
   |false=>none
  |_=>none
def arm_sliceL (lo:Nat) (n:Nat) (sz:Nat) (x:Opd) (call:Call) (sh:Nat→Bool) (s:St) (row dst nvi:Nat):Option Res:=match x.ev s.slots with
  |.ptr lv sl ver i off=>match Nat.beq i 0&&Nat.blt lo n with
   |true=>Eff.pure (.bref lv sl ver (off+lo*sz) (n-lo) sz)
   |false=>none
  |_=>none
def arm_clear (sz:Nat) (z:List D) (x:Opd) (call:Call) (sh:Nat→Bool) (s:St) (row dst nvi:Nat):Option Res:=match x.ev s.slots with
  |.ref lv sl ver off ln sz'=>match rowAt s.mem lv sl ver with
   | some els => if sz' = sz ∧ off + ln ≤ els.length ∧ z.length = sz then
     some (.eff { val:=undefA,upd:=[(lv,sl,some (.row ver (splice els off (List.replicate ln z))))],tip:=[],rd:=[keyE lv sl] }) else none
   |none=>none
  |_=>none
def arm_grow (sz:Nat) (x:Opd) (n:Opd) (call:Call) (sh:Nat→Bool) (s:St) (row dst nvi:Nat):Option Res:=match x.ev s.slots,natOfA (n.ev s.slots) with
  |.own [] .full,some _=>some (.eff { val:=.own [] (.tip nvi sz),upd:=[],tip:=[(nvi,true)],rd:=[] })
  |_,_=>none
def arm_clone (sz:Nat) (bytes:Nat) (x:Opd) (call:Call) (sh:Nat→Bool) (s:St) (row dst nvi:Nat):Option Res:=match Nat.beq row 11 with
  |true=>(appendB s (lvQ s dst) dst nvi sz bytes (.own [] .full) (x.ev s.slots)).map .eff
  |false=>match elsOf s.mem (x.ev s.slots) with
  |some _=>(appendA s (!Nat.beq row 0) (lvQ s dst) dst nvi sz bytes (.own [] .full) (x.ev s.slots)).map .eff
  |none=>none
def arm_sort (x:Opd) (call:Call) (sh:Nat→Bool) (s:St) (row dst nvi:Nat):Option Res:=(sortA s (x.ev s.slots)).map .eff
def arm_compact (x:Opd) (call:Call) (sh:Nat→Bool) (s:St) (row dst nvi:Nat):Option Res:=(compactA s nvi (x.ev s.slots)).map .eff
def arm_bad  (call:Call) (sh:Nat→Bool) (s:St) (row dst nvi:Nat):Option Res:=none
def arm_call (f:Nat) (args:List Opd) (call:Call) (sh:Nat→Bool) (s:St) (row dst nvi:Nat):Option Res:=match Nat.ble 1099511627776 row with
  |true=>doHide call (row % 4294967296) (keysH (s.mem.length-1) 4 (row / 1099511627776)) (if hasNat1 1023 4 (row / 1099511627776) then ptrK (evs s.slots args) else []) s (lvQ s dst) dst nvi f (evs s.slots args)
  |false=>match Nat.beq row 7 with
  |true=>doFlat call s f (evs s.slots args)
  |false=>match Nat.beq row 8 with
  |true=>doKeep call s f (evs s.slots args)
  |false=>match Nat.beq row 9 with
  |true=>doGive call s nvi f (evs s.slots args)
  |false=>match Nat.beq row 10 with
  |true=>doLend call s nvi f (evs s.slots args)
  |false=>doCall call (sh f) row s (lvQ s dst) dst nvi f (evs s.slots args)
def arm_callF (f:Nat) (args:List Opd) (call:Call) (sh:Nat→Bool) (s:St) (row dst nvi:Nat):Option Res:=match Nat.ble 1099511627776 row with
  |true=>doHide call (row % 4294967296) (keysH (s.mem.length-1) 4 (row / 1099511627776)) (if hasNat1 1023 4 (row / 1099511627776) then ptrK (evs s.slots args) else []) s (lvQ s dst) dst nvi f (evs s.slots args)
  |false=>match sh f with
  |true=>doCall call true row s (lvQ s dst) dst nvi f (evs s.slots args)
  |false=>doFlat call s f (evs s.slots args)
def arm_callv (x:Opd) (args:List Opd) (call:Call) (sh:Nat→Bool) (s:St) (row dst nvi:Nat):Option Res:=match x.ev s.slots with
  |.clo f cap=>doCall call (sh f) row s (lvQ s dst) dst nvi f (evs s.slots args++cap)
  |_=>none
def AOp.runQ (o:AOp) (call:Call) (sh:Nat→Bool) (s:St) (row dst nvi:Nat):Option Res:=AOp.rec (motive:=fun _=>Call→(Nat→Bool)→St→Nat→Nat→Nat→Option Res) arm_mov arm_pick arm_alloc arm_box arm_build arm_buildSlice arm_load arm_store arm_nilCheck arm_bin arm_eqb arm_eqA arm_isErr arm_un arm_conv arm_field arm_fieldAddr arm_indexAddr arm_indexArr arm_indexA arm_indexS arm_slice arm_sliceS arm_extract arm_len arm_lenS arm_capF arm_b2s arm_s2b arm_mkSet arm_hasK arm_addK arm_lenC arm_mini arm_maxi arm_append arm_appendZ arm_copy arm_makeSlice arm_makeFunc arm_sliceB arm_sliceL arm_clear arm_grow arm_clone arm_sort arm_compact arm_bad arm_call arm_callF arm_callv o call sh s row dst nvi
theorem AOp.runQ_eq (o:AOp) (call:Call) (sh:Nat→Bool) (s:St) (row dst nvi:Nat):AOp.runQ o call sh s row dst nvi=AOp.run call sh s row dst nvi o:=by cases o<;>rfl
end
end Go.Eng
namespace Go.Eng
open Go
set_option linter.unusedVariables false
set_option linter.unusedSimpArgs false
noncomputable section
abbrev Mm:=List (Tr Ent)
abbrev R1:=Call→(Nat→Bool)→Nat→Q→Mm→Tr Unit→Nat→(Res→Ans)→Ans
def cK (v:AV):Gt:=fun k q=>k v
def opdK:Opd→Gt
 |.t n=>gK n
 |.c v=>cK v
def Opd.sub (f:Nat→AV):Opd→Opd
 |.t n=>.c (f n)
 |.c v=>.c v
def evK:List Gt→(List AV→Ans)→Q→Ans:=List.rec (fun k _=>k []) fun x _ ih k q=>x (fun v=>ih (fun vs=>k (v :: vs)) q) q
def partK:List (Nat×Nat×Gt)→(List (Nat×Nat×Opd)→Ans)→Q→Ans:=List.rec (fun k _=>k []) fun x _ ih k q=>x.2.2 (fun v=>ih (fun vs=>k ((x.1,x.2.1,.c v) :: vs)) q) q
def part2K:List (Nat×Gt)→(List (Nat×Opd)→Ans)→Q→Ans:=List.rec (fun k _=>k []) fun x _ ih k q=>x.2 (fun v=>ih (fun vs=>k ((x.1,.c v) :: vs)) q) q
def optGK:Option Gt→(Option Opd→Ans)→Q→Ans:=Option.rec (fun k _=>k none) fun x k q=>x (fun v=>k (some (.c v))) q
def optK (k:Res→Ans) (r:Option Res):Ans:=Option.rec (motive:=fun _=>Ans) none k r
def AOp.sub (f:Nat→AV):AOp→AOp
 |.mov y0=>.mov (y0.sub f)
 |.pick y0 y1 y2=>.pick (y0.sub f) (y1.sub f) (y2.sub f)
 |.alloc y0=>.alloc y0
 |.box y0=>.box (y0.sub f)
 |.build y0 y1=>.build y0 (y1.map fun p=>(p.1,p.2.1,p.2.2.sub f))
 |.buildSlice y0 y1 y2 y3=>.buildSlice y0 y1 y2 (y3.map fun p=>(p.1,p.2.sub f))
 |.load y0 y1 y2=>.load y0 y1 (y2.sub f)
 |.store y0 y1 y2=>.store y0 (y1.sub f) (y2.sub f)
 |.nilCheck y0=>.nilCheck (y0.sub f)
 |.bin y0 y1 y2=>.bin y0 (y1.sub f) (y2.sub f)
 |.eqb y0 y1 y2=>.eqb y0 (y1.sub f) (y2.sub f)
 |.eqA y0 y1 y2 y3 y4=>.eqA y0 y1 y2 (y3.sub f) (y4.sub f)
 |.isErr y0 y1=>.isErr y0 (y1.sub f)
 |.un y0 y1=>.un y0 (y1.sub f)
 |.conv y0 y1=>.conv y0 (y1.sub f)
 |.field y0 y1 y2 y3=>.field y0 y1 y2 (y3.sub f)
 |.fieldAddr y0 y1=>.fieldAddr y0 (y1.sub f)
 |.indexAddr y0 y1 y2=>.indexAddr y0 (y1.sub f) (y2.sub f)
 |.indexArr y0 y1 y2 y3=>.indexArr y0 y1 (y2.sub f) (y3.sub f)
 |.indexA y0 y1 y2 y3 y4=>.indexA y0 y1 y2 (y3.sub f) (y4.sub f)
 |.indexS y0 y1=>.indexS (y0.sub f) (y1.sub f)
 |.slice y0 y1 y2 y3 y4=>.slice y0 (y1.sub f) (y2.map (Opd.sub f)) (y3.map (Opd.sub f)) (y4.map (Opd.sub f))
 |.sliceS y0 y1 y2=>.sliceS (y0.sub f) (y1.map (Opd.sub f)) (y2.map (Opd.sub f))
 |.extract y0 y1=>.extract (y0.sub f) y1
 |.len y0=>.len (y0.sub f)
 |.lenS y0=>.lenS (y0.sub f)
 |.capF y0=>.capF (y0.sub f)
 |.b2s y0=>.b2s (y0.sub f)
 |.s2b y0=>.s2b (y0.sub f)
 |.mkSet=>.mkSet
 |.hasK y0 y1=>.hasK (y0.sub f) (y1.sub f)
 |.addK y0 y1=>.addK (y0.sub f) (y1.sub f)
 |.lenC y0=>.lenC y0
 |.mini y0 y1=>.mini (y0.sub f) (y1.sub f)
 |.maxi y0 y1=>.maxi (y0.sub f) (y1.sub f)
 |.append y0 y1 y2 y3=>.append y0 y1 (y2.sub f) (y3.sub f)
 |.appendZ y0 y1 y2 y3 y4=>.appendZ y0 y1 y2 (y3.sub f) (y4.sub f)
 |.copy y0 y1 y2=>.copy y0 (y1.sub f) (y2.sub f)
 |.makeSlice y0 y1 y2 y3 y4=>.makeSlice y0 y1 y2 (y3.sub f) (y4.sub f)
 |.makeFunc y0 y1=>.makeFunc y0 (y1.map (Opd.sub f))
 |.sliceB y0 y1 y2=>.sliceB y0 y1 (y2.sub f)
 |.sliceL y0 y1 y2 y3=>.sliceL y0 y1 y2 (y3.sub f)
 |.clear y0 y1 y2=>.clear y0 y1 (y2.sub f)
 |.grow y0 y1 y2=>.grow y0 (y1.sub f) (y2.sub f)
 |.clone y0 y1 y2=>.clone y0 y1 (y2.sub f)
 |.sort y0=>.sort (y0.sub f)
 |.compact y0=>.compact (y0.sub f)
 |.bad=>.bad
 |.call y0 y1=>.call y0 (y1.map (Opd.sub f))
 |.callF y0 y1=>.callF y0 (y1.map (Opd.sub f))
 |.callv y0 y1=>.callv (y0.sub f) (y1.map (Opd.sub f))
def r_mov (y0:Gt) (row d:Nat):R1:=fun call sh nvi q0 m0 t0 n0 k0=>y0 (fun vy0=>optK k0 (arm_mov (.c vy0) call sh ⟨.lf,m0,t0,n0⟩ row d nvi)) q0
def r_pick (y0:Gt) (y1:Gt) (y2:Gt) (row d:Nat):R1:=fun call sh nvi q0 m0 t0 n0 k0=>y0 (fun vy0=>y1 (fun vy1=>y2 (fun vy2=>optK k0 (arm_pick (.c vy0) (.c vy1) (.c vy2) call sh ⟨.lf,m0,t0,n0⟩ row d nvi)) q0) q0) q0
def r_alloc (y0:List AV) (row d:Nat):R1:=fun call sh nvi q0 m0 t0 n0 k0=>optK k0 (arm_alloc y0 call sh ⟨.lf,m0,t0,n0⟩ row d nvi)
def r_box (y0:Gt) (row d:Nat):R1:=fun call sh nvi q0 m0 t0 n0 k0=>y0 (fun vy0=>optK k0 (arm_box (.c vy0) call sh ⟨.lf,m0,t0,n0⟩ row d nvi)) q0
def r_build (y0:List AV) (y1:List (Nat×Nat×Gt)) (row d:Nat):R1:=fun call sh nvi q0 m0 t0 n0 k0=>partK y1 (fun vy1=>optK k0 (arm_build y0 vy1 call sh ⟨.lf,m0,t0,n0⟩ row d nvi)) q0
def r_buildSlice (y0:Nat) (y1:Nat) (y2:List D) (y3:List (Nat×Gt)) (row d:Nat):R1:=fun call sh nvi q0 m0 t0 n0 k0=>part2K y3 (fun vy3=>optK k0 (arm_buildSlice y0 y1 y2 vy3 call sh ⟨.lf,m0,t0,n0⟩ row d nvi)) q0
def r_load (y0:Nat) (y1:Bool) (y2:Gt) (row d:Nat):R1:=fun call sh nvi q0 m0 t0 n0 k0=>y2 (fun vy2=>optK k0 (arm_load y0 y1 (.c vy2) call sh ⟨.lf,m0,t0,n0⟩ row d nvi)) q0
def r_store (y0:Nat) (y1:Gt) (y2:Gt) (row d:Nat):R1:=fun call sh nvi q0 m0 t0 n0 k0=>y1 (fun vy1=>y2 (fun vy2=>optK k0 (arm_store y0 (.c vy1) (.c vy2) call sh ⟨.lf,m0,t0,n0⟩ row d nvi)) q0) q0
def r_nilCheck (y0:Gt) (row d:Nat):R1:=fun call sh nvi q0 m0 t0 n0 k0=>y0 (fun vy0=>optK k0 (arm_nilCheck (.c vy0) call sh ⟨.lf,m0,t0,n0⟩ row d nvi)) q0
def r_bin (y0:BinOp) (y1:Gt) (y2:Gt) (row d:Nat):R1:=fun call sh nvi q0 m0 t0 n0 k0=>y1 (fun vy1=>y2 (fun vy2=>optK k0 (arm_bin y0 (.c vy1) (.c vy2) call sh ⟨.lf,m0,t0,n0⟩ row d nvi)) q0) q0
def r_eqb (y0:Bool) (y1:Gt) (y2:Gt) (row d:Nat):R1:=fun call sh nvi q0 m0 t0 n0 k0=>y1 (fun vy1=>y2 (fun vy2=>optK k0 (arm_eqb y0 (.c vy1) (.c vy2) call sh ⟨.lf,m0,t0,n0⟩ row d nvi)) q0) q0
def r_eqA (y0:Bool) (y1:Nat) (y2:List (Nat×Nat)) (y3:Gt) (y4:Gt) (row d:Nat):R1:=fun call sh nvi q0 m0 t0 n0 k0=>y3 (fun vy3=>y4 (fun vy4=>optK k0 (arm_eqA y0 y1 y2 (.c vy3) (.c vy4) call sh ⟨.lf,m0,t0,n0⟩ row d nvi)) q0) q0
def r_isErr (y0:Bool) (y1:Gt) (row d:Nat):R1:=fun call sh nvi q0 m0 t0 n0 k0=>y1 (fun vy1=>optK k0 (arm_isErr y0 (.c vy1) call sh ⟨.lf,m0,t0,n0⟩ row d nvi)) q0
def r_un (y0:UnOp) (y1:Gt) (row d:Nat):R1:=fun call sh nvi q0 m0 t0 n0 k0=>y1 (fun vy1=>optK k0 (arm_un y0 (.c vy1) call sh ⟨.lf,m0,t0,n0⟩ row d nvi)) q0
def r_conv (y0:IntKind) (y1:Gt) (row d:Nat):R1:=fun call sh nvi q0 m0 t0 n0 k0=>y1 (fun vy1=>optK k0 (arm_conv y0 (.c vy1) call sh ⟨.lf,m0,t0,n0⟩ row d nvi)) q0
def r_field (y0:Nat) (y1:Nat) (y2:Bool) (y3:Gt) (row d:Nat):R1:=fun call sh nvi q0 m0 t0 n0 k0=>y3 (fun vy3=>optK k0 (arm_field y0 y1 y2 (.c vy3) call sh ⟨.lf,m0,t0,n0⟩ row d nvi)) q0
def r_fieldAddr (y0:Nat) (y1:Gt) (row d:Nat):R1:=fun call sh nvi q0 m0 t0 n0 k0=>y1 (fun vy1=>optK k0 (arm_fieldAddr y0 (.c vy1) call sh ⟨.lf,m0,t0,n0⟩ row d nvi)) q0
def r_indexAddr (y0:Nat) (y1:Gt) (y2:Gt) (row d:Nat):R1:=fun call sh nvi q0 m0 t0 n0 k0=>y1 (fun vy1=>y2 (fun vy2=>optK k0 (arm_indexAddr y0 (.c vy1) (.c vy2) call sh ⟨.lf,m0,t0,n0⟩ row d nvi)) q0) q0
def r_indexArr (y0:Nat) (y1:Nat) (y2:Gt) (y3:Gt) (row d:Nat):R1:=fun call sh nvi q0 m0 t0 n0 k0=>y2 (fun vy2=>y3 (fun vy3=>optK k0 (arm_indexArr y0 y1 (.c vy2) (.c vy3) call sh ⟨.lf,m0,t0,n0⟩ row d nvi)) q0) q0
def r_indexA (y0:Nat) (y1:Nat) (y2:Bool) (y3:Gt) (y4:Gt) (row d:Nat):R1:=fun call sh nvi q0 m0 t0 n0 k0=>y3 (fun vy3=>y4 (fun vy4=>optK k0 (arm_indexA y0 y1 y2 (.c vy3) (.c vy4) call sh ⟨.lf,m0,t0,n0⟩ row d nvi)) q0) q0
def r_indexS (y0:Gt) (y1:Gt) (row d:Nat):R1:=fun call sh nvi q0 m0 t0 n0 k0=>y0 (fun vy0=>y1 (fun vy1=>optK k0 (arm_indexS (.c vy0) (.c vy1) call sh ⟨.lf,m0,t0,n0⟩ row d nvi)) q0) q0
def r_slice (y0:Nat) (y1:Gt) (y2:Option Gt) (y3:Option Gt) (y4:Option Gt) (row d:Nat):R1:=fun call sh nvi q0 m0 t0 n0 k0=>y1 (fun vy1=>optGK y2 (fun vy2=>optGK y3 (fun vy3=>optGK y4 (fun vy4=>optK k0 (arm_slice y0 (.c vy1) vy2 vy3 vy4 call sh ⟨.lf,m0,t0,n0⟩ row d nvi)) q0) q0) q0) q0
def r_sliceS (y0:Gt) (y1:Option Gt) (y2:Option Gt) (row d:Nat):R1:=fun call sh nvi q0 m0 t0 n0 k0=>y0 (fun vy0=>optGK y1 (fun vy1=>optGK y2 (fun vy2=>optK k0 (arm_sliceS (.c vy0) vy1 vy2 call sh ⟨.lf,m0,t0,n0⟩ row d nvi)) q0) q0) q0
def r_extract (y0:Gt) (y1:Nat) (row d:Nat):R1:=fun call sh nvi q0 m0 t0 n0 k0=>y0 (fun vy0=>optK k0 (arm_extract (.c vy0) y1 call sh ⟨.lf,m0,t0,n0⟩ row d nvi)) q0
def r_len (y0:Gt) (row d:Nat):R1:=fun call sh nvi q0 m0 t0 n0 k0=>y0 (fun vy0=>optK k0 (arm_len (.c vy0) call sh ⟨.lf,m0,t0,n0⟩ row d nvi)) q0
def r_lenS (y0:Gt) (row d:Nat):R1:=fun call sh nvi q0 m0 t0 n0 k0=>y0 (fun vy0=>optK k0 (arm_lenS (.c vy0) call sh ⟨.lf,m0,t0,n0⟩ row d nvi)) q0
def r_capF (y0:Gt) (row d:Nat):R1:=fun call sh nvi q0 m0 t0 n0 k0=>y0 (fun vy0=>optK k0 (arm_capF (.c vy0) call sh ⟨.lf,m0,t0,n0⟩ row d nvi)) q0
def r_b2s (y0:Gt) (row d:Nat):R1:=fun call sh nvi q0 m0 t0 n0 k0=>y0 (fun vy0=>optK k0 (arm_b2s (.c vy0) call sh ⟨.lf,m0,t0,n0⟩ row d nvi)) q0
def r_s2b (y0:Gt) (row d:Nat):R1:=fun call sh nvi q0 m0 t0 n0 k0=>y0 (fun vy0=>optK k0 (arm_s2b (.c vy0) call sh ⟨.lf,m0,t0,n0⟩ row d nvi)) q0
def r_mkSet (row d:Nat):R1:=fun call sh nvi q0 m0 t0 n0 k0=>optK k0 (arm_mkSet call sh ⟨.lf,m0,t0,n0⟩ row d nvi)
def r_hasK (y0:Gt) (y1:Gt) (row d:Nat):R1:=fun call sh nvi q0 m0 t0 n0 k0=>y0 (fun vy0=>y1 (fun vy1=>optK k0 (arm_hasK (.c vy0) (.c vy1) call sh ⟨.lf,m0,t0,n0⟩ row d nvi)) q0) q0
def r_addK (y0:Gt) (y1:Gt) (row d:Nat):R1:=fun call sh nvi q0 m0 t0 n0 k0=>y0 (fun vy0=>y1 (fun vy1=>optK k0 (arm_addK (.c vy0) (.c vy1) call sh ⟨.lf,m0,t0,n0⟩ row d nvi)) q0) q0
def r_lenC (y0:Nat) (row d:Nat):R1:=fun call sh nvi q0 m0 t0 n0 k0=>optK k0 (arm_lenC y0 call sh ⟨.lf,m0,t0,n0⟩ row d nvi)
def r_mini (y0:Gt) (y1:Gt) (row d:Nat):R1:=fun call sh nvi q0 m0 t0 n0 k0=>y0 (fun vy0=>y1 (fun vy1=>optK k0 (arm_mini (.c vy0) (.c vy1) call sh ⟨.lf,m0,t0,n0⟩ row d nvi)) q0) q0
def r_maxi (y0:Gt) (y1:Gt) (row d:Nat):R1:=fun call sh nvi q0 m0 t0 n0 k0=>y0 (fun vy0=>y1 (fun vy1=>optK k0 (arm_maxi (.c vy0) (.c vy1) call sh ⟨.lf,m0,t0,n0⟩ row d nvi)) q0) q0
def r_append (y0:Nat) (y1:Nat) (y2:Gt) (y3:Gt) (row d:Nat):R1:=fun call sh nvi q0 m0 t0 n0 k0=>y2 (fun vy2=>y3 (fun vy3=>optK k0 (arm_append y0 y1 (.c vy2) (.c vy3) call sh ⟨.lf,m0,t0,n0⟩ row d nvi)) q0) q0
def r_appendZ (y0:Nat) (y1:Nat) (y2:List D) (y3:Gt) (y4:Gt) (row d:Nat):R1:=fun call sh nvi q0 m0 t0 n0 k0=>y3 (fun vy3=>y4 (fun vy4=>optK k0 (arm_appendZ y0 y1 y2 (.c vy3) (.c vy4) call sh ⟨.lf,m0,t0,n0⟩ row d nvi)) q0) q0
def r_copy (y0:Nat) (y1:Gt) (y2:Gt) (row d:Nat):R1:=fun call sh nvi q0 m0 t0 n0 k0=>y1 (fun vy1=>y2 (fun vy2=>optK k0 (arm_copy y0 (.c vy1) (.c vy2) call sh ⟨.lf,m0,t0,n0⟩ row d nvi)) q0) q0
def r_makeSlice (y0:Nat) (y1:Nat) (y2:List D) (y3:Gt) (y4:Gt) (row d:Nat):R1:=fun call sh nvi q0 m0 t0 n0 k0=>y3 (fun vy3=>y4 (fun vy4=>optK k0 (arm_makeSlice y0 y1 y2 (.c vy3) (.c vy4) call sh ⟨.lf,m0,t0,n0⟩ row d nvi)) q0) q0
def r_makeFunc (y0:Nat) (y1:List Gt) (row d:Nat):R1:=fun call sh nvi q0 m0 t0 n0 k0=>evK y1 (fun vy1=>optK k0 (arm_makeFunc y0 (vy1.map Opd.c) call sh ⟨.lf,m0,t0,n0⟩ row d nvi)) q0
def r_sliceB (y0:Nat) (y1:Nat) (y2:Gt) (row d:Nat):R1:=fun call sh nvi q0 m0 t0 n0 k0=>y2 (fun vy2=>optK k0 (arm_sliceB y0 y1 (.c vy2) call sh ⟨.lf,m0,t0,n0⟩ row d nvi)) q0
def r_sliceL (y0:Nat) (y1:Nat) (y2:Nat) (y3:Gt) (row d:Nat):R1:=fun call sh nvi q0 m0 t0 n0 k0=>y3 (fun vy3=>optK k0 (arm_sliceL y0 y1 y2 (.c vy3) call sh ⟨.lf,m0,t0,n0⟩ row d nvi)) q0
def r_clear (y0:Nat) (y1:List D) (y2:Gt) (row d:Nat):R1:=fun call sh nvi q0 m0 t0 n0 k0=>y2 (fun vy2=>optK k0 (arm_clear y0 y1 (.c vy2) call sh ⟨.lf,m0,t0,n0⟩ row d nvi)) q0
def r_grow (y0:Nat) (y1:Gt) (y2:Gt) (row d:Nat):R1:=fun call sh nvi q0 m0 t0 n0 k0=>y1 (fun vy1=>y2 (fun vy2=>optK k0 (arm_grow y0 (.c vy1) (.c vy2) call sh ⟨.lf,m0,t0,n0⟩ row d nvi)) q0) q0
def r_clone (y0:Nat) (y1:Nat) (y2:Gt) (row d:Nat):R1:=fun call sh nvi q0 m0 t0 n0 k0=>y2 (fun vy2=>optK k0 (arm_clone y0 y1 (.c vy2) call sh ⟨.lf,m0,t0,n0⟩ row d nvi)) q0
def r_sort (y0:Gt) (row d:Nat):R1:=fun call sh nvi q0 m0 t0 n0 k0=>y0 (fun vy0=>optK k0 (arm_sort (.c vy0) call sh ⟨.lf,m0,t0,n0⟩ row d nvi)) q0
def r_compact (y0:Gt) (row d:Nat):R1:=fun call sh nvi q0 m0 t0 n0 k0=>y0 (fun vy0=>optK k0 (arm_compact (.c vy0) call sh ⟨.lf,m0,t0,n0⟩ row d nvi)) q0
def r_bad (row d:Nat):R1:=fun call sh nvi q0 m0 t0 n0 k0=>optK k0 (arm_bad call sh ⟨.lf,m0,t0,n0⟩ row d nvi)
def r_call (y0:Nat) (y1:List Gt) (row d:Nat):R1:=fun call sh nvi q0 m0 t0 n0 k0=>evK y1 (fun vy1=>optK k0 (arm_call y0 (vy1.map Opd.c) call sh ⟨.lf,m0,t0,n0⟩ row d nvi)) q0
def r_callF (y0:Nat) (y1:List Gt) (row d:Nat):R1:=fun call sh nvi q0 m0 t0 n0 k0=>evK y1 (fun vy1=>optK k0 (arm_callF y0 (vy1.map Opd.c) call sh ⟨.lf,m0,t0,n0⟩ row d nvi)) q0
def r_callv (y0:Gt) (y1:List Gt) (row d:Nat):R1:=fun call sh nvi q0 m0 t0 n0 k0=>y0 (fun vy0=>evK y1 (fun vy1=>optK k0 (arm_callv (.c vy0) (vy1.map Opd.c) call sh ⟨.lf,m0,t0,n0⟩ row d nvi)) q0) q0
def compR (row d:Nat):AOp→R1
 |.mov y0=>r_mov (opdK y0) row d
 |.pick y0 y1 y2=>r_pick (opdK y0) (opdK y1) (opdK y2) row d
 |.alloc y0=>r_alloc y0 row d
 |.box y0=>r_box (opdK y0) row d
 |.build y0 y1=>r_build y0 (y1.map fun p=>(p.1,p.2.1,opdK p.2.2)) row d
 |.buildSlice y0 y1 y2 y3=>r_buildSlice y0 y1 y2 (y3.map fun p=>(p.1,opdK p.2)) row d
 |.load y0 y1 y2=>r_load y0 y1 (opdK y2) row d
 |.store y0 y1 y2=>r_store y0 (opdK y1) (opdK y2) row d
 |.nilCheck y0=>r_nilCheck (opdK y0) row d
 |.bin y0 y1 y2=>r_bin y0 (opdK y1) (opdK y2) row d
 |.eqb y0 y1 y2=>r_eqb y0 (opdK y1) (opdK y2) row d
 |.eqA y0 y1 y2 y3 y4=>r_eqA y0 y1 y2 (opdK y3) (opdK y4) row d
 |.isErr y0 y1=>r_isErr y0 (opdK y1) row d
 |.un y0 y1=>r_un y0 (opdK y1) row d
 |.conv y0 y1=>r_conv y0 (opdK y1) row d
 |.field y0 y1 y2 y3=>r_field y0 y1 y2 (opdK y3) row d
 |.fieldAddr y0 y1=>r_fieldAddr y0 (opdK y1) row d
 |.indexAddr y0 y1 y2=>r_indexAddr y0 (opdK y1) (opdK y2) row d
 |.indexArr y0 y1 y2 y3=>r_indexArr y0 y1 (opdK y2) (opdK y3) row d
 |.indexA y0 y1 y2 y3 y4=>r_indexA y0 y1 y2 (opdK y3) (opdK y4) row d
 |.indexS y0 y1=>r_indexS (opdK y0) (opdK y1) row d
 |.slice y0 y1 y2 y3 y4=>r_slice y0 (opdK y1) (y2.map opdK) (y3.map opdK) (y4.map opdK) row d
 |.sliceS y0 y1 y2=>r_sliceS (opdK y0) (y1.map opdK) (y2.map opdK) row d
 |.extract y0 y1=>r_extract (opdK y0) y1 row d
 |.len y0=>r_len (opdK y0) row d
 |.lenS y0=>r_lenS (opdK y0) row d
 |.capF y0=>r_capF (opdK y0) row d
 |.b2s y0=>r_b2s (opdK y0) row d
 |.s2b y0=>r_s2b (opdK y0) row d
 |.mkSet=>r_mkSet row d
 |.hasK y0 y1=>r_hasK (opdK y0) (opdK y1) row d
 |.addK y0 y1=>r_addK (opdK y0) (opdK y1) row d
 |.lenC y0=>r_lenC y0 row d
 |.mini y0 y1=>r_mini (opdK y0) (opdK y1) row d
 |.maxi y0 y1=>r_maxi (opdK y0) (opdK y1) row d
 |.append y0 y1 y2 y3=>r_append y0 y1 (opdK y2) (opdK y3) row d
 |.appendZ y0 y1 y2 y3 y4=>r_appendZ y0 y1 y2 (opdK y3) (opdK y4) row d
 |.copy y0 y1 y2=>r_copy y0 (opdK y1) (opdK y2) row d
 |.makeSlice y0 y1 y2 y3 y4=>r_makeSlice y0 y1 y2 (opdK y3) (opdK y4) row d
 |.makeFunc y0 y1=>r_makeFunc y0 (y1.map opdK) row d
 |.sliceB y0 y1 y2=>r_sliceB y0 y1 (opdK y2) row d
 |.sliceL y0 y1 y2 y3=>r_sliceL y0 y1 y2 (opdK y3) row d
 |.clear y0 y1 y2=>r_clear y0 y1 (opdK y2) row d
 |.grow y0 y1 y2=>r_grow y0 (opdK y1) (opdK y2) row d
 |.clone y0 y1 y2=>r_clone y0 y1 (opdK y2) row d
 |.sort y0=>r_sort (opdK y0) row d
 |.compact y0=>r_compact (opdK y0) row d
 |.bad=>r_bad row d
 |.call y0 y1=>r_call y0 (y1.map opdK) row d
 |.callF y0 y1=>r_callF y0 (y1.map opdK) row d
 |.callv y0 y1=>r_callv (opdK y0) (y1.map opdK) row d
def okO:Opd→Bool
 |.t n=>Nat.blt n 1024
 |.c _=>true
theorem opdK_eq {o:Opd} (h:okO o=true) {q:Q} {t:Tr AV} (hr:Rel q t) (k:AV→Ans):opdK o k q=k (o.ev t):=by
 cases o with
 |t n=>
  have hn:n<1024:=by simpa[okO,Nat.blt_eq] using h
  show gK n k q=_
  rw[gK_eq hn,hr n hn];rfl
 |c v=>rfl
theorem evK_eq {q:Q} {t:Tr AV} (hr:Rel q t):∀ {l:List Opd},l.all okO=true→∀ k,evK (l.map opdK) k q=k (l.map (·.ev t))
 |[],_,_=>rfl
 |x :: r,h,k=>by
  simp only[List.all_cons,Bool.and_eq_true] at h
  show opdK x _ q=_
  rw[opdK_eq h.1 hr]
  show evK (r.map opdK) _ q=_
  rw[evK_eq hr h.2];rfl
theorem partK_eq {q:Q} {t:Tr AV} (hr:Rel q t):∀ {l:List (Nat×Nat×Opd)},(l.map (·.2.2)).all okO=true→∀ k,partK (l.map fun p=>(p.1,p.2.1,opdK p.2.2)) k q=k (l.map fun p=>(p.1,p.2.1,.c (p.2.2.ev t)))
 |[],_,_=>rfl
 |x :: r,h,k=>by
  simp only[List.map_cons,List.all_cons,Bool.and_eq_true] at h
  show opdK x.2.2 _ q=_
  rw[opdK_eq h.1 hr]
  show partK (r.map fun p=>(p.1,p.2.1,opdK p.2.2)) _ q=_
  rw[partK_eq hr h.2];rfl
theorem part2K_eq {q:Q} {t:Tr AV} (hr:Rel q t):∀ {l:List (Nat×Opd)},(l.map (·.2)).all okO=true→∀ k,part2K (l.map fun p=>(p.1,opdK p.2)) k q=k (l.map fun p=>(p.1,.c (p.2.ev t)))
 |[],_,_=>rfl
 |x :: r,h,k=>by
  simp only[List.map_cons,List.all_cons,Bool.and_eq_true] at h
  show opdK x.2 _ q=_
  rw[opdK_eq h.1 hr]
  show part2K (r.map fun p=>(p.1,opdK p.2)) _ q=_
  rw[part2K_eq hr h.2];rfl
theorem optGK_eq {q:Q} {t:Tr AV} (hr:Rel q t) {o:Option Opd} (h:o.toList.all okO=true) (k:Option Opd→Ans):optGK (o.map opdK) k q=k (o.map fun x=>.c (x.ev t)):=by
 cases o with
 |none=>rfl
 |some x=>
  simp at h
  show opdK x _ q=_
  rw[opdK_eq h hr];rfl
theorem fillA_sub (t:Tr AV):∀ (l:List (Nat×Nat×Opd)) (cs:List AV),fillA .lf cs (l.map fun p=>(p.1,p.2.1,.c (p.2.2.ev t)))=fillA t cs l
 |[],_=>rfl
 |(a,b,x) :: r,cs=>by
  simp only[List.map_cons,fillA]
  show (match cellsOf (x.ev t) with|some new=>_|none=>none)=_
  cases cellsOf (x.ev t) with
  |none=>rfl
  |some new=>simp only[fillA_sub t r]
theorem fillD_sub (m:List (Tr Ent)) (t:Tr AV) (sz:Nat):∀ (l:List (Nat×Opd)) (els:List (List D)),fillD m .lf sz els (l.map fun p=>(p.1,.c (p.2.ev t)))=fillD m t sz els l
 |[],_=>rfl
 |(a,x) :: r,els=>by
  simp only[List.map_cons,fillD]
  show (match elemD m (x.ev t) with|some (e,ks)=>_|none=>none)=_
  cases elemD m (x.ev t) with
  |none=>rfl
  |some e=>simp only[fillD_sub m t sz r]
theorem evs_sub (t:Tr AV) (l:List Opd):evs .lf ((l.map (·.ev t)).map Opd.c)=evs t l:=by
 induction l with
 |nil=>rfl
 |cons x l ih=>simp only[evs,List.map_cons] at ih ⊢;rw[ih];rfl
theorem boundA_sub (t:Tr AV) (o:Option Opd) (d:Nat):boundA (o.map fun x=>.c (x.ev t)) .lf d=boundA o t d:=by
 cases o<;>rfl
theorem compR_eq {op:AOp} (h:op.opds.all okO=true) {q:Q} {s:St} (hr:Rel q s.slots) (call:Call) (sh:Nat→Bool) (row d nvi:Nat) (k:Res→Ans) :
  compR row d op call sh nvi q s.mem s.tips s.nv k=optK k (op.run call sh s row d nvi):=by
 rw[←AOp.runQ_eq]
 cases op with
 |mov y0=>
  simp only[AOp.opds,List.all_cons,List.all_nil,List.all_append,Bool.and_true,Bool.and_eq_true] at h
  simp only[compR,r_mov]
  show _=optK k (arm_mov y0 call sh s row d nvi)
  rw[opdK_eq h hr]
  rfl
 |pick y0 y1 y2=>
  simp only[AOp.opds,List.all_cons,List.all_nil,List.all_append,Bool.and_true,Bool.and_eq_true] at h
  simp only[compR,r_pick]
  show _=optK k (arm_pick y0 y1 y2 call sh s row d nvi)
  rw[opdK_eq h.1 hr]
  rw[opdK_eq h.2.1 hr]
  rw[opdK_eq h.2.2 hr]
  rfl
 |alloc y0=>
  rfl
 |box y0=>
  simp only[AOp.opds,List.all_cons,List.all_nil,List.all_append,Bool.and_true,Bool.and_eq_true] at h
  simp only[compR,r_box]
  show _=optK k (arm_box y0 call sh s row d nvi)
  rw[opdK_eq h hr]
  rfl
 |build y0 y1=>
  simp only[AOp.opds,List.all_cons,List.all_nil,List.all_append,Bool.and_true,Bool.and_eq_true] at h
  simp only[compR,r_build]
  show _=optK k (arm_build y0 y1 call sh s row d nvi)
  rw[partK_eq hr h]
  simp only[arm_build,fillA_sub]
  first|done|rfl
 |buildSlice y0 y1 y2 y3=>
  simp only[AOp.opds,List.all_cons,List.all_nil,List.all_append,Bool.and_true,Bool.and_eq_true] at h
  simp only[compR,r_buildSlice]
  show _=optK k (arm_buildSlice y0 y1 y2 y3 call sh s row d nvi)
  rw[part2K_eq hr h]
  have e1:((y3.map fun p=>(p.1,Opd.c (p.2.ev s.slots))).map fun p=>(p.1*y0,y0,p.2))=(y3.map fun p=>(p.1*y0,y0,p.2)).map fun p=>(p.1,p.2.1,Opd.c (p.2.2.ev s.slots)):=by simp
  simp only[arm_buildSlice,fillD_sub,e1,fillA_sub]
  first|done|rfl
 |load y0 y1 y2=>
  simp only[AOp.opds,List.all_cons,List.all_nil,List.all_append,Bool.and_true,Bool.and_eq_true] at h
  simp only[compR,r_load]
  show _=optK k (arm_load y0 y1 y2 call sh s row d nvi)
  rw[opdK_eq h hr]
  rfl
 |store y0 y1 y2=>
  simp only[AOp.opds,List.all_cons,List.all_nil,List.all_append,Bool.and_true,Bool.and_eq_true] at h
  simp only[compR,r_store]
  show _=optK k (arm_store y0 y1 y2 call sh s row d nvi)
  rw[opdK_eq h.1 hr]
  rw[opdK_eq h.2 hr]
  rfl
 |nilCheck y0=>
  simp only[AOp.opds,List.all_cons,List.all_nil,List.all_append,Bool.and_true,Bool.and_eq_true] at h
  simp only[compR,r_nilCheck]
  show _=optK k (arm_nilCheck y0 call sh s row d nvi)
  rw[opdK_eq h hr]
  rfl
 |bin y0 y1 y2=>
  simp only[AOp.opds,List.all_cons,List.all_nil,List.all_append,Bool.and_true,Bool.and_eq_true] at h
  simp only[compR,r_bin]
  show _=optK k (arm_bin y0 y1 y2 call sh s row d nvi)
  rw[opdK_eq h.1 hr]
  rw[opdK_eq h.2 hr]
  rfl
 |eqb y0 y1 y2=>
  simp only[AOp.opds,List.all_cons,List.all_nil,List.all_append,Bool.and_true,Bool.and_eq_true] at h
  simp only[compR,r_eqb]
  show _=optK k (arm_eqb y0 y1 y2 call sh s row d nvi)
  rw[opdK_eq h.1 hr]
  rw[opdK_eq h.2 hr]
  rfl
 |eqA y0 y1 y2 y3 y4=>
  simp only[AOp.opds,List.all_cons,List.all_nil,List.all_append,Bool.and_true,Bool.and_eq_true] at h
  simp only[compR,r_eqA]
  show _=optK k (arm_eqA y0 y1 y2 y3 y4 call sh s row d nvi)
  rw[opdK_eq h.1 hr]
  rw[opdK_eq h.2 hr]
  rfl
 |isErr y0 y1=>
  simp only[AOp.opds,List.all_cons,List.all_nil,List.all_append,Bool.and_true,Bool.and_eq_true] at h
  simp only[compR,r_isErr]
  show _=optK k (arm_isErr y0 y1 call sh s row d nvi)
  rw[opdK_eq h hr]
  rfl
 |un y0 y1=>
  simp only[AOp.opds,List.all_cons,List.all_nil,List.all_append,Bool.and_true,Bool.and_eq_true] at h
  simp only[compR,r_un]
  show _=optK k (arm_un y0 y1 call sh s row d nvi)
  rw[opdK_eq h hr]
  rfl
 |conv y0 y1=>
  simp only[AOp.opds,List.all_cons,List.all_nil,List.all_append,Bool.and_true,Bool.and_eq_true] at h
  simp only[compR,r_conv]
  show _=optK k (arm_conv y0 y1 call sh s row d nvi)
  rw[opdK_eq h hr]
  rfl
 |field y0 y1 y2 y3=>
  simp only[AOp.opds,List.all_cons,List.all_nil,List.all_append,Bool.and_true,Bool.and_eq_true] at h
  simp only[compR,r_field]
  show _=optK k (arm_field y0 y1 y2 y3 call sh s row d nvi)
  rw[opdK_eq h hr]
  rfl
 |fieldAddr y0 y1=>
  simp only[AOp.opds,List.all_cons,List.all_nil,List.all_append,Bool.and_true,Bool.and_eq_true] at h
  simp only[compR,r_fieldAddr]
  show _=optK k (arm_fieldAddr y0 y1 call sh s row d nvi)
  rw[opdK_eq h hr]
  rfl
 |indexAddr y0 y1 y2=>
  simp only[AOp.opds,List.all_cons,List.all_nil,List.all_append,Bool.and_true,Bool.and_eq_true] at h
  simp only[compR,r_indexAddr]
  show _=optK k (arm_indexAddr y0 y1 y2 call sh s row d nvi)
  rw[opdK_eq h.1 hr]
  rw[opdK_eq h.2 hr]
  rfl
 |indexArr y0 y1 y2 y3=>
  simp only[AOp.opds,List.all_cons,List.all_nil,List.all_append,Bool.and_true,Bool.and_eq_true] at h
  simp only[compR,r_indexArr]
  show _=optK k (arm_indexArr y0 y1 y2 y3 call sh s row d nvi)
  rw[opdK_eq h.1 hr]
  rw[opdK_eq h.2 hr]
  rfl
 |indexA y0 y1 y2 y3 y4=>
  simp only[AOp.opds,List.all_cons,List.all_nil,List.all_append,Bool.and_true,Bool.and_eq_true] at h
  simp only[compR,r_indexA]
  show _=optK k (arm_indexA y0 y1 y2 y3 y4 call sh s row d nvi)
  rw[opdK_eq h.1 hr]
  rw[opdK_eq h.2 hr]
  rfl
 |indexS y0 y1=>
  simp only[AOp.opds,List.all_cons,List.all_nil,List.all_append,Bool.and_true,Bool.and_eq_true] at h
  simp only[compR,r_indexS]
  show _=optK k (arm_indexS y0 y1 call sh s row d nvi)
  rw[opdK_eq h.1 hr]
  rw[opdK_eq h.2 hr]
  rfl
 |slice y0 y1 y2 y3 y4=>
  simp only[AOp.opds,List.all_cons,List.all_nil,List.all_append,Bool.and_true,Bool.and_eq_true] at h
  simp only[compR,r_slice]
  show _=optK k (arm_slice y0 y1 y2 y3 y4 call sh s row d nvi)
  rw[opdK_eq h.1 hr]
  rw[optGK_eq hr h.2.1.1]
  rw[optGK_eq hr h.2.1.2]
  rw[optGK_eq hr h.2.2]
  simp only[arm_slice,boundA_sub,Option.map_map,Option.isNone_map];try rfl
  first|done|rfl
 |sliceS y0 y1 y2=>
  simp only[AOp.opds,List.all_cons,List.all_nil,List.all_append,Bool.and_true,Bool.and_eq_true] at h
  simp only[compR,r_sliceS]
  show _=optK k (arm_sliceS y0 y1 y2 call sh s row d nvi)
  rw[opdK_eq h.1 hr]
  rw[optGK_eq hr h.2.1]
  rw[optGK_eq hr h.2.2]
  simp only[arm_sliceS,boundA_sub,Option.map_map,Option.isNone_map];try rfl
  first|done|rfl
 |extract y0 y1=>
  simp only[AOp.opds,List.all_cons,List.all_nil,List.all_append,Bool.and_true,Bool.and_eq_true] at h
  simp only[compR,r_extract]
  show _=optK k (arm_extract y0 y1 call sh s row d nvi)
  rw[opdK_eq h hr]
  rfl
 |len y0=>
  simp only[AOp.opds,List.all_cons,List.all_nil,List.all_append,Bool.and_true,Bool.and_eq_true] at h
  simp only[compR,r_len]
  show _=optK k (arm_len y0 call sh s row d nvi)
  rw[opdK_eq h hr]
  rfl
 |lenS y0=>
  simp only[AOp.opds,List.all_cons,List.all_nil,List.all_append,Bool.and_true,Bool.and_eq_true] at h
  simp only[compR,r_lenS]
  show _=optK k (arm_lenS y0 call sh s row d nvi)
  rw[opdK_eq h hr]
  rfl
 |capF y0=>
  simp only[AOp.opds,List.all_cons,List.all_nil,List.all_append,Bool.and_true,Bool.and_eq_true] at h
  simp only[compR,r_capF]
  show _=optK k (arm_capF y0 call sh s row d nvi)
  rw[opdK_eq h hr]
  rfl
 |b2s y0=>
  simp only[AOp.opds,List.all_cons,List.all_nil,List.all_append,Bool.and_true,Bool.and_eq_true] at h
  simp only[compR,r_b2s]
  show _=optK k (arm_b2s y0 call sh s row d nvi)
  rw[opdK_eq h hr]
  rfl
 |s2b y0=>
  simp only[AOp.opds,List.all_cons,List.all_nil,List.all_append,Bool.and_true,Bool.and_eq_true] at h
  simp only[compR,r_s2b]
  show _=optK k (arm_s2b y0 call sh s row d nvi)
  rw[opdK_eq h hr]
  rfl
 |mkSet=>
  rfl
 |hasK y0 y1=>
  simp only[AOp.opds,List.all_cons,List.all_nil,List.all_append,Bool.and_true,Bool.and_eq_true] at h
  simp only[compR,r_hasK]
  show _=optK k (arm_hasK y0 y1 call sh s row d nvi)
  rw[opdK_eq h.1 hr]
  rw[opdK_eq h.2 hr]
  rfl
 |addK y0 y1=>
  simp only[AOp.opds,List.all_cons,List.all_nil,List.all_append,Bool.and_true,Bool.and_eq_true] at h
  simp only[compR,r_addK]
  show _=optK k (arm_addK y0 y1 call sh s row d nvi)
  rw[opdK_eq h.1 hr]
  rw[opdK_eq h.2 hr]
  rfl
 |lenC y0=>
  rfl
 |mini y0 y1=>
  simp only[AOp.opds,List.all_cons,List.all_nil,List.all_append,Bool.and_true,Bool.and_eq_true] at h
  simp only[compR,r_mini]
  show _=optK k (arm_mini y0 y1 call sh s row d nvi)
  rw[opdK_eq h.1 hr]
  rw[opdK_eq h.2 hr]
  rfl
 |maxi y0 y1=>
  simp only[AOp.opds,List.all_cons,List.all_nil,List.all_append,Bool.and_true,Bool.and_eq_true] at h
  simp only[compR,r_maxi]
  show _=optK k (arm_maxi y0 y1 call sh s row d nvi)
  rw[opdK_eq h.1 hr]
  rw[opdK_eq h.2 hr]
  rfl
 |append y0 y1 y2 y3=>
  simp only[AOp.opds,List.all_cons,List.all_nil,List.all_append,Bool.and_true,Bool.and_eq_true] at h
  simp only[compR,r_append]
  show _=optK k (arm_append y0 y1 y2 y3 call sh s row d nvi)
  rw[opdK_eq h.1 hr]
  rw[opdK_eq h.2 hr]
  rfl
 |appendZ y0 y1 y2 y3 y4=>
  simp only[AOp.opds,List.all_cons,List.all_nil,List.all_append,Bool.and_true,Bool.and_eq_true] at h
  simp only[compR,r_appendZ]
  show _=optK k (arm_appendZ y0 y1 y2 y3 y4 call sh s row d nvi)
  rw[opdK_eq h.1 hr]
  rw[opdK_eq h.2 hr]
  rfl
 |copy y0 y1 y2=>
  simp only[AOp.opds,List.all_cons,List.all_nil,List.all_append,Bool.and_true,Bool.and_eq_true] at h
  simp only[compR,r_copy]
  show _=optK k (arm_copy y0 y1 y2 call sh s row d nvi)
  rw[opdK_eq h.1 hr]
  rw[opdK_eq h.2 hr]
  rfl
 |makeSlice y0 y1 y2 y3 y4=>
  simp only[AOp.opds,List.all_cons,List.all_nil,List.all_append,Bool.and_true,Bool.and_eq_true] at h
  simp only[compR,r_makeSlice]
  show _=optK k (arm_makeSlice y0 y1 y2 y3 y4 call sh s row d nvi)
  rw[opdK_eq h.1 hr]
  rw[opdK_eq h.2 hr]
  rfl
 |makeFunc y0 y1=>
  simp only[AOp.opds,List.all_cons,List.all_nil,List.all_append,Bool.and_true,Bool.and_eq_true] at h
  simp only[compR,r_makeFunc]
  show _=optK k (arm_makeFunc y0 y1 call sh s row d nvi)
  rw[evK_eq hr h]
  simp only[arm_makeFunc,evs_sub]
  first|done|rfl
 |sliceB y0 y1 y2=>
  simp only[AOp.opds,List.all_cons,List.all_nil,List.all_append,Bool.and_true,Bool.and_eq_true] at h
  simp only[compR,r_sliceB]
  show _=optK k (arm_sliceB y0 y1 y2 call sh s row d nvi)
  rw[opdK_eq h hr]
  rfl
 |sliceL y0 y1 y2 y3=>
  simp only[AOp.opds,List.all_cons,List.all_nil,List.all_append,Bool.and_true,Bool.and_eq_true] at h
  simp only[compR,r_sliceL]
  show _=optK k (arm_sliceL y0 y1 y2 y3 call sh s row d nvi)
  rw[opdK_eq h hr]
  rfl
 |clear y0 y1 y2=>
  simp only[AOp.opds,List.all_cons,List.all_nil,List.all_append,Bool.and_true,Bool.and_eq_true] at h
  simp only[compR,r_clear]
  show _=optK k (arm_clear y0 y1 y2 call sh s row d nvi)
  rw[opdK_eq h hr]
  rfl
 |grow y0 y1 y2=>
  simp only[AOp.opds,List.all_cons,List.all_nil,List.all_append,Bool.and_true,Bool.and_eq_true] at h
  simp only[compR,r_grow]
  show _=optK k (arm_grow y0 y1 y2 call sh s row d nvi)
  rw[opdK_eq h.1 hr]
  rw[opdK_eq h.2 hr]
  rfl
 |clone y0 y1 y2=>
  simp only[AOp.opds,List.all_cons,List.all_nil,List.all_append,Bool.and_true,Bool.and_eq_true] at h
  simp only[compR,r_clone]
  show _=optK k (arm_clone y0 y1 y2 call sh s row d nvi)
  rw[opdK_eq h hr]
  rfl
 |sort y0=>
  simp only[AOp.opds,List.all_cons,List.all_nil,List.all_append,Bool.and_true,Bool.and_eq_true] at h
  simp only[compR,r_sort]
  show _=optK k (arm_sort y0 call sh s row d nvi)
  rw[opdK_eq h hr]
  rfl
 |compact y0=>
  simp only[AOp.opds,List.all_cons,List.all_nil,List.all_append,Bool.and_true,Bool.and_eq_true] at h
  simp only[compR,r_compact]
  show _=optK k (arm_compact y0 call sh s row d nvi)
  rw[opdK_eq h hr]
  rfl
 |bad=>
  rfl
 |call y0 y1=>
  simp only[AOp.opds,List.all_cons,List.all_nil,List.all_append,Bool.and_true,Bool.and_eq_true] at h
  simp only[compR,r_call]
  show _=optK k (arm_call y0 y1 call sh s row d nvi)
  rw[evK_eq hr h]
  simp only[arm_call,evs_sub]
  first|done|rfl
 |callF y0 y1=>
  simp only[AOp.opds,List.all_cons,List.all_nil,List.all_append,Bool.and_true,Bool.and_eq_true] at h
  simp only[compR,r_callF]
  show _=optK k (arm_callF y0 y1 call sh s row d nvi)
  rw[evK_eq hr h]
  simp only[arm_callF,evs_sub]
  first|done|rfl
 |callv y0 y1=>
  simp only[AOp.opds,List.all_cons,List.all_nil,List.all_append,Bool.and_true,Bool.and_eq_true] at h
  simp only[compR,r_callv]
  show _=optK k (arm_callv y0 y1 call sh s row d nvi)
  rw[opdK_eq h.1 hr]
  rw[evK_eq hr h.2]
  simp only[arm_callv,evs_sub]
  first|done|rfl
end
end Go.Eng
