/- Slices cut and indexed, lengths, structs built: against the model. -/
import Derived.Test.YtgkllgjmfpjeoaaGreatDoorEngE
import Derived.Laws.Tables
set_option linter.unusedVariables false
set_option linter.unusedSimpArgs false
namespace Go.bJ
open Go Go.RowKit
theorem ei.sub{w:World}{F R:Nat->Nat->Prop}{els:List (List D)}{b o sz:Nat}(h:ei w F R els b o sz)(lo k:Nat):ei w F R ((els.drop lo).take k) b (o+lo*sz) sz:=by grind[ei]
theorem ei.region{w:World}{F R S:Nat->Nat->Prop}{els:List (List D)}{b o sz:Nat}(h:ei w F R els b o sz)(hrs:∀b o,R b o->S b o):ei w F S els b o sz:=⟨h.1,λi e j x h1 h2=>⟨hrs _ _ (h.2 i e j x h1 h2).1,(h.2 i e j x h1 h2).2⟩⟩
theorem ei.nil{w:World}{F R:Nat->Nat->Prop}{b o sz:Nat}:ei w F R [] b o sz:=⟨by simp,λi e j x h=>by simp at h⟩
theorem u7{X:Cx}{x:AV}{els:List (List D)}{v:Value}(hx:x=.d (.sl els)\/∃o,x=.own els o)(hv:VR X x v):∃a cap sz b o,v=.slice a els.length cap/\els.length<=cap/\(0<els.length->a=some ⟨b,o,none⟩)/\ei X.w X.F (λb o=>X.F b o\/X.old b) els b o sz:=by
 rcases hx with rfl|⟨ow,rfl⟩;.obtain⟨a,cap,sz,b,o,h1,h2,h3,h4⟩:=DR.U8 hv;exact⟨a,cap,sz,b,o,h1,h2,h3,h4.region λ_ _=>.inl⟩
 .cases ow with|full=>obtain⟨a,b,o,sz,h1,h2,h3⟩:=hv;exact⟨a,_,sz,b,o,h1,Nat.le_refl _,h2,h3.region λ_ _=>.inl⟩|cD ah tz=>obtain⟨a,b,o,sz,cap,h1,h2,h3,h4,_⟩:=hv;exact⟨a,cap,sz,b,o,h1,h2,λh=>h3 (by omega),h4.region λ_ _=>.inl⟩|bC=>obtain⟨a,b,o,sz,cap,h1,h2,h3,h4⟩:=hv;exact⟨a,cap,sz,b,o,h1,h2,h3,h4.region λ_ _=>.inr⟩
theorem qa{X:Cx}{x:AV}{cs:List AV}{v:Value}(h:cellsOf x=some cs)(hv:VR X x v):aC (VC X) cs v.cells.toList:=by
 have one:∀{x:AV},VC X x v->aC (VC X) [x] v.cells.toList:=by intro x hx;have h1:=hx.one;cases v<;>first|(simp[Value.oneCell']at h1;done)|exact⟨hx,trivial⟩
 cases x with|agg cs'=>cases h;obtain⟨us,rfl,h2⟩:=hv;exact h2|iY=>cases h|_=>simp only[cellsOf]at h;injection h with h;subst h;exact one hv
theorem dM{α:Type}(cs new:List α)(off:Nat)(h:off+new.length<=cs.length)(j:Nat):(splice cs off new)[j]?=if off<=j/\j<off+new.length then new[j-off]?else cs[j]?:=by unfold splice;rw[List.append_assoc,List.getElem?_append,List.getElem?_append]<;>grind
theorem j4{α:Type}(cs new:List α)(off:Nat)(h:off+new.length<=cs.length):(splice cs off new).length=cs.length:=by grind[splice]
theorem aC.splice{α β:Type}{R:α->β->Prop}{cs new:List α}{us vs:List β}{off:Nat}(h:aC R cs us)(h':aC R new vs):aC R (splice cs off new) (Go.bJ.splice us off vs):=by unfold Go.bJ.splice;rw[h'.length];exact((h.take off).append h').append (h.drop _)
theorem De(off:Nat):∀(l:List Value)(k:Nat)(C:Array Value),off+k+l.length<=C.size->((l.zipIdx k).foldl (λcs p=>cs.setIfInBounds (off+p.2) p.1) C).toList=C.toList.take (off+k)++l++C.toList.drop (off+k+l.length)
 |[],k,C,_=>by simp|v::l,k,C,h=>by
  simp only[List.zipIdx_cons,List.foldl_cons];rw[De off l (k+1) _ (by simp at h⊢;omega)];simp only[Array.toList_setIfInBounds];have hk:off+k<C.toList.length:=by simp at h⊢;omega
  apply List.ext_getElem?;intro j;have e1:=dM (C.toList.set (off+k) v) l (off+(k+1)) (by simp at h⊢;omega) j;have e2:=dM C.toList (v::l) (off+k) (by simp at h⊢;omega) j;unfold splice at e1 e2;rw[e1,e2];simp only[List.length_cons];by_cases h1:j=off+k;.subst h1;rw[if_neg (by omega),if_pos (by omega),Nat.sub_self,List.getElem?_set_self hk];rfl
  .rw[List.getElem?_set_ne (Ne.symm h1)];by_cases h2:off+k<=j/\j<off+k+(l.length+1);.rw[if_pos (by omega),if_pos h2];obtain⟨d,rfl⟩:∃d,j=off+k+(d+1):=⟨j-(off+k)-1,by omega⟩;rw[show off+k+(d+1)-(off+(k+1))=d by omega,show off+k+(d+1)-(off+k)=d+1by omega];rfl
   .rw[if_neg (by omega),if_neg h2]
theorem Df(off:Nat)(vs C:Array Value)(h:off+vs.size<=C.size):(vs.zipIdx.foldl (λcs x=>match x with|(c,j)=>cs.setIfInBounds (off+j) c) C).toList=splice C.toList off vs.toList:=by have:=De off vs.toList 0 C (by simpa using h);simp only[Nat.add_zero]at this;unfold splice;rw[<-this,<-Array.foldl_toList,Array.toList_zipIdx]
section
variable{P:Program}{X:Cx}{nt:Nat}{s:St}{a:Act}
theorem Ag(hs:fo X nt s a)(place:Nat->Option (Nat×Nat)):∀(ps:List (Nat×Operand))(l:List (Nat×Nat×bT))(z cs:List AV)(C:Array Value),rq place ps=some l->aC (VC X) z C.toList->oX s.slots z l=some cs->∃C',Instr.fill place C (ps.map λp=>(p.1,a.eval p.2))=some C'/\aC (VC X) cs C'.toList
 |[],l,z,cs,C,hp,hz,hf=>by cases hp;cases hf;exact⟨C,rfl,hz⟩|(i,x)::ps,l,z,cs,C,hp,hz,hf=>by
  simp[rq]at hp;split at hp
  .rename_i off sz y ys h1 h2 h3;cases hp;simp[oX]at hf;split at hf
   .rename_i new hn;split at hf
    .rename_i hc;obtain⟨hc1,qO⟩:=hc;have hv:=qa hn (bg hs h2);have hsz:(a.eval x).cells.size=sz:=by rw[<-hc1,hv.length,Array.length_toList]
     have hC:C.size=z.length:=by rw[hz.length,Array.length_toList]
     obtain⟨C',h4,h5⟩:=Ag hs place ps ys (splice z off new) cs ((a.eval x).cells.zipIdx.foldl (λcs x=>match x with|(c,j)=>cs.setIfInBounds (off+j) c) C) h3 (by rw[Df off _ C (by omega)];exact hz.splice hv) hf;simp only[List.map_cons,Instr.fill,h1,hsz,ne_eq,not_true_eq_false,decide_false,Bool.false_or]<;>grind
    grind
   grind
  grind
theorem GZ(hs:fo X nt s a){o:Oper}{t:TypeId}{ps:Array (Nat×Operand)}{it:TypeInfo}{z:Value}{zs:List AV}{l:List (Nat×Nat×bT)}{cs:List AV}(place:Nat->Option (Nat×Nat))(ho:o.op=.build t ps)(hz:fu z.cells.toList=some zs)(hb:∀parts,P.built t parts=Instr.fill place z.cells parts)(hp:rq place ps.toList=some l)(hf:oX s.slots zs l=some cs)(apn:P.info? t=some it):Quiet P X o a (.agg cs):=by
 obtain⟨C',h1,h2⟩:=Ag hs place ps.toList l zs cs z.cells hp (lJ hz) hf;refine⟨.agg C',?_,C',rfl,h2⟩;have hr:(Instr.build t (ps.map λ(i,x)=>(i,a.eval x))).run P X.w=.ok (.agg C') X.w:=by apply run_build;simp_all
 simp[execOp,ho];simp[hr]
theorem ru(hs:fo X nt s a){o:Oper}{x:Operand}{x':bT}{r:AV}(ho:o.op=.nilCheck x)(hx:cU x=some x')(hr:x'.ev s.slots=r)(hk:(∃lv sl ah i off,r=.ptr lv sl ah i off)\/(∃e off,r=.fK e off)\/∃f cs,r=.gp f cs):Quiet P X o a r:=by
 have hv:=bg hs hx;rw[hr]at hv;refine⟨a.eval x,?_,hv⟩;rcases hk with⟨_,_,_,_,_,rfl⟩|⟨_,_,rfl⟩|⟨_,_,rfl⟩;.obtain⟨L,_,h⟩:=hv;simp[execOp,ho,h]
 .obtain⟨_,_,h,_⟩:=hv;simp[execOp,ho,h]
 .obtain⟨_,h,_⟩:=hv;simp[execOp,ho,h]
theorem mR(hs:fo X nt s a){o:Oper}{t e:TypeId}{sz n:Nat}{x i:Operand}{x' i':bT}{r:AV}(ho:o.op=.indexAddr t x i)(ht:P.underlying t=some (.slice e))(hsz:cY P e=some sz)(hx:cU x=some x')(hi:cU i=some i')(hn:gh (i'.ev s.slots)=some n)(hr:(∃els el,(x'.ev s.slots=.d (.sl els)\/∃ow,x'.ev s.slots=.own els ow)/\els[n]?=some el/\el.length=sz/\r=.fK el 0)\/(∃lv sl ah off ln,x'.ev s.slots=.ref lv sl ah off ln sz/\n<ln/\r=.ptr lv sl ah (off+n) 0)\/∃lv sl ah off ln,x'.ev s.slots=.fe lv sl ah off ln sz/\n<ln/\r=.ptr lv sl ah 0 (off+n*sz)):Quiet P X o a r:=by
 have hv:=bg hs hx;obtain⟨kd,hik⟩:=jQ hn (bg hs hi);obtain⟨j,hj,E6⟩:=fh hsz;have run:∀(b off ln cap:Nat),n<ln->a.eval x=.slice (some ⟨b,off,none⟩) ln cap->(execOp a.eval o).run P X.w=.ok (.value (.pointer (some ⟨b,off+n*sz,none⟩))) X.w:=by intro b off ln cap hlt he;simp[execOp,ho,he,hik,Instr.indexAt,asIntOf,run_underlying ht,sizeOf,typeInfo,hj,E6,hlt,Addr.add_lit]
 rcases hr with⟨els,el,hq,hel,hl,rfl⟩|⟨lv,sl,ah,off,ln,hq,hlt,rfl⟩|⟨lv,sl,ah,off,ln,hq,hlt,rfl⟩
 .obtain⟨ad,cap,sz',b,off,h1,h2,h3,h4⟩:=u7 hq hv;have hlt:n<els.length:=(List.getElem?_eq_some_iff.1 hel).1;have h3:=h3 (by omega);subst h3;have ZI:sz'=sz:=by grind[ei,VR,bT.ev,gh,cU,cY]
  subst ZI;refine⟨_,run b off _ cap hlt h1,b,off+n*sz',rfl,λj x hx=>h4.2 n el j x hel hx⟩
 .rw[hq]at hv;obtain⟨L,ad,cap,hL,h1,h2,h3,h4⟩:=hv;obtain⟨rfl,h5⟩:=h4 (by omega);refine⟨_,run _ _ _ cap hlt h2,L,hL,?_⟩<;>grind
 .rw[hq]at hv;obtain⟨L,hL,h1,_⟩:=hv;refine⟨_,run _ _ _ ln hlt h1,L,hL,?_⟩<;>grind
theorem x4(hs:fo X nt s a){o:Oper}{t e:TypeId}{n sz k:Nat}{x i:Operand}{x' i':bT}{r:AV}(ho:o.op=.indexAddr t x i)(ht:P.underlying t=some (.array n e))(hsz:cY P e=some sz)(hx:cU x=some x')(hi:cU i=some i')(hn:gh (i'.ev s.slots)=some k)(hkn:k<n)(hr:(∃lv sl ah j off,x'.ev s.slots=.ptr lv sl ah j off/\r=.ptr lv sl ah j (off+k*sz))\/∃el off,x'.ev s.slots=.fK el off/\r=.fK el (off+k*sz)):Quiet P X o a r:=by
 have hv:=bg hs hx;obtain⟨kd,hik⟩:=jQ hn (bg hs hi);obtain⟨j,hj,E6⟩:=fh hsz;have run:∀(b off:Nat),a.eval x=.pointer (some ⟨b,off,none⟩)->(execOp a.eval o).run P X.w=.ok (.value (.pointer (some ⟨b,off+k*sz,none⟩))) X.w:=by intro b off he;simp[execOp,ho,he,hik,Instr.indexAt,asIntOf,run_underlying ht,sizeOf,typeInfo,hj,E6,hkn,Addr.add_lit,je]
 rcases hr with⟨lv,sl,ah,i',off,hq,rfl⟩|⟨e,off,hq,rfl⟩;.rw[hq]at hv;obtain⟨L,hL,hv⟩:=hv;exact⟨_,run _ _ hv,L,hL,by rw[Nat.add_assoc]⟩
 .rw[hq]at hv;obtain⟨b,o',hv,h⟩:=hv;exact⟨_,run _ _ hv,b,o',by rw[Nat.add_assoc],h⟩
theorem NB(hs:fo X nt s a){o:Oper}{t e:TypeId}{n sz off lv sl ah:Nat}{x:Operand}{x':bT}(ho:o.op=.slice t x none none none)(ht:P.underlying t=some (.array n e))(hsz:cY P e=some sz)(h0:n≠0)(hx:cU x=some x')(hq:x'.ev s.slots=.ptr lv sl ah 0 off):Quiet P X o a (.fe lv sl ah off n sz):=by have hv:=bg hs hx;rw[hq]at hv;obtain⟨L,hL,hv⟩:=hv;obtain⟨j,hj,E6⟩:=fh hsz;refine⟨.slice (some ⟨L.b,L.o+off,none⟩) n n,?_,L,hL,rfl,by omega⟩;simp[execOp,ho,hv,Instr.sliceAt,run_underlying ht,je,Instr.sliceBounds,sizeOf,typeInfo,hj,Addr.add_lit]
theorem NC(hs:fo X nt s a){o:Oper}{t e:TypeId}{n sz off lv sl ah:Nat}{k:Int}{x:Operand}{x':bT}(ho:o.op=.slice t x (some (.const (.int .i64 k))) none none)(ht:P.underlying t=some (.array n e))(hsz:cY P e=some sz)(h0:0<=k)(hlt:k.toNat<n)(hx:cU x=some x')(hq:x'.ev s.slots=.ptr lv sl ah 0 off):Quiet P X o a (.fe lv sl ah (off+k.toNat*sz) (n-k.toNat) sz):=by
 have hv:=bg hs hx;rw[hq]at hv;obtain⟨L,hL,hv⟩:=hv;obtain⟨j,hj,E6⟩:=fh hsz;obtain⟨l,rfl⟩:=Int.eq_ofNat_of_zero_le h0;have hne:¬n=l:=by omega
 have hle:¬n<l:=by omega
 have he:a.eval (.const (.int .i64 (l:Int)))=.int .i64 (l:Int):=rfl;refine⟨.slice (some ⟨L.b,L.o+(off+l*sz),none⟩) (n-l) (n-l),?_,L,hL,rfl,by omega⟩;simp[execOp,ho,hv,he,Instr.sliceAt,run_underlying ht,je,Instr.sliceBounds,Instr.sliceBound,asIntOf,sizeOf,typeInfo,hj,E6,hne,hle,Addr.add_lit,Nat.add_assoc]
theorem E7(hs:fo X nt s a){o:Oper}{t e:TypeId}{n:Nat}{x:Operand}{x':bT}(ho:o.op=.call {callee:=.builtin .len,args:=#[x],argTypes:=#[t]})(ht:P.underlying t=some (.slice e))(hx:cU x=some x')(hr:(∃els,(x'.ev s.slots=.d (.sl els)\/∃ow,x'.ev s.slots=.own els ow)/\n=els.length)\/(∃lv sl ah off sz,x'.ev s.slots=.ref lv sl ah off n sz)\/∃lv sl ah off sz,x'.ev s.slots=.fe lv sl ah off n sz):Quiet P X o a (oW n):=by
 have hv:=bg hs hx;have run:∀ad cap,a.eval x=.slice ad n cap->(execOp a.eval o).run P X.w=.ok (.value (.int .i64 n)) X.w:=by intro ad cap he;simp[execOp,ho,resolve,invoke,builtin,Builtin.len_,run_underlying ht,he,goInt]
 refine⟨.int .i64 n,?_,.Ac rfl⟩;rcases hr with⟨els,hq,rfl⟩|⟨lv,sl,ah,off,sz,hq⟩|⟨lv,sl,ah,off,sz,hq⟩;.obtain⟨ad,cap,sz',b,off,h1,_⟩:=u7 hq hv<;>grind
 .rw[hq]at hv;obtain⟨L,ad,cap,_,_,h,_⟩:=hv<;>grind
 .rw[hq]at hv;obtain⟨L,_,h,_⟩:=hv<;>grind
theorem Vi(hs:fo X nt s a){o:Oper}{t e:TypeId}{els:List (List D)}{x:Operand}{x':bT}(ho:o.op=.call {callee:=.builtin .cap,args:=#[x],argTypes:=#[t]})(ht:P.underlying t=some (.slice e))(hx:cU x=some x')(hr:x'.ev s.slots=.own els .full):Quiet P X o a (oW els.length):=by have hv:=bg hs hx;rw[hr]at hv;obtain⟨ad,b,o',sz,hv,_⟩:=hv;refine⟨.int .i64 els.length,?_,.Ac rfl⟩;simp[execOp,ho,resolve,invoke,builtin,Builtin.cap_,run_underlying ht,hv,goInt]
theorem Vj(hs:fo X nt s a){o:Oper}{t:TypeId}{b:ByteArray}{x:Operand}{x':bT}(ho:o.op=.call {callee:=.builtin .len,args:=#[x],argTypes:=#[t]})(ht:P.underlying t=some .string)(hx:cU x=some x')(hr:x'.ev s.slots=.d (.sc (.string b))):Quiet P X o a (oW b.size):=by have hv:=bg hs hx;rw[hr]at hv;have hv:=hv.sc;refine⟨.int .i64 b.size,?_,.Ac rfl⟩;simp[execOp,ho,resolve,invoke,builtin,Builtin.len_,run_underlying ht,hv,goInt]
theorem Mc{o:Oper}{t:TypeId}{n:Nat}{x:Operand}(ho:o.op=.call {callee:=.builtin .len,args:=#[x],argTypes:=#[t]})(ht:(∃e,P.underlying t=some (.array n e))\/∃p e,P.underlying t=some (.pointer p)/\P.underlying p=some (.array n e)):Quiet P X o a (oW n):=by
 refine⟨.int .i64 n,?_,.Ac rfl⟩;rcases ht with⟨e,ht⟩|⟨p,e,ht,hp⟩;.simp[execOp,ho,resolve,invoke,builtin,Builtin.len_,run_underlying ht,goInt]
 .simp[execOp,ho,resolve,invoke,builtin,Builtin.len_,run_underlying ht,run_underlying hp,goInt]
theorem JV{x:AV}{v:Value}(h:lI x=true)(hv:VR X x v):JR X x v:=by cases x<;>first|(cases h;done)|exact hv
theorem G0(hs:fo X nt s a){o:Oper}{f:Nat}{cap:Array Operand}{cap':List bT}(ho:o.op=.makeFunc (.func f) #[] cap)(hc:jt cap.toList=some cap')(h0:(GR s.slots cap').all lI=true):Quiet P X o a (.gp f (GR s.slots cap')):=by have h:=u0 hs hc;refine⟨.func (.func f) #[] (cap.map a.eval),by simp[execOp,ho,Instr.makeFunc],cap.map a.eval,rfl,?_⟩;rw[Array.toList_map];exact .tX h.length λi x v hx hv=>by obtain⟨v',kO,hr⟩:=h.get i x hx;rw[hv]at kO;injection kO with kO;subst kO;exact JV (List.all_eq_true.1 h0 x (List.mem_of_getElem? hx)) hr
theorem jf(hs:fo X nt s a){x:Option Operand}{x':Option bT}{n d:Nat}(hx:p9 x=some x')(h:fq x' s.slots d=some n):(x=none/\x'=none/\n=d)\/∃y k,x=some y/\x'.isSome=true/\a.eval y=.int k (n:Int):=by cases x with|none=>grind[p9,fq]|some y=>simp only[p9]at hx;cases hy:cU y with|none=>grind|some y'=>rw[hy]at hx;cases hx;obtain⟨k,hk⟩:=jQ h (bg hs hy)<;>grind
theorem Dg(hs:fo X nt s a){o:Oper}{t e:TypeId}{sz n cap l h k:Nat}{ad:Option Addr}{x:Operand}{lo hi mx:Option Operand}{lo' hi' CB:Option bT}(ho:o.op=.slice t x lo hi mx)(ht:P.underlying t=some (.slice e))(hsz:cY P e=some sz)(hx:a.eval x=.slice ad n cap)(hlo:p9 lo=some lo')(hhi:p9 hi=some hi')(Qq:p9 mx=some CB)(bl:fq lo' s.slots 0=some l)(bh:fq hi' s.slots 0=some h)(bk:fq CB s.slots 0=some k)(c1:l<=(if hi'.isSome then h else n))(c2:(if hi'.isSome then h else n)<=(if CB.isSome then k else cap))(c3:(if CB.isSome then k else cap)<=cap)(c4:CB.isSome=true->hi'.isSome=true):(execOp a.eval o).run P X.w=.ok (.value (.slice (if(if CB.isSome then k else cap)=l then ad else ad.map (·.add (l*sz))) ((if hi'.isSome then h else n)-l) ((if CB.isSome then k else cap)-l))) X.w:=by
 obtain⟨j,hj,E6⟩:=fh hsz;rcases jf hs Qq bk with⟨rfl,rfl,rfl⟩|⟨my,mk,rfl,hm,hme⟩
 .rcases jf hs hhi bh with⟨rfl,rfl,rfl⟩|⟨hy,hk,rfl,hh,XA⟩
  .simp[Option.isSome_none,Bool.false_eq_true,if_false]at c1 c2 c3⊢;rcases jf hs hlo bl with⟨rfl,rfl,rfl⟩|⟨ly,lk,rfl,hl,hle⟩;.simp[execOp,ho,hx,Instr.sliceAt,run_underlying ht,Instr.slice,Instr.sliceBounds,sizeOf,typeInfo,hj]
   .simp[execOp,ho,hx,Instr.sliceAt,run_underlying ht,Instr.slice,Instr.sliceBounds,Instr.sliceBound,asIntOf,sizeOf,typeInfo,hj,E6,hle,c1]
  .simp[hh,if_true,Option.isSome_none,Bool.false_eq_true,if_false]at c1 c2 c3⊢;rcases jf hs hlo bl with⟨rfl,rfl,rfl⟩|⟨ly,lk,rfl,hl,hle⟩;.simp[execOp,ho,hx,Instr.sliceAt,run_underlying ht,Instr.slice,Instr.sliceBounds,Instr.sliceBound,asIntOf,sizeOf,typeInfo,hj,XA,c2]
   .simp[execOp,ho,hx,Instr.sliceAt,run_underlying ht,Instr.slice,Instr.sliceBounds,Instr.sliceBound,asIntOf,sizeOf,typeInfo,hj,E6,XA,hle,c1,c2]
 .rcases jf hs hhi bh with⟨rfl,rfl,rfl⟩|⟨hy,hk,rfl,hh,XA⟩;.grind
  .simp[hh,hm,if_true]at c1 c2 c3⊢;rcases jf hs hlo bl with⟨rfl,rfl,rfl⟩|⟨ly,lk,rfl,hl,hle⟩;.simp[execOp,ho,hx,Instr.sliceAt,run_underlying ht,Instr.slice,Instr.sliceBounds,Instr.sliceBound,asIntOf,sizeOf,typeInfo,hj,XA,hme,c2,c3]
   .simp[execOp,ho,hx,Instr.sliceAt,run_underlying ht,Instr.slice,Instr.sliceBounds,Instr.sliceBound,asIntOf,sizeOf,typeInfo,hj,E6,XA,hme,hle,c1,c2,c3]
theorem jC{els:List (List D)}{sz:Nat}(h:els.all (λe=>e.length==sz)=true):∀e∈els,e.length=sz:=λe he=>by grind
theorem oZ{R:Nat->Nat->Prop}{els:List (List D)}{ad:Option Addr}{b o sz sz' l h m:Nat}(hl:ei X.w X.F R els b o sz')(had:0<els.length->ad=some ⟨b,o,none⟩)(c1:l<=h)(c2:h<=els.length)(c3:h<=m)(hal:∀e∈els,e.length=sz):((els.drop l).take (h-l)).length=h-l/\(0<h-l->(if m=l then ad else ad.map (·.add (l*sz)))=some ⟨b,o+l*sz',none⟩)/\ei X.w X.F R ((els.drop l).take (h-l)) b (o+l*sz') sz':=by
 refine⟨by simp;omega,λh0=>?_,hl.sub l _⟩;rw[if_neg (by omega),had (by omega)];have:sz'=sz:=by
  have hlt:0<els.length:=by omega
  have hm:=List.getElem_mem hlt<;>grind[ei]
 subst this;simp[Addr.add_lit]
theorem Qr(hs:fo X nt s a){o:Oper}{t e:TypeId}{sz l h k:Nat}{x:Operand}{x':bT}{lo hi mx:Option Operand}{lo' hi' CB:Option bT}{r:AV}(ho:o.op=.slice t x lo hi mx)(ht:P.underlying t=some (.slice e))(hsz:cY P e=some sz)(hx:cU x=some x')(hlo:p9 lo=some lo')(hhi:p9 hi=some hi')(Qq:p9 mx=some CB)(bl:fq lo' s.slots 0=some l)(bh:fq hi' s.slots 0=some h)(bk:fq CB s.slots 0=some k)(c4:CB.isSome=true->hi'.isSome=true)(hr:eW sz (x'.ev s.slots) l (hi'.map λ_=>h) (CB.map λ_=>k)=some r):Quiet P X o a r:=by
 have hv:=bg hs hx;have eh:∀n,(hi'.map λ_=>h).getD n=if hi'.isSome then h else n:=λn=>by cases hi'<;>rfl
 have run:=λ(ad:Option Addr)(n cap:Nat)(he:a.eval x=.slice ad n cap)=>Dg hs (P:=P) ho ht hsz he hlo hhi Qq bl bh bk;unfold eW at hr;split at hr;.rename_i els hq;simp only[eh]at hr;obtain⟨ad,cap,sz',b,off,h1,h2,h3,h4⟩:=DR.U8 (hq▸hv);have run:=run _ _ _ h1;generalize(if hi'.isSome=true then h else els.length)=H at hr run;cases G1:CB with
  |none=>
   simp only[G1,Option.map_none,Option.isSome_none,Bool.false_eq_true,if_false]at hr run c4;split at hr;.rename_i hc;obtain⟨g1,g2,g3⟩:=hc;cases hr;obtain⟨k1,k2,k3⟩:=oZ (m:=cap) h4 h3 g1 g2 (by omega) (jC g3);exact⟨_,run g1 (by omega) (Nat.le_refl _) (by simp),DR.gE k3 k1 (by omega) k2⟩
   grind|some m'=>
   simp only[G1,Option.map_some,Option.isSome_some,if_true]at hr run c4;split at hr;.rename_i hc;obtain⟨g1,g2,g4,g3⟩:=hc;cases hr;obtain⟨k1,k2,k3⟩:=oZ (m:=k) h4 h3 g1 g4 (by omega) (jC g3);refine⟨_,run g1 (by omega) (by omega) (λ_=>c4 trivial),_,b,off+l*sz',sz',?_,λh0=>k2 (by omega),k3⟩;rw[k1,g2]
   grind
 .rename_i els ow hq;simp only[eh]at hr;rw[hq]at hv;replace run:=λad cap he=>run ad els.length cap he;generalize(if hi'.isSome=true then h else els.length)=H at hr run;cases G1:CB with
  |none=>
   simp only[G1,Option.map_none,Option.isSome_none,Bool.false_eq_true,if_false]at hr run c4;split at hr
   .rename_i hc;obtain⟨g1,g2,g3⟩:=hc;cases ow with|bC=>cases hr;obtain⟨ad,b,off,sz',cap,h1,h2,h3,h4⟩:=hv;obtain⟨k1,k2,k3⟩:=oZ (m:=cap) h4 h3 g1 g2 (by omega) (jC g3);refine⟨_,run _ _ h1 g1 (by omega) (Nat.le_refl _) (by simp),_,b,off+l*sz',sz',cap-l,?_,?_,λh0=>k2 (by omega),k3⟩<;>grind|full=>
     simp at hr;obtain⟨ad,b,off,sz',h1,h3,h4⟩:=hv;obtain⟨k1,k2,k3⟩:=oZ (m:=els.length) h4 h3 g1 g2 (by omega) (jC g3);have run:=run _ _ h1 g1 (by omega) (Nat.le_refl _) (by simp);split at hr;.rename_i hh;cases hr;rw[hh]at run k1 k2 k3;have e1:(els.drop l).take (els.length-l)=els.drop l:=List.take_of_length_le (by simp);rw[e1]at k1 k3;refine⟨_,run,_,b,off+l*sz',sz',?_,λh0=>k2 (by omega),k3⟩<;>grind
     .cases hr;exact⟨_,run,DR.gE k3 k1 (by omega) k2⟩|cD ah tz=>cases hr;obtain⟨ad,b,off,sz',cap,h1,h2,h3,h4,_⟩:=hv;obtain⟨k1,k2,k3⟩:=oZ (m:=cap) h4 (λh=>h3 (by omega)) g1 g2 (by omega) (jC g3);exact⟨_,run _ _ h1 g1 (by omega) (Nat.le_refl _) (by simp),DR.gE k3 k1 (by omega) k2⟩
   grind|some m'=>
   simp only[G1,Option.map_some,Option.isSome_some,if_true]at hr run c4;split at hr
   .rename_i hc;obtain⟨g1,g2,g4,g3⟩:=hc;have done:∀(ad:Option Addr)(cap sz' b off:Nat),a.eval x=.slice ad els.length cap->els.length<=cap->(0<els.length->ad=some ⟨b,off,none⟩)->ei X.w X.F X.F els b off sz'->Quiet P X o a (.own ((els.drop l).take (H-l)) .full):=by intro ad cap sz' b off h1 h2 h3 h4;obtain⟨k1,k2,k3⟩:=oZ (m:=k) h4 h3 g1 g4 (by omega) (jC g3);refine⟨_,run _ _ h1 g1 (by omega) (by omega) (λ_=>c4 trivial),_,b,off+l*sz',sz',?_,λh0=>k2 (by omega),k3⟩<;>grind
    cases ow with
    |bC=>
     simp only at hr;obtain⟨ad,b,off,sz',cap,h1,h2,h3,h4⟩:=hv;split at hr;.cases hr;refine⟨_,run _ _ h1 g1 (by omega) (by omega) (λ_=>c4 trivial),(if k=l then ad else ad.map (·.add (l*sz))),0,0,0,?_,λh0=>absurd h0 (by simp),ei.nil⟩<;>grind
     grind|full=>obtain⟨ad,b,off,sz',h1,h3,h4⟩:=hv<;>grind|cD ah tz=>obtain⟨ad,b,off,sz',cap,h1,h2,h3,h4,_⟩:=hv<;>grind
   grind
 .rename_i lv sl ah off n sz' hq;simp[eh]at hr;rw[hq]at hv;obtain⟨L,ad,cap,hL,h1,h2,h3,h4⟩:=hv;have run:=run _ _ _ h2;generalize(if hi'.isSome=true then h else n)=H at hr run;cases G1:CB with
  |none=>
   simp only[G1,Option.map_none,Option.isSome_none,Bool.false_eq_true,if_false]at hr run c4;split at hr;.rename_i hc;obtain⟨g1,g2,g3⟩:=hc;cases hr;subst g3;refine⟨_,run g1 (by omega) (Nat.le_refl _) (by simp),L,_,_,hL,h1,rfl,by omega,λh0=>?_⟩;obtain⟨rfl,h5⟩:=h4 (by omega);refine⟨?_,by omega⟩;rw[if_neg (by omega)];simp[Addr.add_lit,Nat.add_mul,Nat.add_assoc]
   grind|some m'=>
   simp only[G1,Option.map_some,Option.isSome_some,if_true]at hr run c4;split at hr;.cases hr;refine⟨_,run (by omega) (by omega) (by omega) (λ_=>c4 trivial),(if k=l then ad else ad.map (·.add (l*sz))),0,0,0,?_,λh0=>absurd h0 (by simp),ei.nil⟩<;>grind
   grind
 grind
theorem ND(hs:fo X nt s a){o:Oper}{t:TypeId}{l h:Nat}{x:Operand}{x':bT}{lo hi:Option Operand}{lo' hi':Option bT}{b:ByteArray}(ho:o.op=.slice t x lo hi none)(ht:P.underlying t=some .string)(hx:cU x=some x')(hlo:p9 lo=some lo')(hhi:p9 hi=some hi')(hq:x'.ev s.slots=.d (.sc (.string b)))(bl:fq lo' s.slots 0=some l)(bh:fq hi' s.slots b.size=some h)(c1:l<=h)(c2:h<=b.size):Quiet P X o a (lT (.string (b.extract l h))):=by
 have hv:=bg hs hx;rw[hq]at hv;have hv:=hv.sc;refine⟨_,?_,.lT rfl⟩;rcases jf hs hhi bh with⟨rfl,rfl,rfl⟩|⟨hy,hk,rfl,hh,XA⟩
 .rcases jf hs hlo bl with⟨rfl,rfl,rfl⟩|⟨ly,lk,rfl,hl,hle⟩;.simp[execOp,ho,hv,Instr.sliceAt,run_underlying ht,Instr.slice,Instr.sliceBounds]
  .simp[execOp,ho,hv,Instr.sliceAt,run_underlying ht,Instr.slice,Instr.sliceBounds,Instr.sliceBound,asIntOf,hle,c1]
 .rcases jf hs hlo bl with⟨rfl,rfl,rfl⟩|⟨ly,lk,rfl,hl,hle⟩;.simp[execOp,ho,hv,Instr.sliceAt,run_underlying ht,Instr.slice,Instr.sliceBounds,Instr.sliceBound,asIntOf,XA,c2]
  .simp[execOp,ho,hv,Instr.sliceAt,run_underlying ht,Instr.slice,Instr.sliceBounds,Instr.sliceBound,asIntOf,XA,hle,c1,c2]
end
end Go.bJ
