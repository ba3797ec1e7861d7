/- Slices cut and indexed, lengths, structs built: against the model. -/
import Derived.Test.YtkdilffhbejjaaaGreatEngE
import Derived.Laws.Tables
set_option linter.unusedVariables false
set_option linter.unusedSimpArgs false
namespace Go.bM
open Go Go.RowKit
theorem eS.sub{w:World}{F R:Nat->Nat->Prop}{els:List (List D)}{b o sz:Nat}(h:eS w F R els b o sz)(lo k:Nat):eS w F R ((els.drop lo).take k) b (o+lo*sz) sz:=by grind[eS]
theorem eS.region{w:World}{F R S:Nat->Nat->Prop}{els:List (List D)}{b o sz:Nat}(h:eS w F R els b o sz)(QK:∀b o,R b o->S b o):eS w F S els b o sz:=⟨h.1,λi e j x h1 h2=>⟨QK _ _ (h.2 i e j x h1 h2).1,(h.2 i e j x h1 h2).2⟩⟩
theorem eS.nil{w:World}{F R:Nat->Nat->Prop}{b o sz:Nat}:eS w F R [] b o sz:=⟨by simp,λi e j x h=>by simp at h⟩
theorem vO{X:Cx}{x:AV}{els:List (List D)}{v:Value}(hx:x=.d (.sl els)\/∃o,x=.own els o)(hv:VR X x v):∃a cap sz b o,v=.slice a els.length cap/\els.length<=cap/\(0<els.length->a=some ⟨b,o,none⟩)/\eS X.w X.F (λb o=>X.F b o\/X.old b) els b o sz:=by
 rcases hx with rfl|⟨ow,rfl⟩;.obtain⟨a,cap,sz,b,o,h1,h2,h3,h4⟩:=DR.Xa hv;exact⟨a,cap,sz,b,o,h1,h2,h3,h4.region λ_ _=>.inl⟩
 .cases ow with|full=>obtain⟨a,b,o,sz,h1,h2,h3⟩:=hv;exact⟨a,_,sz,b,o,h1,bc _,h2,h3.region λ_ _=>.inl⟩|cK au tz=>obtain⟨a,b,o,sz,cap,h1,h2,h3,h4,_⟩:=hv;exact⟨a,cap,sz,b,o,h1,h2,λh=>h3 (by omega),h4.region λ_ _=>.inl⟩|bC=>obtain⟨a,b,o,sz,cap,h1,h2,h3,h4⟩:=hv;exact⟨a,cap,sz,b,o,h1,h2,h3,h4.region λ_ _=>.inr⟩
theorem qM{X:Cx}{x:AV}{cs:List AV}{v:Value}(h:cellsOf x=some cs)(hv:VR X x v):aE (VC X) cs v.cells.toList:=by
 have one:∀{x:AV},VC X x v->aE (VC X) [x] v.cells.toList:=by intro x hx;have h1:=hx.one;cases v<;>first|(simp[Value.oneCell']at h1;done)|exact⟨hx,trivial⟩
 cases x with|agg cs'=>cases h;obtain⟨us,rfl,h2⟩:=hv;exact h2|jF=>cases h|_=>simp only[cellsOf]at h;injection h with h;subst h;exact one hv
theorem ee{α:Type}(cs new:List α)(off:Nat)(h:off+new.length<=cs.length)(j:Nat):(splice cs off new)[j]?=if off<=j/\j<off+new.length then new[j-off]?else cs[j]?:=by unfold splice;rw[bi,List.getElem?_append,List.getElem?_append]<;>grind
theorem kM{α:Type}(cs new:List α)(off:Nat)(h:off+new.length<=cs.length):(splice cs off new).length=cs.length:=by grind[splice]
theorem aE.splice{α β:Type}{R:α->β->Prop}{cs new:List α}{us vs:List β}{off:Nat}(h:aE R cs us)(h':aE R new vs):aE R (splice cs off new) (Go.bM.splice us off vs):=by unfold Go.bM.splice;rw[h'.length];exact((h.take off).append h').append (h.drop _)
theorem Eh(off:Nat):∀(l:List Value)(k:Nat)(C:Array Value),off+k+l.length<=C.size->((l.zipIdx k).foldl (λcs p=>cs.setIfInBounds (off+p.2) p.1) C).toList=C.toList.take (off+k)++l++C.toList.drop (off+k+l.length)
 |[],k,C,_=>by simp|v::l,k,C,h=>by
  simp only[List.zipIdx_cons,wa];rw[Eh off l (k+1) _ (by simp at h⊢;omega)];simp only[Array.toList_setIfInBounds];have hk:off+k<C.toList.length:=by simp at h⊢;omega
  apply la;intro j;have e1:=ee (C.toList.set (off+k) v) l (off+(k+1)) (by simp at h⊢;omega) j;have e2:=ee C.toList (v::l) (off+k) (by simp at h⊢;omega) j;unfold splice at e1 e2;rw[e1,e2];simp only[eQ];by_cases h1:j=off+k;.subst h1;rw[be (by omega),bb (by omega),pm,List.getElem?_set_self hk];rfl
  .rw[List.getElem?_set_ne (pj h1)];by_cases h2:off+k<=j/\j<off+k+(l.length+1);.rw[bb (by omega),bb h2];obtain⟨d,rfl⟩:∃d,j=off+k+(d+1):=⟨j-(off+k)-1,by omega⟩;rw[show off+k+(d+1)-(off+(k+1))=d by omega,show off+k+(d+1)-(off+k)=d+1by omega];rfl
   .rw[be (by omega),be h2]
theorem Ei(off:Nat)(vs C:Array Value)(h:off+vs.size<=C.size):(vs.zipIdx.foldl (λcs x=>match x with|(c,j)=>cs.setIfInBounds (off+j) c) C).toList=splice C.toList off vs.toList:=by have:=Eh off vs.toList 0 C (by simpa using h);simp only[fa]at this;unfold splice;rw[<-this,<-Array.foldl_toList,Array.toList_zipIdx]
section
variable{P:Program}{X:Cx}{nt:NT}{s:St}{a:Act}
theorem Bf(hs:fu X nt s a)(place:Nat->Option (Nat×Nat)):∀(ps:List (Nat×Operand))(l:List (Nat×Nat×cc))(z cs:List AV)(C:Array Value),sr place ps=some l->aE (VC X) z C.toList->p5 s.slots z l=some cs->∃C',Instr.fill place C (ps.map λp=>(p.1,a.eval p.2))=some C'/\aE (VC X) cs C'.toList
 |[],l,z,cs,C,hp,hz,hf=>by cases hp;cases hf;exact⟨C,rfl,hz⟩|(i,x)::ps,l,z,cs,C,hp,hz,hf=>by
  simp[sr]at hp;split at hp
  .rename_i off sz y ys h1 h2 h3;cases hp;simp[p5]at hf;split at hf
   .rename_i new hn;split at hf
    .rename_i hc;obtain⟨hc1,pY⟩:=hc;have hv:=qM hn (bB hs h2);have hsz:(a.eval x).cells.size=sz:=by rw[<-hc1,hv.length,ft]
     have hC:C.size=z.length:=by rw[hz.length,ft]
     obtain⟨C',h4,h5⟩:=Bf hs place ps ys (splice z off new) cs ((a.eval x).cells.zipIdx.foldl (λcs x=>match x with|(c,j)=>cs.setIfInBounds (off+j) c) C) h3 (by rw[Ei off _ C (by omega)];exact hz.splice hv) hf;simp only[fj,Instr.fill,h1,hsz,ne_eq,ti,rl,Bool.false_or]<;>grind
    grind
   grind
  grind
theorem H9(hs:fu X nt s a){o:Oper}{t:TypeId}{ps:Array (Nat×Operand)}{it:TypeInfo}{z:Value}{zs:List AV}{l:List (Nat×Nat×cc)}{cs:List AV}(place:Nat->Option (Nat×Nat))(ho:o.op=.build t ps)(hz:fK z.cells.toList=some zs)(hb:∀parts,P.built t parts=Instr.fill place z.cells parts)(hp:sr place ps.toList=some l)(hf:p5 s.slots zs l=some cs)(auE:P.info? t=some it):Quiet P X o a (.agg cs):=by
 obtain⟨C',h1,h2⟩:=Bf hs place ps.toList l zs cs z.cells hp (mE hz) hf;refine⟨.agg C',?_,C',rfl,h2⟩;have hr:(Instr.build t (ps.map λ(i,x)=>(i,a.eval x))).run P X.w=.ok (.agg C') X.w:=by apply run_build;simp_all
 simp[execOp,ho];simp[hr]
theorem su(hs:fu X nt s a){o:Oper}{x:Operand}{x':cc}{r:AV}(ho:o.op=.nilCheck x)(hx:dh x=some x')(hr:x'.ev s.slots=r)(hk:(∃lv sl au i off,r=.ptr lv sl au i off)\/(∃e off,r=.fW e off)\/∃f cs,r=.fk f cs):Quiet P X o a r:=by
 have hv:=bB hs hx;rw[hr]at hv;refine⟨a.eval x,?_,hv⟩;rcases hk with⟨_,_,_,_,_,rfl⟩|⟨_,_,rfl⟩|⟨_,_,rfl⟩;.obtain⟨L,_,h⟩:=hv;simp[execOp,ho,h]
 .obtain⟨_,_,h,_⟩:=hv;simp[execOp,ho,h]
 .obtain⟨_,h,_⟩:=hv;simp[execOp,ho,h]
theorem nR(hs:fu X nt s a){o:Oper}{t e:TypeId}{sz n:Nat}{x i:Operand}{x' i':cc}{r:AV}(ho:o.op=.indexAddr t x i)(ht:P.underlying t=some (.slice e))(hsz:dB P e=some sz)(hx:dh x=some x')(hi:dh i=some i')(hn:gz (i'.ev s.slots)=some n)(hr:(∃els el,(x'.ev s.slots=.d (.sl els)\/∃ow,x'.ev s.slots=.own els ow)/\els[n]?=some el/\el.length=sz/\r=.fW el 0)\/(∃lv sl au off ln,x'.ev s.slots=.ref lv sl au off ln sz/\n<ln/\r=.ptr lv sl au (off+n) 0)\/∃lv sl au off ln,x'.ev s.slots=.fF lv sl au off ln sz/\n<ln/\r=.ptr lv sl au 0 (off+n*sz)):Quiet P X o a r:=by
 have hv:=bB hs hx;obtain⟨kd,hik⟩:=kA hn (bB hs hi);obtain⟨j,hj,F0⟩:=fH hsz;have run:∀(b off ln cap:Nat),n<ln->a.eval x=.slice (some ⟨b,off,none⟩) ln cap->(execOp a.eval o).run P X.w=.ok (.value (.pointer (some ⟨b,off+n*sz,none⟩))) X.w:=by intro b off ln cap hlt he;simp[execOp,ho,he,hik,Instr.indexAt,asIntOf,run_underlying ht,sizeOf,typeInfo,hj,F0,hlt,Addr.add_lit]
 rcases hr with⟨els,el,hq,hel,hl,rfl⟩|⟨lv,sl,au,off,ln,hq,hlt,rfl⟩|⟨lv,sl,au,off,ln,hq,hlt,rfl⟩
 .obtain⟨ad,cap,sz',b,off,h1,h2,h3,h4⟩:=vO hq hv;have hlt:n<els.length:=(cf.1 hel).1;have h3:=h3 (by omega);subst h3;have abj:sz'=sz:=by grind[eS,VR,cc.ev,gz,dh,dB]
  subst abj;refine⟨_,run b off _ cap hlt h1,b,off+n*sz',rfl,λj x hx=>h4.2 n el j x hel hx⟩
 .rw[hq]at hv;obtain⟨L,ad,cap,hL,h1,h2,h3,h4⟩:=hv;obtain⟨rfl,h5⟩:=h4 (by omega);refine⟨_,run _ _ _ cap hlt h2,L,hL,?_⟩<;>grind
 .rw[hq]at hv;obtain⟨L,hL,h1,_⟩:=hv;refine⟨_,run _ _ _ ln hlt h1,L,hL,?_⟩<;>grind
theorem yV(hs:fu X nt s a){o:Oper}{t e:TypeId}{n sz k:Nat}{x i:Operand}{x' i':cc}{r:AV}(ho:o.op=.indexAddr t x i)(ht:P.underlying t=some (.array n e))(hsz:dB P e=some sz)(hx:dh x=some x')(hi:dh i=some i')(hn:gz (i'.ev s.slots)=some k)(hkn:k<n)(hr:(∃lv sl au j off,x'.ev s.slots=.ptr lv sl au j off/\r=.ptr lv sl au j (off+k*sz))\/∃el off,x'.ev s.slots=.fW el off/\r=.fW el (off+k*sz)):Quiet P X o a r:=by
 have hv:=bB hs hx;obtain⟨kd,hik⟩:=kA hn (bB hs hi);obtain⟨j,hj,F0⟩:=fH hsz;have run:∀(b off:Nat),a.eval x=.pointer (some ⟨b,off,none⟩)->(execOp a.eval o).run P X.w=.ok (.value (.pointer (some ⟨b,off+k*sz,none⟩))) X.w:=by intro b off he;simp[execOp,ho,he,hik,Instr.indexAt,asIntOf,run_underlying ht,sizeOf,typeInfo,hj,F0,hkn,Addr.add_lit,jK]
 rcases hr with⟨lv,sl,au,i',off,hq,rfl⟩|⟨e,off,hq,rfl⟩;.rw[hq]at hv;obtain⟨L,hL,hv⟩:=hv;exact⟨_,run _ _ hv,L,hL,by rw[ed]⟩
 .rw[hq]at hv;obtain⟨b,o',hv,h⟩:=hv;exact⟨_,run _ _ hv,b,o',by rw[ed],h⟩
theorem On(hs:fu X nt s a){o:Oper}{t e:TypeId}{n sz off lv sl au:Nat}{x:Operand}{x':cc}(ho:o.op=.slice t x none none none)(ht:P.underlying t=some (.array n e))(hsz:dB P e=some sz)(h0:n≠0)(hx:dh x=some x')(hq:x'.ev s.slots=.ptr lv sl au 0 off):Quiet P X o a (.fF lv sl au off n sz):=by have hv:=bB hs hx;rw[hq]at hv;obtain⟨L,hL,hv⟩:=hv;obtain⟨j,hj,F0⟩:=fH hsz;refine⟨.slice (some ⟨L.b,L.o+off,none⟩) n n,?_,L,hL,rfl,by omega⟩;simp[execOp,ho,hv,Instr.sliceAt,run_underlying ht,jK,Instr.sliceBounds,sizeOf,typeInfo,hj,Addr.add_lit]
theorem Oo(hs:fu X nt s a){o:Oper}{t e:TypeId}{n sz off lv sl au:Nat}{k:Int}{x:Operand}{x':cc}(ho:o.op=.slice t x (some (.const (.int .i64 k))) none none)(ht:P.underlying t=some (.array n e))(hsz:dB P e=some sz)(h0:0<=k)(hlt:k.toNat<n)(hx:dh x=some x')(hq:x'.ev s.slots=.ptr lv sl au 0 off):Quiet P X o a (.fF lv sl au (off+k.toNat*sz) (n-k.toNat) sz):=by
 have hv:=bB hs hx;rw[hq]at hv;obtain⟨L,hL,hv⟩:=hv;obtain⟨j,hj,F0⟩:=fH hsz;obtain⟨l,rfl⟩:=du h0;have hne:¬n=l:=by omega
 have hle:¬n<l:=by omega
 have he:a.eval (.const (.int .i64 (l:Int)))=.int .i64 (l:Int):=rfl;refine⟨.slice (some ⟨L.b,L.o+(off+l*sz),none⟩) (n-l) (n-l),?_,L,hL,rfl,by omega⟩;simp[execOp,ho,hv,he,Instr.sliceAt,run_underlying ht,jK,Instr.sliceBounds,Instr.sliceBound,asIntOf,sizeOf,typeInfo,hj,F0,hne,hle,Addr.add_lit,ed]
theorem F1(hs:fu X nt s a){o:Oper}{t e:TypeId}{n:Nat}{x:Operand}{x':cc}(ho:o.op=.call {callee:=.builtin .len,args:=#[x],argTypes:=#[t]})(ht:P.underlying t=some (.slice e))(hx:dh x=some x')(hr:(∃els,(x'.ev s.slots=.d (.sl els)\/∃ow,x'.ev s.slots=.own els ow)/\n=els.length)\/(∃lv sl au off sz,x'.ev s.slots=.ref lv sl au off n sz)\/∃lv sl au off sz,x'.ev s.slots=.fF lv sl au off n sz):Quiet P X o a (p4 n):=by
 have hv:=bB hs hx;have run:∀ad cap,a.eval x=.slice ad n cap->(execOp a.eval o).run P X.w=.ok (.value (.int .i64 n)) X.w:=by intro ad cap he;simp[execOp,ho,resolve,invoke,builtin,Builtin.len_,run_underlying ht,he,goInt]
 refine⟨.int .i64 n,?_,.Bb rfl⟩;rcases hr with⟨els,hq,rfl⟩|⟨lv,sl,au,off,sz,hq⟩|⟨lv,sl,au,off,sz,hq⟩;.obtain⟨ad,cap,sz',b,off,h1,_⟩:=vO hq hv<;>grind
 .rw[hq]at hv;obtain⟨L,ad,cap,_,_,h,_⟩:=hv<;>grind
 .rw[hq]at hv;obtain⟨L,_,h,_⟩:=hv<;>grind
theorem Xj(hs:fu X nt s a){o:Oper}{t e:TypeId}{els:List (List D)}{x:Operand}{x':cc}(ho:o.op=.call {callee:=.builtin .cap,args:=#[x],argTypes:=#[t]})(ht:P.underlying t=some (.slice e))(hx:dh x=some x')(hr:x'.ev s.slots=.own els .full):Quiet P X o a (p4 els.length):=by have hv:=bB hs hx;rw[hr]at hv;obtain⟨ad,b,o',sz,hv,_⟩:=hv;refine⟨.int .i64 els.length,?_,.Bb rfl⟩;simp[execOp,ho,resolve,invoke,builtin,Builtin.cap_,run_underlying ht,hv,goInt]
theorem Xk(hs:fu X nt s a){o:Oper}{t:TypeId}{b:ByteArray}{x:Operand}{x':cc}(ho:o.op=.call {callee:=.builtin .len,args:=#[x],argTypes:=#[t]})(ht:P.underlying t=some .string)(hx:dh x=some x')(hr:x'.ev s.slots=.d (.sc (.string b))):Quiet P X o a (p4 b.size):=by have hv:=bB hs hx;rw[hr]at hv;have hv:=hv.sc;refine⟨.int .i64 b.size,?_,.Bb rfl⟩;simp[execOp,ho,resolve,invoke,builtin,Builtin.len_,run_underlying ht,hv,goInt]
theorem MY{o:Oper}{t:TypeId}{n:Nat}{x:Operand}(ho:o.op=.call {callee:=.builtin .len,args:=#[x],argTypes:=#[t]})(ht:(∃e,P.underlying t=some (.array n e))\/∃p e,P.underlying t=some (.pointer p)/\P.underlying p=some (.array n e)):Quiet P X o a (p4 n):=by
 refine⟨.int .i64 n,?_,.Bb rfl⟩;rcases ht with⟨e,ht⟩|⟨p,e,ht,hp⟩;.simp[execOp,ho,resolve,invoke,builtin,Builtin.len_,run_underlying ht,goInt]
 .simp[execOp,ho,resolve,invoke,builtin,Builtin.len_,run_underlying ht,run_underlying hp,goInt]
theorem KN{x:AV}{v:Value}(h:jI x=true)(hv:VR X x v):H6 X x v:=by cases x<;>first|(cases h;done)|exact hv
theorem yW(hs:fu X nt s a){o:Oper}{f:Nat}{cap:Array Operand}{cap':List cc}(ho:o.op=.makeFunc (.func f) #[] cap)(hc:jf cap.toList=some cap')(h0:(DF s.slots cap').all jI=true):Quiet P X o a (.fk f (DF s.slots cap')):=by have h:=vL hs hc;refine⟨.func (.func f) #[] (cap.map a.eval),by simp[execOp,ho,Instr.makeFunc],cap.map a.eval,rfl,?_⟩;rw[lw];exact .uO h.length λi x v hx hv=>by obtain⟨v',nD,hr⟩:=h.get i x hx;rw[hv]at nD;injection nD with nD;subst nD;exact KN (km.1 h0 x (f7 hx)) hr
theorem jL(hs:fu X nt s a){x:Option Operand}{x':Option cc}{n d:Nat}(hx:qL x=some x')(h:fJ x' s.slots d=some n):(x=none/\x'=none/\n=d)\/∃y k,x=some y/\x'.isSome=true/\a.eval y=.int k (n:Int):=by cases x with|none=>grind[qL,fJ]|some y=>simp only[qL]at hx;cases hy:dh y with|none=>grind|some y'=>rw[hy]at hx;cases hx;obtain⟨k,hk⟩:=kA h (bB hs hy)<;>grind
theorem Ej(hs:fu X nt s a){o:Oper}{t e:TypeId}{sz n cap l h k:Nat}{ad:Option Addr}{x:Operand}{lo hi mx:Option Operand}{lo' hi' DI:Option cc}(ho:o.op=.slice t x lo hi mx)(ht:P.underlying t=some (.slice e))(hsz:dB P e=some sz)(hx:a.eval x=.slice ad n cap)(hlo:qL lo=some lo')(hhi:qL hi=some hi')(Rf:qL mx=some DI)(bl:fJ lo' s.slots 0=some l)(bh:fJ hi' s.slots 0=some h)(bk:fJ DI s.slots 0=some k)(c1:l<=(if hi'.isSome then h else n))(c2:(if hi'.isSome then h else n)<=(if DI.isSome then k else cap))(c3:(if DI.isSome then k else cap)<=cap)(c4:DI.isSome=true->hi'.isSome=true):(execOp a.eval o).run P X.w=.ok (.value (.slice (if(if DI.isSome then k else cap)=l then ad else ad.map (·.add (l*sz))) ((if hi'.isSome then h else n)-l) ((if DI.isSome then k else cap)-l))) X.w:=by
 obtain⟨j,hj,F0⟩:=fH hsz;rcases jL hs Rf bk with⟨rfl,rfl,rfl⟩|⟨my,mk,rfl,hm,hme⟩
 .rcases jL hs hhi bh with⟨rfl,rfl,rfl⟩|⟨hy,hk,rfl,hh,Zy⟩
  .simp[m9,io,m6]at c1 c2 c3⊢;rcases jL hs hlo bl with⟨rfl,rfl,rfl⟩|⟨ly,lk,rfl,hl,hle⟩;.simp[execOp,ho,hx,Instr.sliceAt,run_underlying ht,Instr.slice,Instr.sliceBounds,sizeOf,typeInfo,hj]
   .simp[execOp,ho,hx,Instr.sliceAt,run_underlying ht,Instr.slice,Instr.sliceBounds,Instr.sliceBound,asIntOf,sizeOf,typeInfo,hj,F0,hle,c1]
  .simp[hh,ii,m9,io,m6]at c1 c2 c3⊢;rcases jL hs hlo bl with⟨rfl,rfl,rfl⟩|⟨ly,lk,rfl,hl,hle⟩;.simp[execOp,ho,hx,Instr.sliceAt,run_underlying ht,Instr.slice,Instr.sliceBounds,Instr.sliceBound,asIntOf,sizeOf,typeInfo,hj,Zy,c2]
   .simp[execOp,ho,hx,Instr.sliceAt,run_underlying ht,Instr.slice,Instr.sliceBounds,Instr.sliceBound,asIntOf,sizeOf,typeInfo,hj,F0,Zy,hle,c1,c2]
 .rcases jL hs hhi bh with⟨rfl,rfl,rfl⟩|⟨hy,hk,rfl,hh,Zy⟩;.grind
  .simp[hh,hm,ii]at c1 c2 c3⊢;rcases jL hs hlo bl with⟨rfl,rfl,rfl⟩|⟨ly,lk,rfl,hl,hle⟩;.simp[execOp,ho,hx,Instr.sliceAt,run_underlying ht,Instr.slice,Instr.sliceBounds,Instr.sliceBound,asIntOf,sizeOf,typeInfo,hj,Zy,hme,c2,c3]
   .simp[execOp,ho,hx,Instr.sliceAt,run_underlying ht,Instr.slice,Instr.sliceBounds,Instr.sliceBound,asIntOf,sizeOf,typeInfo,hj,F0,Zy,hme,hle,c1,c2,c3]
theorem j7{els:List (List D)}{sz:Nat}(h:els.all (λe=>e.length==sz)=true):∀e∈els,e.length=sz:=λe he=>by grind
theorem p8{R:Nat->Nat->Prop}{els:List (List D)}{ad:Option Addr}{b o sz sz' l h m:Nat}(hl:eS X.w X.F R els b o sz')(had:0<els.length->ad=some ⟨b,o,none⟩)(c1:l<=h)(c2:h<=els.length)(c3:h<=m)(MZ:∀e∈els,e.length=sz):((els.drop l).take (h-l)).length=h-l/\(0<h-l->(if m=l then ad else ad.map (·.add (l*sz)))=some ⟨b,o+l*sz',none⟩)/\eS X.w X.F R ((els.drop l).take (h-l)) b (o+l*sz') sz':=by
 refine⟨by simp;omega,λh0=>?_,hl.sub l _⟩;rw[be (by omega),had (by omega)];have:sz'=sz:=by
  have hlt:0<els.length:=by omega
  have hm:=f2 hlt<;>grind[eS]
 subst this;simp[Addr.add_lit]
theorem Rg(hs:fu X nt s a){o:Oper}{t e:TypeId}{sz l h k:Nat}{x:Operand}{x':cc}{lo hi mx:Option Operand}{lo' hi' DI:Option cc}{r:AV}(ho:o.op=.slice t x lo hi mx)(ht:P.underlying t=some (.slice e))(hsz:dB P e=some sz)(hx:dh x=some x')(hlo:qL lo=some lo')(hhi:qL hi=some hi')(Rf:qL mx=some DI)(bl:fJ lo' s.slots 0=some l)(bh:fJ hi' s.slots 0=some h)(bk:fJ DI s.slots 0=some k)(c4:DI.isSome=true->hi'.isSome=true)(hr:fo sz (x'.ev s.slots) l (hi'.map λ_=>h) (DI.map λ_=>k)=some r):Quiet P X o a r:=by
 have hv:=bB hs hx;have eh:∀n,(hi'.map λ_=>h).getD n=if hi'.isSome then h else n:=λn=>by cases hi'<;>rfl
 have run:=λ(ad:Option Addr)(n cap:Nat)(he:a.eval x=.slice ad n cap)=>Ej hs (P:=P) ho ht hsz he hlo hhi Rf bl bh bk;unfold fo at hr;split at hr;.rename_i els hq;simp only[eh]at hr;obtain⟨ad,cap,sz',b,off,h1,h2,h3,h4⟩:=DR.Xa (hq▸hv);have run:=run _ _ _ h1;generalize(if hi'.isSome=true then h else els.length)=H at hr run;cases Ia:DI with
  |none=>
   simp only[Ia,vy,m9,io,m6]at hr run c4;split at hr;.rename_i hc;obtain⟨g1,g2,g3⟩:=hc;cases hr;obtain⟨k1,k2,k3⟩:=p8 (m:=cap) h4 h3 g1 g2 (by omega) (j7 g3);exact⟨_,run g1 (by omega) (bc _) (by simp),DR.ja k3 k1 (by omega) k2⟩
   grind|some m'=>
   simp only[Ia,ca,ss,ii]at hr run c4;split at hr;.rename_i hc;obtain⟨g1,g2,g4,g3⟩:=hc;cases hr;obtain⟨k1,k2,k3⟩:=p8 (m:=k) h4 h3 g1 g4 (by omega) (j7 g3);refine⟨_,run g1 (by omega) (by omega) (λ_=>c4 trivial),_,b,off+l*sz',sz',?_,λh0=>k2 (by omega),k3⟩;rw[k1,g2]
   grind
 .rename_i els ow hq;simp only[eh]at hr;rw[hq]at hv;replace run:=λad cap he=>run ad els.length cap he;generalize(if hi'.isSome=true then h else els.length)=H at hr run;cases Ia:DI with
  |none=>
   simp only[Ia,vy,m9,io,m6]at hr run c4;split at hr
   .rename_i hc;obtain⟨g1,g2,g3⟩:=hc;cases ow with|bC=>cases hr;obtain⟨ad,b,off,sz',cap,h1,h2,h3,h4⟩:=hv;obtain⟨k1,k2,k3⟩:=p8 (m:=cap) h4 h3 g1 g2 (by omega) (j7 g3);refine⟨_,run _ _ h1 g1 (by omega) (bc _) (by simp),_,b,off+l*sz',sz',cap-l,?_,?_,λh0=>k2 (by omega),k3⟩<;>grind|full=>
     simp at hr;obtain⟨ad,b,off,sz',h1,h3,h4⟩:=hv;obtain⟨k1,k2,k3⟩:=p8 (m:=els.length) h4 h3 g1 g2 (by omega) (j7 g3);have run:=run _ _ h1 g1 (by omega) (bc _) (by simp);split at hr;.rename_i hh;cases hr;rw[hh]at run k1 k2 k3;have e1:(els.drop l).take (els.length-l)=els.drop l:=fg (by simp);rw[e1]at k1 k3;refine⟨_,run,_,b,off+l*sz',sz',?_,λh0=>k2 (by omega),k3⟩<;>grind
     .cases hr;exact⟨_,run,DR.ja k3 k1 (by omega) k2⟩|cK au tz=>cases hr;obtain⟨ad,b,off,sz',cap,h1,h2,h3,h4,_⟩:=hv;obtain⟨k1,k2,k3⟩:=p8 (m:=cap) h4 (λh=>h3 (by omega)) g1 g2 (by omega) (j7 g3);exact⟨_,run _ _ h1 g1 (by omega) (bc _) (by simp),DR.ja k3 k1 (by omega) k2⟩
   grind|some m'=>
   simp only[Ia,ca,ss,ii]at hr run c4;split at hr
   .rename_i hc;obtain⟨g1,g2,g4,g3⟩:=hc;have done:∀(ad:Option Addr)(cap sz' b off:Nat),a.eval x=.slice ad els.length cap->els.length<=cap->(0<els.length->ad=some ⟨b,off,none⟩)->eS X.w X.F X.F els b off sz'->Quiet P X o a (.own ((els.drop l).take (H-l)) .full):=by intro ad cap sz' b off h1 h2 h3 h4;obtain⟨k1,k2,k3⟩:=p8 (m:=k) h4 h3 g1 g4 (by omega) (j7 g3);refine⟨_,run _ _ h1 g1 (by omega) (by omega) (λ_=>c4 trivial),_,b,off+l*sz',sz',?_,λh0=>k2 (by omega),k3⟩<;>grind
    cases ow with
    |bC=>
     simp only at hr;obtain⟨ad,b,off,sz',cap,h1,h2,h3,h4⟩:=hv;split at hr;.cases hr;refine⟨_,run _ _ h1 g1 (by omega) (by omega) (λ_=>c4 trivial),(if k=l then ad else ad.map (·.add (l*sz))),0,0,0,?_,λh0=>absurd h0 (by simp),eS.nil⟩<;>grind
     grind|full=>obtain⟨ad,b,off,sz',h1,h3,h4⟩:=hv<;>grind|cK au tz=>obtain⟨ad,b,off,sz',cap,h1,h2,h3,h4,_⟩:=hv<;>grind
   grind
 .rename_i lv sl au off n sz' hq;simp[eh]at hr;rw[hq]at hv;obtain⟨L,ad,cap,hL,h1,h2,h3,h4⟩:=hv;have run:=run _ _ _ h2;generalize(if hi'.isSome=true then h else n)=H at hr run;cases Ia:DI with
  |none=>
   simp only[Ia,vy,m9,io,m6]at hr run c4;split at hr;.rename_i hc;obtain⟨g1,g2,g3⟩:=hc;cases hr;subst g3;refine⟨_,run g1 (by omega) (bc _) (by simp),L,_,_,hL,h1,rfl,by omega,λh0=>?_⟩;obtain⟨rfl,h5⟩:=h4 (by omega);refine⟨?_,by omega⟩;rw[be (by omega)];simp[Addr.add_lit,d6,ed]
   grind|some m'=>
   simp only[Ia,ca,ss,ii]at hr run c4;split at hr;.cases hr;refine⟨_,run (by omega) (by omega) (by omega) (λ_=>c4 trivial),(if k=l then ad else ad.map (·.add (l*sz))),0,0,0,?_,λh0=>absurd h0 (by simp),eS.nil⟩<;>grind
   grind
 grind
theorem Oq(hs:fu X nt s a){o:Oper}{t:TypeId}{l h:Nat}{x:Operand}{x':cc}{lo hi:Option Operand}{lo' hi':Option cc}{b:ByteArray}(ho:o.op=.slice t x lo hi none)(ht:P.underlying t=some .string)(hx:dh x=some x')(hlo:qL lo=some lo')(hhi:qL hi=some hi')(hq:x'.ev s.slots=.d (.sc (.string b)))(bl:fJ lo' s.slots 0=some l)(bh:fJ hi' s.slots b.size=some h)(c1:l<=h)(c2:h<=b.size):Quiet P X o a (mM (.string (b.extract l h))):=by
 have hv:=bB hs hx;rw[hq]at hv;have hv:=hv.sc;refine⟨_,?_,.mM rfl⟩;rcases jL hs hhi bh with⟨rfl,rfl,rfl⟩|⟨hy,hk,rfl,hh,Zy⟩
 .rcases jL hs hlo bl with⟨rfl,rfl,rfl⟩|⟨ly,lk,rfl,hl,hle⟩;.simp[execOp,ho,hv,Instr.sliceAt,run_underlying ht,Instr.slice,Instr.sliceBounds]
  .simp[execOp,ho,hv,Instr.sliceAt,run_underlying ht,Instr.slice,Instr.sliceBounds,Instr.sliceBound,asIntOf,hle,c1]
 .rcases jL hs hlo bl with⟨rfl,rfl,rfl⟩|⟨ly,lk,rfl,hl,hle⟩;.simp[execOp,ho,hv,Instr.sliceAt,run_underlying ht,Instr.slice,Instr.sliceBounds,Instr.sliceBound,asIntOf,Zy,c2]
  .simp[execOp,ho,hv,Instr.sliceAt,run_underlying ht,Instr.slice,Instr.sliceBounds,Instr.sliceBound,asIntOf,Zy,hle,c1,c2]
end
end Go.bM
