/- Slices cut and indexed, lengths, structs built: against the model. -/
import Derived.Test.YtokjmkblnafppaaGreatDoorEngE
import Derived.Laws.Tables
set_option linter.unusedVariables false
set_option linter.unusedSimpArgs false
namespace Go.bI
open Go Go.RowKit
theorem eW.sub {w:World} {F R:Nat→Nat→Prop} {els:List (List D)} {b o sz:Nat} (h:eW w F R els b o sz) (lo k:Nat):eW w F R ((els.drop lo).take k) b (o+lo*sz) sz:=by
 refine⟨fun e he=>h.1 e (List.mem_of_mem_drop (List.mem_of_mem_take he)),fun i e j x h1 h2=>?_⟩
 have:=h.2 _ e j x (cI h1).1 h2
 rw[Nat.add_mul] at this
 simpa[Nat.add_assoc] using this
theorem eW.region {w:World} {F R S:Nat→Nat→Prop} {els:List (List D)} {b o sz:Nat} (h:eW w F R els b o sz) (hrs:∀ b o,R b o→S b o):eW w F S els b o sz:=
 ⟨h.1,fun i e j x h1 h2=>⟨hrs _ _ (h.2 i e j x h1 h2).1,(h.2 i e j x h1 h2).2⟩⟩
theorem eW.nil {w:World} {F R:Nat→Nat→Prop} {b o sz:Nat} : eW w F R [] b o sz:=⟨by simp,fun i e j x h=>by simp at h⟩
theorem tL {X:Cx} {x:AV} {els:List (List D)} {v:Value} (hx:x=.d (.sl els)∨∃ o,x=.own els o) (hv:VR X x v) :
  ∃ a cap sz b o,v=.slice a els.length cap∧els.length≤cap∧(0<els.length→a=some ⟨b,o,none⟩)∧eW X.w X.F (fun b o=>X.F b o∨X.old b) els b o sz:=by
 rcases hx with rfl|⟨ow,rfl⟩
 ·obtain ⟨a, cap, sz, b, o, h1, h2, h3, h4⟩ := DR.QY hv
  exact⟨a,cap,sz,b,o,h1,h2,h3,h4.region fun _ _=>.inl⟩
 ·cases ow with
  |full=>obtain⟨a,b,o,sz,h1,h2,h3⟩:=hv;exact⟨a,_,sz,b,o,h1,Nat.le_refl _,h2,h3.region fun _ _=>.inl⟩
  |cx af tz=>obtain⟨a,b,o,sz,cap,h1,h2,h3,h4,_⟩:=hv;exact⟨a,cap,sz,b,o,h1,h2,fun h=>h3 (by omega),h4.region fun _ _=>.inl⟩
  |aJ=>obtain⟨a,b,o,sz,cap,h1,h2,h3,h4⟩:=hv;exact⟨a,cap,sz,b,o,h1,h2,h3,h4.region fun _ _=>.inr⟩
theorem ot {X:Cx} {x:AV} {cs:List AV} {v:Value} (h:cellsOf x=some cs) (hv:VR X x v):az (VC X) cs v.cells.toList:=by
 have one:∀ {x:AV},VC X x v→az (VC X) [x] v.cells.toList:=by
  intro x hx
  have h1:=hx.one
  cases v<;>first|(simp[Value.oneCell'] at h1;done)|exact⟨hx,trivial⟩
 cases x with
 |agg cs'=>
  simp only[cellsOf] at h
  injection h with h;subst h
  obtain⟨us,rfl,h2⟩:=hv
  exact h2
 |gZ=>cases h
 |_=>simp only[cellsOf] at h;injection h with h;subst h;exact one hv
theorem cQ {α : Type} (cs new:List α) (off:Nat) (h:off+new.length≤cs.length) (j:Nat) :
  (splice cs off new)[j]?=if off≤j∧j<off+new.length then new[j-off]? else cs[j]?:=by
 unfold splice
 rw[List.append_assoc,List.getElem?_append,List.getElem?_append]
 simp only[List.length_take]
 by_cases h1:j<off
 ·rw[if_pos (by omega),if_neg (by omega),List.getElem?_take,if_pos h1]
 ·rw [if_neg (by omega)]
  have e:j-min off cs.length=j-off:=by omega
  rw[e]
  by_cases h2:j<off+new.length
  ·rw[if_pos (by omega),if_pos ⟨by omega,h2⟩]
  ·rw [if_neg (by omega), if_neg (by omega), List.getElem?_drop]
   congr 1
   omega
theorem jM {α : Type} (cs new:List α) (off:Nat) (h:off+new.length≤cs.length):(splice cs off new).length=cs.length:=by
 unfold splice
 simp
 omega
theorem az.splice {α β : Type} {R : α→β→Prop} {cs new:List α} {us vs:List β} {off:Nat} (h:az R cs us) (h':az R new vs):az R (splice cs off new) (Go.bI.splice us off vs):=by
 unfold Go.bI.splice
 rw[h'.length]
 exact ((h.take off).append h').append (h.drop _)
theorem BX (off:Nat):∀ (l:List Value) (k:Nat) (C:Array Value),off+k+l.length≤C.size→
  ((l.zipIdx k).foldl (fun cs p=>cs.setIfInBounds (off+p.2) p.1) C).toList=C.toList.take (off+k)++l++C.toList.drop (off+k+l.length)
 |[],k,C,_=>by simp
 | v :: l, k, C, h => by
  simp only[List.zipIdx_cons,List.foldl_cons]
  rw[BX off l (k+1) _ (by simp at h ⊢;omega)]
  simp only[Array.toList_setIfInBounds]
  have hk:off+k<C.toList.length:=by simp at h ⊢;omega
  apply List.ext_getElem?
  intro j
  have e1:=cQ (C.toList.set (off+k) v) l (off+(k+1)) (by simp at h ⊢;omega) j
  have e2:=cQ C.toList (v :: l) (off+k) (by simp at h ⊢;omega) j
  unfold splice at e1 e2
  rw[e1,e2]
  simp only[List.length_cons]
  by_cases h1:j=off+k
  ·subst h1
   rw[if_neg (by omega),if_pos (by omega),Nat.sub_self,List.getElem?_set_self hk]
   rfl
  ·rw [List.getElem?_set_ne (Ne.symm h1)]
   by_cases h2:off+k≤j∧j<off+k+(l.length+1)
   ·rw [if_pos (by omega), if_pos h2]
    obtain⟨d,rfl⟩:∃ d,j=off+k+(d+1):=⟨j-(off+k)-1,by omega⟩
    rw[show off+k+(d+1)-(off+(k+1))=d by omega,show off+k+(d+1)-(off+k)=d+1 by omega]
    rfl
   ·rw[if_neg (by omega),if_neg h2]
theorem BY (off:Nat) (vs C:Array Value) (h:off+vs.size≤C.size) :
  (vs.zipIdx.foldl (fun cs x=>match x with|(c,j)=>cs.setIfInBounds (off+j) c) C).toList=splice C.toList off vs.toList:=by
 have:=BX off vs.toList 0 C (by simpa using h)
 simp only[Nat.add_zero] at this
 unfold splice
 rw[←this,←Array.foldl_toList,Array.toList_zipIdx]
section
variable {P:Program} {X:Cx} {nt:Nat} {s:St} {a:Act}
theorem ze (hs:eL X nt s a) (place:Nat→Option (Nat×Nat)):∀ (ps:List (Nat×Operand)) (l:List (Nat×Nat×bR)) (z cs:List AV) (C:Array Value),
  oo place ps=some l→az (VC X) z C.toList→mN s.slots z l=some cs→∃ C',Instr.fill place C (ps.map fun p=>(p.1,a.eval p.2))=some C'∧az (VC X) cs C'.toList
 |[],l,z,cs,C,hp,hz,hf=>by
  simp only[oo] at hp
  injection hp with hp;subst hp
  simp only[mN] at hf
  injection hf with hf;subst hf
  exact⟨C,rfl,hz⟩
 | (i, x) :: ps, l, z, cs, C, hp, hz, hf => by
  simp only[oo] at hp
  split at hp
  ·rename_i off sz y ys h1 h2 h3
   injection hp with hp;subst hp
   simp only[mN] at hf
   split at hf
   ·rename_i new hn
    split at hf
    ·rename_i hc
     obtain⟨hc1,pz⟩:=hc
     have hv:=ot hn (bw hs h2)
     have hsz:(a.eval x).cells.size=sz:=by rw[←hc1,hv.length,Array.length_toList]
     have hC:C.size=z.length:=by rw[hz.length,Array.length_toList]
     obtain⟨C',h4,h5⟩:=ze hs place ps ys (splice z off new) cs ((a.eval x).cells.zipIdx.foldl (fun cs x=>match x with|(c,j)=>cs.setIfInBounds (off+j) c) C) h3 (by
      rw[BY off _ C (by omega)]
      exact hz.splice hv) hf
     refine⟨C',?_,h5⟩
     simp only[List.map_cons,Instr.fill,h1,hsz,ne_eq,not_true_eq_false,decide_false,Bool.false_or]
     rw[if_neg (by simp;omega)]
     exact h4
    ·cases hf
   ·cases hf
  ·cases hp
theorem EN (hs:eL X nt s a) {o:Oper} {t:TypeId} {ps:Array (Nat×Operand)} {it:TypeInfo} {z:Value} {zs:List AV} {l:List (Nat×Nat×bR)} {cs:List AV} (place:Nat→Option (Nat×Nat))
  (ho:o.op=.build t ps) (hz:eS z.cells.toList=some zs)
  (hb:∀ parts,P.built t parts=Instr.fill place z.cells parts) (hp:oo place ps.toList=some l) (hf:mN s.slots zs l=some cs) (ah7:P.info? t=some it):Quiet P X o a (.agg cs):=by
 obtain⟨C',h1,h2⟩:=ze hs place ps.toList l zs cs z.cells hp (kF hz) hf
 refine⟨.agg C',?_,C',rfl,h2⟩
 have hr:(Instr.build t (ps.map fun (i,x)=>(i,a.eval x))).run P X.w=.ok (.agg C') X.w:=by
  apply run_build
  rw[hb,Array.toList_map]
  exact h1
 simp only[execOp,ho]
 simp[hr]
theorem pV (hs:eL X nt s a) {o:Oper} {x:Operand} {x':bR} {r:AV} (ho:o.op=.nilCheck x) (hx:cL x=some x') (hr:x'.ev s.slots=r)
  (hk:(∃ lv sl af i off,r=.ptr lv sl af i off)∨(∃ e off,r=.fo e off)∨∃ f cs,r=.fV f cs):Quiet P X o a r:=by
 have hv:=bw hs hx
 rw[hr] at hv
 refine⟨a.eval x,?_,hv⟩
 rcases hk with⟨_,_,_,_,_,rfl⟩|⟨_,_,rfl⟩|⟨_,_,rfl⟩
 ·obtain ⟨L, _, h⟩ := hv
  simp[execOp,ho,h]
 ·obtain ⟨_, _, h, _⟩ := hv
  simp[execOp,ho,h]
 ·obtain ⟨_, h, _⟩ := hv
  simp[execOp,ho,h]
theorem lP (hs:eL X nt s a) {o:Oper} {t e:TypeId} {sz n:Nat} {x i:Operand} {x' i':bR} {r:AV} (ho:o.op=.indexAddr t x i) (ht:P.underlying t=some (.slice e)) (hsz:cY P e=some sz)
  (hx:cL x=some x') (hi:cL i=some i') (hn:fN (i'.ev s.slots)=some n)
  (hr : (∃ els el, (x'.ev s.slots = .d (.sl els) ∨ ∃ ow, x'.ev s.slots = .own els ow) ∧ els[n]? = some el ∧ el.length = sz ∧ r = .fo el 0) ∨
   (∃ lv sl af off ln,x'.ev s.slots=.ref lv sl af off ln sz∧n<ln∧r=.ptr lv sl af (off+n) 0)∨
   ∃ lv sl af off ln,x'.ev s.slots=.eH lv sl af off ln sz∧n<ln∧r=.ptr lv sl af 0 (off+n*sz)):Quiet P X o a r:=by
 have hv:=bw hs hx
 obtain⟨kd,hik⟩:=jv hn (bw hs hi)
 obtain⟨j,hj,Dl⟩:=eM hsz
 have run:∀ (b off ln cap:Nat),n<ln→a.eval x=.slice (some ⟨b,off,none⟩) ln cap→(execOp a.eval o).run P X.w=.ok (.value (.pointer (some ⟨b,off+n*sz,none⟩))) X.w:=by
  intro b off ln cap hlt he
  have hlt':(n:Int)<(ln:Int):=by omega
  simp[execOp,ho,he,hik,Instr.indexAt,asIntOf,run_underlying ht,sizeOf,typeInfo,hj,Dl,hlt,Addr.add_lit]
 rcases hr with⟨els,el,hq,hel,hl,rfl⟩|⟨lv,sl,af,off,ln,hq,hlt,rfl⟩|⟨lv,sl,af,off,ln,hq,hlt,rfl⟩
 ·obtain ⟨ad, cap, sz', b, off, h1, h2, h3, h4⟩ := tL hq hv
  have hlt:n<els.length:=(List.getElem?_eq_some_iff.1 hel).1
  have h3:=h3 (by omega)
  subst h3
  have UX:sz'=sz:=by rw[←hl,h4.1 el (List.mem_of_getElem? hel)]
  subst UX
  refine⟨_,run b off _ cap hlt h1,b,off+n*sz',rfl,fun j x hx=>h4.2 n el j x hel hx⟩
 ·rw [hq] at hv
  obtain⟨L,ad,cap,hL,h1,h2,h3,h4⟩:=hv
  obtain⟨rfl,h5⟩:=h4 (by omega)
  refine⟨_,run _ _ _ cap hlt h2,L,hL,?_⟩
  rw[h1,Nat.add_mul]
  simp[Nat.add_assoc]
 ·rw [hq] at hv
  obtain⟨L,hL,h1,_⟩:=hv
  refine⟨_,run _ _ _ ln hlt h1,L,hL,?_⟩
  simp[Nat.add_assoc]
theorem wz (hs:eL X nt s a) {o:Oper} {t e:TypeId} {n sz k:Nat} {x i:Operand} {x' i':bR} {r:AV} (ho:o.op=.indexAddr t x i) (ht:P.underlying t=some (.array n e)) (hsz:cY P e=some sz)
  (hx:cL x=some x') (hi:cL i=some i') (hn:fN (i'.ev s.slots)=some k) (hkn:k<n)
  (hr:(∃ lv sl af j off,x'.ev s.slots=.ptr lv sl af j off∧r=.ptr lv sl af j (off+k*sz))∨∃ el off,x'.ev s.slots=.fo el off∧r=.fo el (off+k*sz)):Quiet P X o a r:=by
 have hv:=bw hs hx
 obtain⟨kd,hik⟩:=jv hn (bw hs hi)
 obtain⟨j,hj,Dl⟩:=eM hsz
 have run:∀ (b off:Nat),a.eval x=.pointer (some ⟨b,off,none⟩)→(execOp a.eval o).run P X.w=.ok (.value (.pointer (some ⟨b,off+k*sz,none⟩))) X.w:=by
  intro b off he
  simp[execOp,ho,he,hik,Instr.indexAt,asIntOf,run_underlying ht,sizeOf,typeInfo,hj,Dl,hkn,Addr.add_lit,iI]
 rcases hr with⟨lv,sl,af,i',off,hq,rfl⟩|⟨e,off,hq,rfl⟩
 ·rw [hq] at hv
  obtain⟨L,hL,hv⟩:=hv
  exact⟨_,run _ _ hv,L,hL,by rw[Nat.add_assoc]⟩
 ·rw [hq] at hv
  obtain⟨b,o',hv,h⟩:=hv
  exact⟨_,run _ _ hv,b,o',by rw[Nat.add_assoc],h⟩
theorem KY (hs:eL X nt s a) {o:Oper} {t e:TypeId} {n sz off lv sl af:Nat} {x:Operand} {x':bR} (ho:o.op=.slice t x none none none) (ht:P.underlying t=some (.array n e)) (hsz:cY P e=some sz) (h0:n≠0)
  (hx:cL x=some x') (hq:x'.ev s.slots=.ptr lv sl af 0 off):Quiet P X o a (.eH lv sl af off n sz):=by
 have hv:=bw hs hx
 rw[hq] at hv
 obtain⟨L,hL,hv⟩:=hv
 obtain⟨j,hj,Dl⟩:=eM hsz
 refine⟨.slice (some ⟨L.b,L.o+off,none⟩) n n,?_,L,hL,rfl,by omega⟩
 simp[execOp,ho,hv,Instr.sliceAt,run_underlying ht,iI,Instr.sliceBounds,sizeOf,typeInfo,hj,Addr.add_lit]
theorem KZ (hs:eL X nt s a) {o:Oper} {t e:TypeId} {n sz off lv sl af:Nat} {k:Int} {x:Operand} {x':bR} (ho:o.op=.slice t x (some (.const (.int .i64 k))) none none) (ht:P.underlying t=some (.array n e)) (hsz:cY P e=some sz) (h0:0≤k) (hlt:k.toNat<n)
  (hx:cL x=some x') (hq:x'.ev s.slots=.ptr lv sl af 0 off):Quiet P X o a (.eH lv sl af (off+k.toNat*sz) (n-k.toNat) sz):=by
 have hv:=bw hs hx
 rw[hq] at hv
 obtain⟨L,hL,hv⟩:=hv
 obtain⟨j,hj,Dl⟩:=eM hsz
 obtain⟨l,rfl⟩:=Int.eq_ofNat_of_zero_le h0
 rw[Int.toNat_natCast] at hlt ⊢
 have hne:¬n=l:=by omega
 have hle:¬n<l:=by omega
 have he:a.eval (.const (.int .i64 (l:Int)))=.int .i64 (l:Int):=rfl
 refine⟨.slice (some ⟨L.b,L.o+(off+l*sz),none⟩) (n-l) (n-l),?_,L,hL,rfl,by omega⟩
 simp[execOp,ho,hv,he,Instr.sliceAt,run_underlying ht,iI,Instr.sliceBounds,Instr.sliceBound,asIntOf,sizeOf,typeInfo,hj,Dl,hne,hle,Addr.add_lit,Nat.add_assoc]
theorem Dm (hs:eL X nt s a) {o:Oper} {t e:TypeId} {n:Nat} {x:Operand} {x':bR} (ho:o.op=.call { callee:=.builtin .len,args:=#[x],argTypes:=#[t] }) (ht:P.underlying t=some (.slice e)) (hx:cL x=some x')
  (hr:(∃ els,(x'.ev s.slots=.d (.sl els)∨∃ ow,x'.ev s.slots=.own els ow)∧n=els.length)∨(∃ lv sl af off sz,x'.ev s.slots=.ref lv sl af off n sz)∨∃ lv sl af off sz,x'.ev s.slots=.eH lv sl af off n sz):Quiet P X o a (nq n):=by
 have hv:=bw hs hx
 have run:∀ ad cap,a.eval x=.slice ad n cap→(execOp a.eval o).run P X.w=.ok (.value (.int .i64 n)) X.w:=by
  intro ad cap he
  simp[execOp,ho,resolve,invoke,builtin,Builtin.len_,run_underlying ht,he,goInt]
 refine⟨.int .i64 n,?_,.yZ rfl⟩
 rcases hr with⟨els,hq,rfl⟩|⟨lv,sl,af,off,sz,hq⟩|⟨lv,sl,af,off,sz,hq⟩
 ·obtain ⟨ad, cap, sz', b, off, h1, _⟩ := tL hq hv
  exact run _ _ h1
 ·rw [hq] at hv
  obtain⟨L,ad,cap,_,_,h,_⟩:=hv
  exact run _ _ h
 ·rw [hq] at hv
  obtain⟨L,_,h,_⟩:=hv
  exact run _ _ h
theorem Q8 (hs:eL X nt s a) {o:Oper} {t e:TypeId} {els:List (List D)} {x:Operand} {x':bR} (ho:o.op=.call { callee:=.builtin .cap,args:=#[x],argTypes:=#[t] }) (ht:P.underlying t=some (.slice e)) (hx:cL x=some x')
  (hr:x'.ev s.slots=.own els .full):Quiet P X o a (nq els.length):=by
 have hv:=bw hs hx
 rw[hr] at hv
 obtain⟨ad,b,o',sz,hv,_⟩:=hv
 refine⟨.int .i64 els.length,?_,.yZ rfl⟩
 simp[execOp,ho,resolve,invoke,builtin,Builtin.cap_,run_underlying ht,hv,goInt]
theorem Q9 (hs:eL X nt s a) {o:Oper} {t:TypeId} {b:ByteArray} {x:Operand} {x':bR} (ho:o.op=.call { callee:=.builtin .len,args:=#[x],argTypes:=#[t] }) (ht:P.underlying t=some .string) (hx:cL x=some x')
  (hr:x'.ev s.slots=.d (.sc (.string b))):Quiet P X o a (nq b.size):=by
 have hv:=bw hs hx
 rw[hr] at hv
 have hv:=hv.sc
 refine⟨.int .i64 b.size,?_,.yZ rfl⟩
 simp[execOp,ho,resolve,invoke,builtin,Builtin.len_,run_underlying ht,hv,goInt]
theorem JM {o:Oper} {t:TypeId} {n:Nat} {x:Operand} (ho:o.op=.call { callee:=.builtin .len,args:=#[x],argTypes:=#[t] })
  (ht:(∃ e,P.underlying t=some (.array n e))∨∃ p e,P.underlying t=some (.pointer p)∧P.underlying p=some (.array n e)):Quiet P X o a (nq n):=by
 refine⟨.int .i64 n,?_,.yZ rfl⟩
 rcases ht with⟨e,ht⟩|⟨p,e,ht,hp⟩
 ·simp[execOp,ho,resolve,invoke,builtin,Builtin.len_,run_underlying ht,goInt]
 ·simp[execOp,ho,resolve,invoke,builtin,Builtin.len_,run_underlying ht,run_underlying hp,goInt]
theorem HK {x:AV} {v:Value} (h:lK x=true) (hv:VR X x v):JJ X x v:=by
 cases x<;>first|(cases h;done)|exact hv
theorem EO (hs:eL X nt s a) {o:Oper} {f:Nat} {cap:Array Operand} {cap':List bR} (ho:o.op=.makeFunc (.func f) #[] cap) (hc:iX cap.toList=some cap') (h0:(Hw s.slots cap').all lK=true):Quiet P X o a (.fV f (Hw s.slots cap')):=by
 have h:=tI hs hc
 refine⟨.func (.func f) #[] (cap.map a.eval),by simp[execOp,ho,Instr.makeFunc],cap.map a.eval,rfl,?_⟩
 rw[Array.toList_map]
 exact .sB h.length fun i x v hx hv=>by
  obtain⟨v',jd,hr⟩:=h.get i x hx
  rw[hv] at jd;injection jd with jd;subst jd
  exact HK (List.all_eq_true.1 h0 x (List.mem_of_getElem? hx)) hr
theorem iJ (hs:eL X nt s a) {x:Option Operand} {x':Option bR} {n d:Nat} (hx:om x=some x') (h:eR x' s.slots d=some n):(x=none∧x'=none∧n=d)∨∃ y k,x=some y∧x'.isSome=true∧a.eval y=.int k (n:Int):=by
 cases x with
 |none=>simp only[om] at hx;injection hx with hx;subst hx;simp only[eR] at h;injection h with h;exact .inl ⟨rfl,rfl,h.symm⟩
 | some y =>
  simp only[om] at hx
  cases hy:cL y with
  |none=>rw[hy] at hx;cases hx
  |some y'=>
   rw[hy] at hx
   injection hx with hx;subst hx
   obtain⟨k,hk⟩:=jv h (bw hs hy)
   exact .inr ⟨y,k,rfl,rfl,hk⟩
theorem BZ (hs:eL X nt s a) {o:Oper} {t e:TypeId} {sz n cap l h k:Nat} {ad:Option Addr} {x:Operand} {lo hi mx:Option Operand} {lo' hi' zf:Option bR} (ho:o.op=.slice t x lo hi mx) (ht:P.underlying t=some (.slice e)) (hsz:cY P e=some sz)
  (hx:a.eval x=.slice ad n cap) (hlo:om lo=some lo') (hhi:om hi=some hi') (Ra:om mx=some zf) (bl:eR lo' s.slots 0=some l) (bh:eR hi' s.slots 0=some h) (bk:eR zf s.slots 0=some k)
  (c1:l≤(if hi'.isSome then h else n)) (c2:(if hi'.isSome then h else n)≤(if zf.isSome then k else cap)) (c3:(if zf.isSome then k else cap)≤cap) (c4:zf.isSome=true→hi'.isSome=true) :
  (execOp a.eval o).run P X.w=.ok (.value (.slice (if (if zf.isSome then k else cap)=l then ad else ad.map (·.add (l*sz))) ((if hi'.isSome then h else n)-l) ((if zf.isSome then k else cap)-l))) X.w:=by
 obtain⟨j,hj,Dl⟩:=eM hsz
 rcases iJ hs Ra bk with⟨rfl,rfl,rfl⟩|⟨my,mk,rfl,hm,hme⟩
 ·rcases iJ hs hhi bh with ⟨rfl, rfl, rfl⟩ | ⟨hy, hk, rfl, hh, T5⟩
  ·simp only [Option.isSome_none, Bool.false_eq_true, if_false] at c1 c2 c3 ⊢
   rcases iJ hs hlo bl with⟨rfl,rfl,rfl⟩|⟨ly,lk,rfl,hl,hle⟩
   ·simp[execOp,ho,hx,Instr.sliceAt,run_underlying ht,Instr.slice,Instr.sliceBounds,sizeOf,typeInfo,hj]
   ·simp[execOp,ho,hx,Instr.sliceAt,run_underlying ht,Instr.slice,Instr.sliceBounds,Instr.sliceBound,asIntOf,sizeOf,typeInfo,hj,Dl,hle,c1]
  ·simp only [hh, if_true, Option.isSome_none, Bool.false_eq_true, if_false] at c1 c2 c3 ⊢
   rcases iJ hs hlo bl with⟨rfl,rfl,rfl⟩|⟨ly,lk,rfl,hl,hle⟩
   ·simp[execOp,ho,hx,Instr.sliceAt,run_underlying ht,Instr.slice,Instr.sliceBounds,Instr.sliceBound,asIntOf,sizeOf,typeInfo,hj,T5,c2]
   ·simp[execOp,ho,hx,Instr.sliceAt,run_underlying ht,Instr.slice,Instr.sliceBounds,Instr.sliceBound,asIntOf,sizeOf,typeInfo,hj,Dl,T5,hle,c1,c2]
 ·rcases iJ hs hhi bh with ⟨rfl, rfl, rfl⟩ | ⟨hy, hk, rfl, hh, T5⟩
  ·exact absurd (c4 hm) (by simp)
  ·simp only [hh, hm, if_true] at c1 c2 c3 ⊢
   rcases iJ hs hlo bl with⟨rfl,rfl,rfl⟩|⟨ly,lk,rfl,hl,hle⟩
   ·simp[execOp,ho,hx,Instr.sliceAt,run_underlying ht,Instr.slice,Instr.sliceBounds,Instr.sliceBound,asIntOf,sizeOf,typeInfo,hj,T5,hme,c2,c3]
   ·simp[execOp,ho,hx,Instr.sliceAt,run_underlying ht,Instr.slice,Instr.sliceBounds,Instr.sliceBound,asIntOf,sizeOf,typeInfo,hj,Dl,T5,hme,hle,c1,c2,c3]
theorem jm {els:List (List D)} {sz:Nat} (h:els.all (fun e=>e.length==sz)=true):∀ e∈els,e.length=sz:=fun e he=>by
 have:=List.all_eq_true.1 h e he
 simpa using this
theorem ny {R:Nat→Nat→Prop} {els:List (List D)} {ad:Option Addr} {b o sz sz' l h m:Nat} (hl:eW X.w X.F R els b o sz') (had:0<els.length→ad=some ⟨b,o,none⟩) (c1:l≤h) (c2:h≤els.length) (c3:h≤m)
  (hal:∀ e∈els,e.length=sz):((els.drop l).take (h-l)).length=h-l∧(0<h-l→(if m=l then ad else ad.map (·.add (l*sz)))=some ⟨b,o+l*sz',none⟩)∧eW X.w X.F R ((els.drop l).take (h-l)) b (o+l*sz') sz':=by
 refine⟨by simp;omega,fun h0=>?_,hl.sub l _⟩
 rw[if_neg (by omega),had (by omega)]
 have:sz'=sz:=by
  have hlt:0<els.length:=by omega
  have hm:=List.getElem_mem hlt
  rw[←hl.1 _ hm,hal _ hm]
 subst this
 simp[Addr.add_lit]
theorem Nb (hs:eL X nt s a) {o:Oper} {t e:TypeId} {sz l h k:Nat} {x:Operand} {x':bR} {lo hi mx:Option Operand} {lo' hi' zf:Option bR} {r:AV} (ho:o.op=.slice t x lo hi mx) (ht:P.underlying t=some (.slice e)) (hsz:cY P e=some sz)
  (hx:cL x=some x') (hlo:om lo=some lo') (hhi:om hi=some hi') (Ra:om mx=some zf) (bl:eR lo' s.slots 0=some l) (bh:eR hi' s.slots 0=some h) (bk:eR zf s.slots 0=some k)
  (c4:zf.isSome=true→hi'.isSome=true)
  (hr:dZ sz (x'.ev s.slots) l (hi'.map fun _=>h) (zf.map fun _=>k)=some r):Quiet P X o a r:=by
 have hv:=bw hs hx
 have eh:∀ n,(hi'.map fun _=>h).getD n=if hi'.isSome then h else n:=fun n=>by cases hi'<;>rfl
 have run:=fun (ad:Option Addr) (n cap:Nat) (he:a.eval x=.slice ad n cap)=>BZ hs (P:=P) ho ht hsz he hlo hhi Ra bl bh bk
 unfold dZ at hr
 split at hr
 ·rename_i els hq
  simp only[eh] at hr
  obtain⟨ad,cap,sz',b,off,h1,h2,h3,h4⟩:=DR.QY (hq ▸ hv)
  have run:=run _ _ _ h1
  generalize (if hi'.isSome=true then h else els.length)=H at hr run
  cases EP:zf with
  | none =>
   simp only[EP,Option.map_none,Option.isSome_none,Bool.false_eq_true,if_false] at hr run c4
   split at hr
   ·rename_i hc
    obtain⟨g1,g2,g3⟩:=hc
    injection hr with hr;subst hr
    obtain⟨k1,k2,k3⟩:=ny (m:=cap) h4 h3 g1 g2 (by omega) (jm g3)
    exact⟨_,run g1 (by omega) (Nat.le_refl _) (by simp),DR.fL k3 k1 (by omega) k2⟩
   ·cases hr
  | some m' =>
   simp only[EP,Option.map_some,Option.isSome_some,if_true] at hr run c4
   split at hr
   ·rename_i hc
    obtain⟨g1,g2,g4,g3⟩:=hc
    injection hr with hr;subst hr
    obtain⟨k1,k2,k3⟩:=ny (m:=k) h4 h3 g1 g4 (by omega) (jm g3)
    refine⟨_,run g1 (by omega) (by omega) (fun _=>c4 trivial),_,b,off+l*sz',sz',?_,fun h0=>k2 (by omega),k3⟩
    rw[k1,g2]
   ·cases hr
 ·rename_i els ow hq
  simp only[eh] at hr
  rw[hq] at hv
  replace run:=fun ad cap he=>run ad els.length cap he
  generalize (if hi'.isSome=true then h else els.length)=H at hr run
  cases EP:zf with
  | none =>
   simp only[EP,Option.map_none,Option.isSome_none,Bool.false_eq_true,if_false] at hr run c4
   split at hr
   ·rename_i hc
    obtain⟨g1,g2,g3⟩:=hc
    cases ow with
    |aJ=>
     simp only at hr
     injection hr with hr;subst hr
     obtain⟨ad,b,off,sz',cap,h1,h2,h3,h4⟩:=hv
     obtain⟨k1,k2,k3⟩:=ny (m:=cap) h4 h3 g1 g2 (by omega) (jm g3)
     refine⟨_,run _ _ h1 g1 (by omega) (Nat.le_refl _) (by simp),_,b,off+l*sz',sz',cap-l,?_,?_,fun h0=>k2 (by omega),k3⟩
     ·rw[k1]
     ·omega
    | full =>
     simp only at hr
     obtain⟨ad,b,off,sz',h1,h3,h4⟩:=hv
     obtain⟨k1,k2,k3⟩:=ny (m:=els.length) h4 h3 g1 g2 (by omega) (jm g3)
     have run:=run _ _ h1 g1 (by omega) (Nat.le_refl _) (by simp)
     split at hr
     ·rename_i hh
      injection hr with hr;subst hr
      rw[hh] at run k1 k2 k3
      have e1:(els.drop l).take (els.length-l)=els.drop l:=List.take_of_length_le (by simp)
      rw[e1] at k1 k3
      refine⟨_,run,_,b,off+l*sz',sz',?_,fun h0=>k2 (by omega),k3⟩
      rw[k1]
     ·injection hr with hr; subst hr
      exact⟨_,run,DR.fL k3 k1 (by omega) k2⟩
    |cx af tz=>
     simp only at hr
     injection hr with hr;subst hr
     obtain⟨ad,b,off,sz',cap,h1,h2,h3,h4,_⟩:=hv
     obtain⟨k1,k2,k3⟩:=ny (m:=cap) h4 (fun h=>h3 (by omega)) g1 g2 (by omega) (jm g3)
     exact⟨_,run _ _ h1 g1 (by omega) (Nat.le_refl _) (by simp),DR.fL k3 k1 (by omega) k2⟩
   ·cases hr
  | some m' =>
   simp only[EP,Option.map_some,Option.isSome_some,if_true] at hr run c4
   split at hr
   ·rename_i hc
    obtain⟨g1,g2,g4,g3⟩:=hc
    have done:∀ (ad:Option Addr) (cap sz' b off:Nat),a.eval x=.slice ad els.length cap→els.length≤cap→(0<els.length→ad=some ⟨b,off,none⟩)→eW X.w X.F X.F els b off sz'→Quiet P X o a (.own ((els.drop l).take (H-l)) .full):=by
     intro ad cap sz' b off h1 h2 h3 h4
     obtain⟨k1,k2,k3⟩:=ny (m:=k) h4 h3 g1 g4 (by omega) (jm g3)
     refine⟨_,run _ _ h1 g1 (by omega) (by omega) (fun _=>c4 trivial),_,b,off+l*sz',sz',?_,fun h0=>k2 (by omega),k3⟩
     rw[k1,g2]
    cases ow with
    | aJ =>
     simp only at hr
     obtain⟨ad,b,off,sz',cap,h1,h2,h3,h4⟩:=hv
     split at hr
     ·rename_i hh
      injection hr with hr;subst hr
      refine⟨_,run _ _ h1 g1 (by omega) (by omega) (fun _=>c4 trivial),(if k=l then ad else ad.map (·.add (l*sz))),0,0,0,?_,fun h0=>absurd h0 (by simp),eW.nil⟩
      rw[show H-l=0 by omega,show k-l=0 by omega]
      rfl
     ·cases hr
    |full=>
     simp only at hr
     injection hr with hr;subst hr
     obtain⟨ad,b,off,sz',h1,h3,h4⟩:=hv
     exact done _ _ _ _ _ h1 (Nat.le_refl _) h3 h4
    |cx af tz=>
     simp only at hr
     injection hr with hr;subst hr
     obtain⟨ad,b,off,sz',cap,h1,h2,h3,h4,_⟩:=hv
     exact done _ _ _ _ _ h1 h2 (fun h=>h3 (by omega)) h4
   ·cases hr
 ·rename_i lv sl af off n sz' hq
  simp only[eh] at hr
  rw[hq] at hv
  obtain⟨L,ad,cap,hL,h1,h2,h3,h4⟩:=hv
  have run:=run _ _ _ h2
  generalize (if hi'.isSome=true then h else n)=H at hr run
  cases EP:zf with
  | none =>
   simp only[EP,Option.map_none,Option.isSome_none,Bool.false_eq_true,if_false] at hr run c4
   split at hr
   ·rename_i hc
    obtain⟨g1,g2,g3⟩:=hc
    injection hr with hr;subst hr;subst g3
    refine⟨_,run g1 (by omega) (Nat.le_refl _) (by simp),L,_,_,hL,h1,rfl,by omega,fun h0=>?_⟩
    obtain⟨rfl,h5⟩:=h4 (by omega)
    refine⟨?_,by omega⟩
    rw[if_neg (by omega)]
    simp[Addr.add_lit,Nat.add_mul,Nat.add_assoc]
   ·cases hr
  | some m' =>
   simp only[EP,Option.map_some,Option.isSome_some,if_true] at hr run c4
   split at hr
   ·rename_i hc
    obtain⟨g1,g2,g3⟩:=hc
    injection hr with hr;subst hr
    refine⟨_,run (by omega) (by omega) (by omega) (fun _=>c4 trivial),(if k=l then ad else ad.map (·.add (l*sz))),0,0,0,?_,fun h0=>absurd h0 (by simp),eW.nil⟩
    rw[show H-l=0 by omega,show k-l=0 by omega]
    rfl
   ·cases hr
 ·cases hr
theorem K0 (hs:eL X nt s a) {o:Oper} {t:TypeId} {l h:Nat} {x:Operand} {x':bR} {lo hi:Option Operand} {lo' hi':Option bR} {b:ByteArray} (ho:o.op=.slice t x lo hi none) (ht:P.underlying t=some .string)
  (hx:cL x=some x') (hlo:om lo=some lo') (hhi:om hi=some hi') (hq:x'.ev s.slots=.d (.sc (.string b))) (bl:eR lo' s.slots 0=some l) (bh:eR hi' s.slots b.size=some h) (c1:l≤h) (c2:h≤b.size):Quiet P X o a (kL (.string (b.extract l h))):=by
 have hv:=bw hs hx
 rw[hq] at hv
 have hv:=hv.sc
 refine⟨_,?_,.kL rfl⟩
 rcases iJ hs hhi bh with⟨rfl,rfl,rfl⟩|⟨hy,hk,rfl,hh,T5⟩
 ·rcases iJ hs hlo bl with ⟨rfl, rfl, rfl⟩ | ⟨ly, lk, rfl, hl, hle⟩
  ·simp[execOp,ho,hv,Instr.sliceAt,run_underlying ht,Instr.slice,Instr.sliceBounds]
  ·simp[execOp,ho,hv,Instr.sliceAt,run_underlying ht,Instr.slice,Instr.sliceBounds,Instr.sliceBound,asIntOf,hle,c1]
 ·rcases iJ hs hlo bl with ⟨rfl, rfl, rfl⟩ | ⟨ly, lk, rfl, hl, hle⟩
  ·simp[execOp,ho,hv,Instr.sliceAt,run_underlying ht,Instr.slice,Instr.sliceBounds,Instr.sliceBound,asIntOf,T5,c2]
  ·simp[execOp,ho,hv,Instr.sliceAt,run_underlying ht,Instr.slice,Instr.sliceBounds,Instr.sliceBound,asIntOf,T5,hle,c1,c2]
end
end Go.bI
