/- A part of the proof: SymL, SymM. -/
import Derived.Test.YtkdilffhbejjaaaGreatSymK
import Derived.Test.YtkdilffhbejjaaaGreatSymB
import Derived.RowKit
import Derived.Carry
import Derived.ChangeOld
set_option linter.unusedVariables false
set_option linter.unusedSimpArgs false
namespace Go.Sym
open Go Go.bM Go.RowKit
mutual def qD.ok:qD->Prop|.mk k i s l _=>(IntKind.u8.min<=k/\k<=IntKind.u8.max)/\(IntKind.i64.min<=i/\i<=IntKind.i64.max)/\s.length<=maxLen/\l.length<=maxLen/\qD.oks l def qD.oks:List qD->Prop|[]=>True|v::r=>qD.ok v/\qD.oks r end
def Ty.ok:(t:Ty)->t.den->Prop|.val,v=>qD.ok v|.int k,a=>k.min<=a/\a<=k.max|.bool,_=>True|.str,s=>s.length<=maxLen|.sl t,l=>l.length<=maxLen/\∀x∈l,Ty.ok t x|.unit,_=>True|.prod a b,x=>Ty.ok a x.1/\Ty.ok b x.2|.sum a b,x=>match x with|.inl y=>Ty.ok a y|.inr y=>Ty.ok b y
theorem qD.GX:∀{l:List qD},qD.oks l↔∀v∈l,qD.ok v|[]=>by simp[qD.oks]|v::r=>by simp[qD.oks,qD.GX (l:=r)]
mutual def Ye(P:Program)(rv:Option TypeId):Nat->TypeId->Option Ty|0,_=>none|n+1,t=>if rv=some t then some .val else match P.underlying t with
 |some .bool=>some .bool|some (.int k)=>some (.int k)|some .string=>some .str|some (.slice e)=>match Ye P rv n e with|some T=>if 0<P.cellsOf e/\T.size=P.cellsOf e then some (.sl T)else none|none=>none
 |some (.struct fs)=>match tyF P rv n 0 fs.toList with|some (Ts,k)=>if k=P.cellsOf t then some (rS Ts)else none|none=>none
 |some (.array m e)=>match Ye P rv n e with|some T=>if T.size=P.cellsOf e/\m*P.cellsOf e=P.cellsOf t then some (rS (List.replicate m T))else none|none=>none
 |_=>none def tyF(P:Program)(rv:Option TypeId):Nat->Nat->List Field->Option (List Ty×Nat)|_,off,[]=>some ([],off)|0,_,_::_=>none|n+1,off,f::r=>match Ye P rv n f.type,tyF P rv n (off+P.cellsOf f.type) r with|some T,some (Ts,k)=>if f.offset=off/\T.size=P.cellsOf f.type then some (T::Ts,k)else none|_,_=>none end
def Pq(P:Program)(rv:Option TypeId):Prop:=∀t,rv=some t->∃fs n,P.underlying t=some (.struct fs)/\tyF P rv n 0 fs.toList=some ([.int .u8,.int .i64,.str,.sl .val,.bool],5)/\P.cellsOf t=5
section
variable{H:Type}{enc:TypeId×Value->H}{P:Program}{w:World}{base:Nat}{sp:Nat->Bool}{held:Bool}{rv:Option TypeId}
def GY(ps:List MemPlace):Nat->Nat->Prop:=λb o=>MemPlace.cell b o∈ps
theorem mapM_some{α β:Type}{f:α->Option β}:∀{l:List α}{r:List β},l.mapM f=some r->r.length=l.length/\∀(i:Nat)(x:α),l[i]?=some x->∃y,r[i]?=some y/\f x=some y|[],r,h=>by grind|a::l,r,h=>by simp at h;obtain⟨y,h1,h⟩:=aV h;obtain⟨ys,h2,h⟩:=aV h;obtain⟨h3,h4⟩:=mapM_some h2<;>grind
theorem SB{a:Addr}{n:Nat}{v:Value}(h:w.cell? (a.add n)=some v):w.cell? ⟨a.block,a.off+n,none⟩=some v/\(n=0->a.spot=none):=by
 unfold Addr.add at h;split at h
 .have hs:a.spot=none:=by unfold World.cell? at h;split at h<;>simp_all
  obtain⟨b,o,sp⟩:=a<;>grind
 grind
theorem Jq{α β:Type}{Q:Nat->α->β->Prop}:∀{l:List α},(∀(i:Nat)(x:α),l[i]?=some x->∃y,Q i x y)->∃r:List β,r.length=l.length/\∀(i:Nat)(x:α),l[i]?=some x->∃y,r[i]?=some y/\Q i x y:=by intro l h;classical have:∀i:Fin l.length,∃y,Q i l[i] y:=λi=>h i _ (al i.2);let f:Fin l.length->β:=λi=>Classical.choose (this i);refine⟨List.ofFn f,by simp,λi x hi=>?_⟩<;>grind
theorem SC(x:(rS [.int .u8,.int .i64,.str,.sl .val,.bool]).den):fy .val (.mk x.1 x.2.1 x.2.2.1 x.2.2.2.1 x.2.2.2.2)=fy (rS [.int .u8,.int .i64,.str,.sl .val,.bool]) x:=by simp[fy,Lm,qi]
theorem sY{α β:Type}{R:α->β->Prop}{l:List α}{m:List β}{n k:Nat}(h:aE R l ((m.drop n).take k)){l':List α}{j:Nat}(h':aE R l' ((m.drop (n+k)).take j)):aE R (l++l') ((m.drop n).take (k+j)):=by have:=h.append h';rw[List.take_add,List.drop_drop];exact this
theorem Jr{T:Ty}{R:D->Value->Prop}{cs:List Value}{c:Nat}:∀(m off:Nat),(∀i,i<m->∃x:T.den,T.ok x/\aE R (fy T x) ((cs.drop (off+i*c)).take c))->∃x:(rS (List.replicate m T)).den,(rS (List.replicate m T)).ok x/\aE R (fy (rS (List.replicate m T)) x) ((cs.drop off).take (m*c))
 |0,off,_=>⟨(),trivial,by simp[fy,aE]⟩|1,off,h=>by simp_all|m+2,off,h=>by
  obtain⟨x,ox,hx⟩:=h 0 (by omega);simp at hx;obtain⟨z,oz,hz⟩:=Jr (m+1) (off+c) λi hi=>by have:=h (i+1) (by omega);rwa[show off+(i+1)*c=off+c+i*c by rw[d6,yi];omega]at this
  refine⟨(x,z),⟨ox,oz⟩,?_⟩;have hj:=sY hx hz;rw[show c+(m+1)*c=(m+2)*c by rw[d6,d6];omega]at hj;exact hj
theorem Fl(QS:Pq P rv):∀(fuel:Nat)(t:TypeId)(cs:List Value)(d:DataW H)(ps:List MemPlace),DataW.trod enc P w base sp held fuel t cs=some (d,ps)->∀(k:Nat)(T:Ty),Ye P rv k t=some T->∃x:T.den,T.ok x/\aE (DR w (GY ps)) (fy T x) cs
 |0,_,_,_,_,h=>by simp[DataW.trod]at h|fuel+1,t,cs,d,ps,h=>by
  have ih:=Fl QS fuel;have fields:∀(l:List Field)(k off e:Nat)(Ts:List Ty)(xs:List (DataW H×List MemPlace)),tyF P rv k off l=some (Ts,e)->(l.mapM λf=>DataW.trod enc P w base sp held fuel f.type ((cs.drop f.offset).take (P.cellsOf f.type)))=some xs->(∀x∈xs,∀q∈x.2,q∈ps)->off<=e/\∃x:(rS Ts).den,(rS Ts).ok x/\aE (DR w (GY ps)) (fy (rS Ts) x) ((cs.drop off).take (e-off)):=by intro l;induction l with|nil=>intro k off e Ts xs hk hxs _;cases k<;>(simp only[tyF,eI,eb]at hk;obtain⟨rfl,rfl⟩:=hk;exact⟨bc _,(),trivial,by simp[fy,aE]⟩)|cons f l ihl=>intro k off e Ts xs hk hxs hps;cases k with|zero=>simp[tyF]at hk|succ k=>
     simp[tyF]at hk;split at hk
     .rename_i T Ts' e' h1 h2;split at hk;.rename_i hc;simp at hk;obtain⟨rfl,rfl⟩:=hk;obtain⟨rfl,hsz⟩:=hc;simp at hxs;obtain⟨y,g1,hxs⟩:=aV hxs;obtain⟨ys,g2,hxs⟩:=aV hxs;cases hxs;obtain⟨x,ox,hx⟩:=ih _ _ y.1 y.2 g1 _ _ h1;have hx:aE (DR w (GY ps)) (fy T x) ((cs.drop f.offset).take (P.cellsOf f.type)):=hx.mono λ_ _=>DR.mono λb o hb=>hps y cb _ hb;obtain⟨hle,z,oz,hz⟩:=ihl _ _ _ _ _ h2 g2 λx hx=>hps x (dl _ hx);refine⟨by omega,?_⟩;have hj:=sY hx hz;rw[show P.cellsOf f.type+(e'-(f.offset+P.cellsOf f.type))=e'-f.offset from by omega]at hj;cases Ts' with|nil=>refine⟨x,ox,?_⟩;simpa[fy]using hj|cons T2 Ts2=>exact⟨(x,z),⟨ox,oz⟩,hj⟩
      grind
     grind
  intro k T hT;cases k with|zero=>simp[Ye]at hT|succ k=>
  unfold DataW.trod at h;simp only[Ye]at hT;split at hT
  .rename_i hr;injection hT with hT;subst hT;obtain⟨fs,n,hu,hF,hc⟩:=QS t hr;rw[hu]at h;simp only at h;split at h
   .rename_i hlen;obtain⟨xs,hxs,he⟩:=aQ h;simp only[eb]at he;obtain⟨_,rfl⟩:=he;obtain⟨_,x,ox,hx⟩:=fields _ _ _ _ _ _ hF hxs λx hx q hq=>m7.2 ⟨x,hx,hq⟩;refine⟨.mk x.1 x.2.1 x.2.2.1 x.2.2.2.1 x.2.2.2.2,?_,?_⟩;.obtain⟨o1,o2,o3,o4,o5⟩:=ox;exact⟨o1,o2,o3,o4.1,qD.GX.2 o4.2⟩
    .rw[SC];rw[hc]at hlen;simpa[fg,hlen]using hx
   .cases h
  .rename_i hr;cases hu:P.underlying t with|none=>rw[hu]at hT;cases hT|some desc=>rw[hu]at hT h;cases desc with
    |bool=>
     injection hT with hT;subst hT;simp only at h;split at h<;>first|(exfalso;have q:=‹some TypeDesc.bool=some _›;injection q with q;cases q;done)|cases h|skip
     rename_i b _;exact⟨b,trivial,.sc _ rfl,trivial⟩|int kd=>
     injection hT with hT;subst hT;simp only at h;split at h<;>first|(exfalso;have q:=‹some (TypeDesc.int kd)=some _›;injection q with q;cases q;done)|cases h|skip
     rename_i k k' n heq;injection heq with heq;injection heq with heq;subst heq;split at h;.rename_i hc;obtain⟨rfl,hw⟩:=hc;simp only[Lit.wf,am,db]at hw;exact⟨n,hw,.sc _ rfl,trivial⟩
     .cases h|string=>
     injection hT with hT;subst hT;simp only at h;split at h<;>first|(exfalso;have q:=‹some TypeDesc.string=some _›;injection q with q;cases q;done)|cases h|skip
     rename_i s _;split at h;.rename_i hc;refine⟨s.data.toList,(by show s.data.toList.length<=maxLen;rw[ft];exact hc),?_,trivial⟩;exact .sc _ rfl
     .cases h|slice e=>
     simp only at hT h;split at hT
     .rename_i T' hT';split at hT
      .rename_i hc;injection hT with hT;subst hT;obtain⟨hpos,hsz⟩:=hc;split at h<;>first|(exfalso;have q:=‹some (TypeDesc.slice e)=some _›;injection q with q;cases q;done)|cases h|skip
       .refine⟨[],⟨by simp,λx hx=>by cases hx⟩,?_,trivial⟩;exact .sl [] none 0 0 0 0 0 (λ_ _=>.bool false) rfl (bc _) (λe h=>by cases h) (λh=>by cases h) (λi e j x h=>by simp at h) (λi e j x h=>by simp at h) (λi e j x h=>by simp at h)
       .rename_i e' a len cap heq;injection heq with heq;injection heq with heq;subst heq;split at h
        .rename_i hb;obtain⟨elems,hel,h⟩:=aV h;obtain⟨rest,Bx,he⟩:=aQ h;simp only[eb]at he;obtain⟨_,rfl⟩:=he;obtain⟨hlen,qP⟩:=mapM_some hel;rw[List.length_range]at hlen;have elem:∀i y,elems[i]?=some y->∃x:T'.den,T'.ok x/\∃csi,w.cells? base (a.add (i*P.cellsOf e)) (P.cellsOf e)=some csi/\aE (DR w (GY (MemPlace.row a ((elems.length+rest.length)*P.cellsOf e)++(elems++rest).flatMap (·.2)))) (fy T' x) csi:=by
          intro i y hi;have yY:i<len:=by rw[<-hlen];exact(cf.1 hi).1
          obtain⟨y',hy',hf⟩:=qP i i (by simp[yY]);rw[hi]at hy';injection hy' with hy';subst hy';obtain⟨csi,h1,h2⟩:=aV hf;obtain⟨x,ox,hx⟩:=ih _ _ y.1 y.2 h2 _ _ hT';refine⟨x,ox,csi,h1,hx.mono λ_ _=>DR.mono λb o hb=>?_⟩;refine dq _ (m7.2 ⟨y,dp _ (f7 hi),hb⟩)
         obtain⟨xs,hxl,hxs⟩:=Jq elem;have ZW:xs.length=len:=by rw[hxl,hlen]
         refine⟨xs,⟨by rw[ZW];omega,λx hx=>?_⟩,?_,trivial⟩
         .obtain⟨i,hi⟩:=List.getElem?_of_mem hx;have hi':i<elems.length:=by rw[<-hxl];exact(cf.1 hi).1
          obtain⟨y,hy,oy,_⟩:=hxs i _ (al hi');rw[hi]at hy;injection hy with hy;subst hy;exact oy
         .have cell:∀i e' j x',(xs.map (fy T'))[i]?=some e'->e'[j]?=some x'->j<P.cellsOf e/\i<len/\∃v,w.cell? ⟨a.block,a.off+i*P.cellsOf e+j,none⟩=some v/\(i=0->j=0->a.spot=none)/\DR w (GY (MemPlace.row a ((elems.length+rest.length)*P.cellsOf e)++(elems++rest).flatMap (·.2))) x' v:=by
           intro i e' j x' hi hj;rw[eJ]at hi;obtain⟨x,hx,rfl⟩:=aQ hi;have hi':i<elems.length:=by rw[<-hxl];exact(cf.1 hx).1
           obtain⟨y,hy,oy,csi,h1,h2⟩:=hxs i _ (al hi');rw[hx]at hy;injection hy with hy;subst hy;obtain⟨v,hv,hd⟩:=h2.get j x' hj;have hjl:j<P.cellsOf e:=by have:=(cf.1 hj).1;rw[eU,hsz]at this;exact this
           unfold World.cells? at h1;split at h1
           .obtain⟨_,hg⟩:=mapM_some h1;obtain⟨v',nD,hcell⟩:=hg j j (by simp[hjl]);rw[hv]at nD;injection nD with nD;subst nD;obtain⟨c1,c2⟩:=SB hcell;have e1:(a.add (i*P.cellsOf e)).block=a.block/\(a.add (i*P.cellsOf e)).off=a.off+i*P.cellsOf e:=by
             unfold Addr.add;split;.rename_i h0;rw[h0];exact⟨rfl,rfl⟩
             .exact⟨rfl,rfl⟩
            rw[e1.1,e1.2]at c1;refine⟨hjl,by omega,v,c1,λh0 h0'=>?_,hd⟩;have:=c2 h0';subst h0;simpa[Addr.add]using this
           .cases h1
          have hl:eS w (GY (MemPlace.row a ((elems.length+rest.length)*P.cellsOf e)++(elems++rest).flatMap (·.2))) (GY (MemPlace.row a ((elems.length+rest.length)*P.cellsOf e)++(elems++rest).flatMap (·.2))) (xs.map (fy T')) a.block a.off (P.cellsOf e):=by
           refine⟨λe' he'=>?_,λi e' j x' hi hj=>?_⟩;.obtain⟨x,_,rfl⟩:=im.1 he';rw[eU,hsz]
           .obtain⟨c1,c2,v,c3,_,c4⟩:=cell i e' j x' hi hj;refine⟨dp _ ?_,v,c3,c4⟩;unfold MemPlace.row;rw[im];refine⟨i*P.cellsOf e+j,?_,by rw[ed]⟩;rw[sd,hlen];have:(i+1)*P.cellsOf e<=(len+rest.length)*P.cellsOf e:=dE _ (by omega);rw[d6,yi]at this;omega
          refine DR.ja hl (by simp[ZW]) hb.2.1 λhn=>?_;have hx0:0<xs.length:=by omega
          have h0:(xs.map (fy T'))[0]?=some (fy T' xs[0]):=by simp[hx0]
          have hs0:0<(fy T' xs[0]).length:=by rw[eU,hsz];exact hpos
          obtain⟨_,_,v,_,hsp,_⟩:=cell 0 _ 0 _ h0 (al hs0);have:=hsp rfl rfl;obtain⟨ab,ao,asp⟩:=a;simp only at this;subst this;rfl
        .cases h
      .cases hT
     .cases hT|struct fs=>
     simp only at hT h;split at hT
     .rename_i Ts e hF;split at hT
      .rename_i hc;injection hT with hT;subst hT;split at h;.rename_i hlen;obtain⟨xs,hxs,he⟩:=aQ h;simp only[eb]at he;obtain⟨_,rfl⟩:=he;obtain⟨_,x,ox,hx⟩:=fields _ _ _ _ _ _ hF hxs λx hx q hq=>m7.2 ⟨x,hx,hq⟩;refine⟨x,ox,?_⟩;rw[hc]at hx;simpa[fg,hlen]using hx
       .cases h
      .cases hT
     .cases hT|array m e=>
     simp only at hT h;split at hT
     .rename_i T' hT';split at hT
      .rename_i hc;injection hT with hT;subst hT;obtain⟨hsz,hm⟩:=hc;split at h
       .rename_i hlen;obtain⟨xs,hxs,he⟩:=aQ h;simp only[eb]at he;obtain⟨_,rfl⟩:=he;obtain⟨hl,qP⟩:=mapM_some hxs;obtain⟨x,ox,hx⟩:=Jr (T:=T') (R:=DR w (GY (xs.flatMap (·.2)))) (cs:=cs) (c:=P.cellsOf e) m 0 λi hi=>by obtain⟨y,hy,hf⟩:=qP i i (by simp[hi]);obtain⟨x,ox,hx⟩:=ih _ _ y.1 y.2 hf _ _ hT';refine⟨x,ox,?_⟩;rw[ma];exact hx.mono λ_ _=>DR.mono λb o hb=>m7.2 ⟨y,f7 hy,hb⟩
        refine⟨x,ox,?_⟩;rw[hm]at hx;simpa[fg,hlen]using hx
       .cases h
      .cases hT
     .cases hT|_=>cases hT
end
end Go.Sym
namespace Go.Sym
open Go Go.bM Go.RowKit
def Cs:Ty->List Ty|.val=>[.int .u8,.int .i64,.str,.sl .val,.bool]|.int k=>[.int k]|.bool=>[.bool]|.str=>[.str]|.sl t=>[.sl t]|.unit=>[]|.prod a b=>Cs a++Cs b|.sum _ _=>[]
def aZ:Ty->List gZ|.val=>[.int .u8,.int .i64,.str,.sl .val .d,.bool]|.int k=>[.int k]|.bool=>[.bool]|.str=>[.str]|.sl t=>[.sl t .d]|.unit=>[]|.prod a b=>aZ a++aZ b|.sum _ _=>[]
def flat:(T:Ty)->T.den->List fS|.val,v=>[⟨.int .u8,v.kind⟩,⟨.int .i64,v.int⟩,⟨.str,v.text⟩,⟨.sl .val,v.list⟩,⟨.bool,v.cut⟩]|.int k,a=>[⟨.int k,a⟩]|.bool,b=>[⟨.bool,b⟩]|.str,s=>[⟨.str,s⟩]|.sl t,l=>[⟨.sl t,l⟩]|.unit,_=>[]|.prod a b,x=>flat a x.1++flat b x.2|.sum _ _,_=>[]
theorem wS:∀(T:Ty)(x:T.den),(flat T x).map (·.t)=Cs T|.val,_=>rfl|.int _,_=>rfl|.bool,_=>rfl|.str,_=>rfl|.sl _,_=>rfl|.unit,_=>rfl|.prod a b,x=>by simp[flat,Cs,wS a,wS b]|.sum _ _,_=>rfl
theorem uG:∀{l l':List gZ}{r r' r'':List fS}{xs ys:List Cell},dx l r=some (xs,r')->dx l' r'=some (ys,r'')->dx (l++l') r=some (xs++ys,r'')
 |[],l',r,r',r'',xs,ys,h,h'=>by cases h<;>grind|c::l,l',r,r',r'',xs,ys,h,h'=>by
  simp[dx]at h;split at h
  .rename_i x r1 h1;split at h;.rename_i X4 r2 h2;cases h;simp[n3,dx,h1,uG h2 h']
   grind
  grind
theorem yc:∀(T:Ty)(x:T.den)(rest:List fS),dx (aZ T) (flat T x++rest)=some (jl T x,rest)|.val,_,_=>rfl|.int _,_,_=>rfl|.bool,_,_=>rfl|.str,_,_=>rfl|.sl _,_,_=>rfl|.unit,_,_=>rfl|.prod a b,x,rest=>by simp[aZ,flat,bi,jl];exact uG (yc a x.1 _) (yc b x.2 rest)|.sum _ _,_,_=>rfl
def ZX(ds:List fS):Prop:=∀d∈ds,d.t.ok d.v
theorem GZ:∀(T:Ty)(x:T.den),T.ok x->ZX (flat T x)
 |.val,v,h=>by
  cases v;obtain⟨h1,h2,h3,h4,h5⟩:=h;intro d hd;simp[flat,dk,dC,jp]at hd;rcases hd with rfl|rfl|rfl|rfl|rfl;.exact h1
  .exact h2
  .exact h3
  .exact⟨h4,qD.GX.1 h5⟩
  .trivial|.int _,_,h=>λd hd=>by simp[flat]at hd<;>grind|.bool,_,h=>λd hd=>by simp[flat]at hd<;>grind|.str,_,h=>λd hd=>by simp[flat]at hd<;>grind|.sl _,_,h=>λd hd=>by simp[flat]at hd<;>grind|.unit,_,_=>λd hd=>by simp[flat]at hd|.prod a b,x,h=>λd hd=>by
  simp[flat,bj]at hd;rcases hd with hd|hd;.exact GZ a x.1 h.1 d hd
  .exact GZ b x.2 h.2 d hd|.sum _ _,_,_=>λd hd=>by simp[flat]at hd
theorem zN(a:Ty)(x:a.den):u0 a a x=some x:=by unfold u0;split<;>grind
theorem yd:∀ds:List fS,∃x,pack (ds.map (·.t)) ds=some x|[]=>⟨(),rfl⟩|[d]=>⟨d.v,zN _ _⟩|d::e::r=>by obtain⟨y,hy⟩:=yd (e::r);refine⟨(d.v,y),?_⟩;have hy':pack (e.t::r.map (·.t)) (e::r)=some y:=hy;show pack (d.t::e.t::r.map (·.t)) (d::e::r)=some (d.v,y);simp[pack,zN,hy']
abbrev zO:=TypeId×Bool×Ty
def zO.sh(p:zO):uD:=match p.2.1,aZ p.2.2with|false,[c]=>.c c|_,l=>.agg l
def ki(l:List zO):List Ty:=l.flatMap λp=>Cs p.2.2
def okL(ts:List Ty)(x:(rS ts).den):Prop:=ZX (unpack ts x)
def SD(P:Program)(p:zO):Bool:=match P.underlying p.1with|some (.struct _)=>p.2.1|some (.array _ _)=>p.2.1|some .bool|some (.int _)|some .string|some (.slice _)=>!p.2.1|_=>false
def Js(P:Program)(rv:Option TypeId)(k:Nat)(p:zO):Prop:=Ye P rv k p.1=some p.2.2/\SD P p=true
section
variable{H:Type}{enc:TypeId×Value->H}{P:Program}{w:World}{sp:Nat->Bool}{held:Bool}{rv:Option TypeId}
theorem LO{t:TypeId}{v:Value}{b:Nat}{fs:Array Field}(h:Value.okWide P w .any b t v)(hu:P.underlying t=some (.struct fs)):∃cs,v=.agg cs:=by simp[Value.okWide,hu]at h<;>grind
theorem LP{t:TypeId}{v:Value}{b n:Nat}{e:TypeId}(h:Value.okWide P w .any b t v)(hu:P.underlying t=some (.array n e)):∃cs,v=.agg cs:=by simp[Value.okWide,hu]at h<;>grind
theorem pe{t:TypeId}{v:Value}{b:Nat}{d:TypeDesc}(h:Value.okWide P w .any b t v)(hu:P.underlying t=some d)(hd:d=.bool\/(∃k,d=.int k)\/d=.string\/∃e,d=.slice e):v.cells=#[v]:=by rcases hd with rfl|⟨k,rfl⟩|rfl|⟨e,rfl⟩<;>cases v<;>first|rfl|(simp[Value.okWide,hu,Cell.okWide,Cell.ok]at h)
def Yf(P:Program)(B:Nat)(t:TypeId):(T:Ty)->T.den->Prop|.sl _,l=>∀e,P.underlying t=some (.slice e)->l.length*P.bytesOf e<=B|.str,s=>P.underlying t=some .string->s.length<=B|_,_=>True
theorem ab8{fuel:Nat}{t:TypeId}{cs:List Value}{d:DataW H}{ps:List MemPlace}(hf:DataW.trod enc P w 0 sp held fuel t cs=some (d,ps)){T:Ty}{x:T.den}{F:Nat->Nat->Prop}(hx:aE (DR w F) (fy T x) cs){B:Nat}(hw:(d.weights P t).all (λb=>decide (b<=B))=true):Yf P B t T x:=by cases fuel with|zero=>simp[DataW.trod]at hf|succ fuel=>cases T with
 |sl T'=>intro e he;match cs,hx with|[c],hx=>have hd:DR w F (.sl (List.map (fy T') x)) c:=hx.1;cases hd with|sl els a n cap sz b o g hn hcap hsz ha hF hc hr=>
    unfold DataW.trod at hf;rw[he]at hf;split at hf<;>first|(exfalso;have q:=‹some (TypeDesc.slice e)=some _›;injection q with q;cases q;done)|cases hf|skip
    .grind
    .subst_vars;split at hf;.obtain⟨elems,hel,hf⟩:=aV hf;obtain⟨rest,Bx,heq⟩:=aQ hf;cases heq;have hlen:=(mapM_some hel).1;simp[DataW.weights,he,d9,am,db,ll]at hw<;>grind
     grind
 |str=>intro he;match cs,hx with|[c],hx=>have hd:DR w F (.sc (.string ⟨x.toArray⟩)) c:=hx.1;cases hd with|sc v h1=>
    unfold DataW.trod at hf;rw[he]at hf;simp only at hf;split at hf<;>first|(exfalso;have q:=‹some TypeDesc.string=some _›;injection q with q;cases q;done)|cases hf|skip
    simpa[DataW.weights]using hw
 |_=>trivial
def ab9(P:Program)(B:Nat):List zO->List fS->Prop|[],_=>True|p::l,ds=>(∃x:p.2.2.den,(∃rest,ds=flat p.2.2 x++rest)/\Yf P B p.1 p.2.2 x)/\ab9 P B l (ds.drop (Cs p.2.2).length)
def agp(P:Program)(B:Nat)(l:List zO)(x:(rS (ki l)).den):Prop:=ab9 P B l (unpack (ki l) x)
def SE(w:World)(ps:List MemPlace):Cx:={w,F:=GY ps,ρ:=λ_=>none,old:=λb=>b<w.heap.size}
theorem NF(hg:(∀b,KJ b->b<w.heap.size)/\Zv w)(ps:List MemPlace)(hlt:∀x∈ps,x.block<w.heap.size):aH (SE w ps) [.lf] .lf where
 fZ lv sl e he:=by rw[xS]at he;cases he
 aK v hv:=by simp at hv
 apart k k' v v' L L' a b:=by
  rcases a with⟨_,_,_,_,he,_⟩|⟨_,he⟩;.rw[xS]at he;cases he
  .simp at he
 p7 b o h:=hlt _ h;Aq:=⟨λ_ h=>h,hg.1,hg.2⟩
theorem NG{X:Cx}:∀{ds:List D}{cs:List Value},aE (DR X.w X.F) ds cs->aE (VC X) (ds.map .d) cs|[],[],_=>trivial|_::_,_::_,h=>⟨h.1,NG h.2⟩|[],_::_,h=>h.elim|_::_,[],h=>h.elim
theorem acd(QS:Pq P rv){k:Nat}{p:zO}(hp:Js P rv k p){v:Value}{d:DataW H}{qs ps:List MemPlace}{b:Nat}(hv:Value.okWide P w .any b p.1 v)(h:DataW.Trod enc P w 0 sp held p.1 v d qs)(hsub:∀q∈qs,q∈ps):∃(x:p.2.2.den)(a:AV)(u:V2),p.2.2.ok x/\V1 (SE w ps) a v/\RV ρ0 0 [] u a/\(∀rest,dR [p.sh] (flat p.2.2 x++rest)=some ([u],rest))/\(∀B,(d.weights P p.1).all (λb=>decide (b<=B))=true->Yf P B p.1 p.2.2 x):=by
 obtain⟨t,ag,T⟩:=p;obtain⟨hT,hfit⟩:=hp;obtain⟨fuel,hf⟩:=h;obtain⟨x,ox,hx⟩:=Fl QS fuel _ _ _ _ hf _ _ hT;have aqP:=λ(B:Nat)hw=>ab8 (x:=x) hf hx (B:=B) hw;have hx:aE (DR (SE w ps).w (SE w ps).F) (fy T x) v.cells.toList:=hx.mono λ_ _=>DR.mono λb o hb=>hsub _ hb;have ZY:=yc T x;have NH:(∃cs,v=.agg cs)->ag=true->∃(a:AV)(u:V2),V1 (SE w ps) a v/\RV ρ0 0 [] u a/\∀rest,dR [zO.sh (t,ag,T)] (flat T x++rest)=some ([u],rest):=by rintro⟨cs,rfl⟩rfl;refine⟨.agg ((fy T x).map .d),.agg (jl T x),⟨cs,rfl,NG hx⟩,⟨_,rfl,lT T x⟩,λrest=>?_⟩;simp[zO.sh,dR,tZ.fill,ZY]
 have wT:v.cells=#[v]->ag=false->(∃c,aZ T=[c])->∃(a:AV)(u:V2),V1 (SE w ps) a v/\RV ρ0 0 [] u a/\∀rest,dR [zO.sh (t,ag,T)] (flat T x++rest)=some ([u],rest):=by rintro hc rfl⟨c,hcs⟩;rw[hc]at hx;have hl:=hx.length;match he:fy T x,hl with|[y],_=>rw[he]at hx;have hcell:=lT (ρ:=ρ0) (B:=0) (m:=[]) T x;rw[he]at hcell;match hct:jl T x,hcell with
   |[z],hcell=>
    refine⟨.d y,.c z,?_,hcell.1,λrest=>?_⟩;.exact hx.1
    .have:=ZY rest;rw[hcs]at this;simp[dx]at this;simp[zO.sh,hcs,dR,tZ.fill]<;>grind
 have fin:(∃(a:AV)(u:V2),V1 (SE w ps) a v/\RV ρ0 0 [] u a/\∀rest,dR [zO.sh (t,ag,T)] (flat T x++rest)=some ([u],rest))->∃(x:T.den)(a:AV)(u:V2),T.ok x/\V1 (SE w ps) a v/\RV ρ0 0 [] u a/\(∀rest,dR [zO.sh (t,ag,T)] (flat T x++rest)=some ([u],rest))/\(∀B,(d.weights P t).all (λb=>decide (b<=B))=true->Yf P B t T x):=by grind
 apply fin;unfold SD at hfit;cases hu:P.underlying t with|none=>grind|some desc=>rw[hu]at hfit;cases k with|zero=>simp[Ye]at hT|succ k=>
  have one:∀{d:TypeDesc},desc=d->(d=.bool\/(∃k,d=.int k)\/d=.string\/∃e,d=.slice e)->∃c,aZ T=[c]:=by
   intro d hd hq;subst hd;simp[Ye]at hT;split at hT;.rename_i hr;obtain⟨fs,_,lF,_⟩:=QS t hr<;>grind
   .rw[hu]at hT;rcases hq with rfl|⟨k,rfl⟩|rfl|⟨e,rfl⟩;.cases hT;exact⟨_,rfl⟩
    .cases hT;exact⟨_,rfl⟩
    .cases hT;exact⟨_,rfl⟩
    .simp at hT;split at hT
     .split at hT;.cases hT;exact⟨_,rfl⟩
      .cases hT
     .cases hT
  cases desc with|struct fs=>exact NH (LO hv hu) hfit|array n e=>exact NH (LP hv hu) hfit|bool=>exact wT (pe hv hu (.inl rfl)) (by simpa using hfit) (one rfl (.inl rfl))|int kd=>exact wT (pe hv hu (.inr (.inl ⟨kd,rfl⟩))) (by simpa using hfit) (one rfl (.inr (.inl ⟨kd,rfl⟩)))|string=>exact wT (pe hv hu (.inr (.inr (.inl rfl)))) (by simpa using hfit) (one rfl (.inr (.inr (.inl rfl))))|slice e=>exact wT (pe hv hu (.inr (.inr (.inr ⟨e,rfl⟩)))) (by simpa using hfit) (one rfl (.inr (.inr (.inr ⟨e,rfl⟩))))|_=>cases hfit
theorem wU:∀{l l':List uD}{r r' r'':List fS}{xs ys:List V2},dR l r=some (xs,r')->dR l' r'=some (ys,r'')->dR (l++l') r=some (xs++ys,r'')
 |[],l',r,r',r'',xs,ys,h,h'=>by cases h<;>grind|c::l,l',r,r',r'',xs,ys,h,h'=>by
  simp[dR]at h;simp[n3,dR];split at h
  .split at h;.rename_i X4 r2 h2;cases h;simp only[wU h2 h'];rfl
   grind
  grind
theorem G0(QS:Pq P rv){k b:Nat}{ps:List MemPlace}:∀{l:List zO}{vs:List Value}{ds:List (DataW H)}{qs:List MemPlace},(∀p∈l,Js P rv k p)->(∀(j:Nat)(p:zO)v,l[j]?=some p->vs[j]?=some v->Value.okWide P w .any b p.1 v)->DataW.TrodAll enc P w 0 sp held (l.map (·.1)) vs ds qs->(∀q∈qs,q∈ps)->∃(dd:List fS)(aO:List AV)(us:List V2),ZX dd/\dd.map (·.t)=ki l/\aE (V1 (SE w ps)) aO vs/\aE (RV ρ0 0 []) us aO/\(∀rest,dR (l.map zO.sh) (dd++rest)=some (us,rest))/\(∀B,(DataW.weightsEach P (l.map (·.1)) ds).all (λb=>decide (b<=B))=true->ab9 P B l dd)
 |[],vs,ds,qs,_,_,h,_=>by match vs,ds,h with|[],[],_=>exact⟨[],[],[],λd hd=>(by cases hd),rfl,trivial,trivial,λ_=>rfl,λ_ _=>trivial⟩
 |p::l,vs,ds,qs,hp,hv,h,hsub=>by match vs,ds,h with
  |v::vs,d::ds,h=>
   obtain⟨p1,q1,h1,h2,rfl⟩:=h;obtain⟨x,a,u,g1,g2,g3,g4,g4'⟩:=acd QS (hp p cb) (hv 0 p v rfl rfl) h1 (λq hq=>hsub q (dp _ hq));obtain⟨dd,aO,us,g5,g6,g7,g8,g9,g9'⟩:=G0 QS (l:=l) (λq hq=>hp q (dl _ hq)) (λj p' v' hj hj'=>hv (j+1) p' v' (by simpa using hj) (by simpa using hj')) h2 (λq hq=>hsub q (dq _ hq));refine⟨flat p.2.2 x++dd,a::aO,u::us,?_,?_,⟨g2,g7⟩,⟨g3,g8⟩,λrest=>?_,λB hw=>?_⟩
   .intro e he;rcases bj.1 he with he|he;.exact GZ _ x g1 e he
    .exact g5 e he
   .simp[ki,wS,g6]
   .rw[bi];exact wU (g4 _) (g9 rest)
   .simp only[fj,DataW.weightsEach,List.all_append,am]at hw;refine⟨⟨x,⟨dd,rfl⟩,g4' B hw.1⟩,?_⟩;have e:(Cs p.2.2).length=(flat p.2.2 x).length:=by rw[<-wS p.2.2 x,ll]
    grind
theorem Fm{cm:List (Tr bH)}{lv sl au:Nat}{rv:AV}{b:Bool}(h:iN cm 0 0 lv sl au rv=some (.d (.sc (.bool b)),[])):rv=.d (.sc (.bool b)):=by cases rv with|d x=>simp only[iN,lM,bA,eI,eb,and_true]at h;exact h|own els o=>cases o<;>simp[iN,lM,bA,oR]at h|agg cs=>obtain⟨z,_,he⟩:=aQ h<;>grind|jF vs=>simp_all[iN]|ref cM cZ gF off len sz=>simp[iN,lM,bA]at h<;>grind|ptr cM=>simp[iN,lM,bA,pp (vd cM)]at h|fF=>simp[iN,lM,bA]at h|mp=>simp[iN,lM,bA]at h|fW=>simp[iN,lM,bA]at h|fk f cs=>cases cs<;>simp[iN,lM,bA]at h
theorem Pr{dm:Nat->Option TypeId}{md:Nat->bM.Mode}{Fs:Tb}{f:Nat}(ace:P.follows .mixedOrders=true)(gP:∀f T,dm f=some T->jZ P f T)(DW:R3 P dm md Fs.fs)(hO:eo P Fs.O)(hg:(∀b,KJ b->b<w.heap.size)/\Zv w)(QS:Pq P rv){k b:Nat}{l:List zO}(hp:∀p∈l,Js P rv k p){F:(rS (ki l)).den->Option Bool}(acf:o8 Fs f ⟨l.map zO.sh,ki l,[(false,[.bool])],[.bool],0,F⟩)(hF:∀x,okL (ki l) x->F x=some true){args:Array Value}{ds:List (DataW H)}{ps:List MemPlace}(hval:∀(j:Nat)(p:zO)v,l[j]?=some p->args[j]?=some v->Value.okWide P w .any b p.1 v)(hargs:DataW.TrodAll enc P w 0 sp held (l.map (·.1)) args.toList ds ps)(hlt:∀x∈ps,x.block<w.heap.size):Calls P f args w λe w'=>e=.returned (.bool true)/\Below w.heap.size w w':=by
 obtain⟨dd,aO,us,g1,g2,g3,g4,g5,_⟩:=G0 QS (ps:=ps) hp (λj p v hj hv=>hval j p v hj (by simpa using hv)) hargs (λ_ h=>h);obtain⟨x,hx⟩:∃x,pack (ki l) dd=some x:=g2▸yd dd;have hu:=dJ hx;have hok:okL (ki l) x:=by unfold okL;rw[hu];exact g1
 obtain⟨vs,h1,h2⟩:=acf x true (hF x hok);simp[hu]at h1;have h5:=g5 [];rw[dt,h1]at h5;cases h5;obtain⟨n0,r,cm,ts,nv,h3,h4⟩:=h2 aO g4;obtain⟨a',h6,h7⟩:=(h4 [(false,[.bool true])] rfl).1 (show(0:Nat)≠65535by decide) (.c (.bool true)) rfl 0 0 0;have ha:a'=.d (.sc (.bool true)):=h7 ρ0 0 [];subst ha;have hr:=Fm h6;subst hr;obtain⟨_,hc⟩:=AK hO ace gP DW n0 f aO [.lf] .lf 0 _ cm ts nv (h3 n0 (bc _)) (SE w ps) args (NF hg ps hlt) (λ_ _=>rfl) g3;refine hc.mono ?_;rintro e w'⟨Y,u,rfl,rfl,hx,hv,_⟩;cases hv;exact⟨rfl,hx.below.toBelow⟩
theorem QT{B:Nat}{dm:Nat->Option TypeId}{md:Nat->bM.Mode}{Fs:Tb}{f:Nat}(ace:P.follows .mixedOrders=true)(gP:∀f T,dm f=some T->jZ P f T)(DW:R3 P dm md Fs.fs)(hO:eo P Fs.O)(hg:(∀b,KJ b->b<w.heap.size)/\Zv w)(QS:Pq P rv){k b:Nat}{l:List zO}(hp:∀p∈l,Js P rv k p){F:(rS (ki l)).den->Option Bool}(acf:o8 Fs f ⟨l.map zO.sh,ki l,[(false,[.bool])],[.bool],0,F⟩)(hF:∀x,okL (ki l) x->agp P B l x->F x=some true){args:Array Value}{ds:List (DataW H)}{ps:List MemPlace}(hval:∀(j:Nat)(p:zO)v,l[j]?=some p->args[j]?=some v->Value.okWide P w .any b p.1 v)(hargs:DataW.TrodAll enc P w 0 sp held (l.map (·.1)) args.toList ds ps)(hlt:∀x∈ps,x.block<w.heap.size)(hwt:(DataW.weightsEach P (l.map (·.1)) ds).all (λb=>decide (b<=B))=true):Calls P f args w λe w'=>e=.returned (.bool true)/\Below w.heap.size w w':=by
 obtain⟨dd,aO,us,g1,g2,g3,g4,g5,g6⟩:=G0 QS (ps:=ps) hp (λj p v hj hv=>hval j p v hj (by simpa using hv)) hargs (λ_ h=>h);obtain⟨x,hx⟩:∃x,pack (ki l) dd=some x:=g2▸yd dd;have hu:=dJ hx;have hok:okL (ki l) x:=by unfold okL;rw[hu];exact g1
 obtain⟨vs,h1,h2⟩:=acf x true (hF x hok (by unfold agp;rw[hu];exact g6 B hwt));simp[hu]at h1;have h5:=g5 [];rw[dt,h1]at h5;cases h5;obtain⟨n0,r,cm,ts,nv,h3,h4⟩:=h2 aO g4;obtain⟨a',h6,h7⟩:=(h4 [(false,[.bool true])] rfl).1 (show(0:Nat)≠65535by decide) (.c (.bool true)) rfl 0 0 0;have ha:a'=.d (.sc (.bool true)):=h7 ρ0 0 [];subst ha;have hr:=Fm h6;subst hr;obtain⟨_,hc⟩:=AK hO ace gP DW n0 f aO [.lf] .lf 0 _ cm ts nv (h3 n0 (bc _)) (SE w ps) args (NF hg ps hlt) (λ_ _=>rfl) g3;refine hc.mono ?_;rintro e w'⟨Y,u,rfl,rfl,hx,hv,_⟩;cases hv;exact⟨rfl,hx.below.toBelow⟩
theorem Fo(hl:laidOutB P=true){W W':World}(hb:Below W.heap.size W W'):∀{ts:List TypeId}{vs:List Value}{ds:List (DataW H)}{ps:List MemPlace},(ts.all λt=>P.readableRec t&&decide (t<P.types.size))=true->DataW.TrodAll enc P W 0 (λ_=>true) true ts vs ds ps->(∀x∈ps,x.block<W.heap.size)->DataW.TrodAll enc P W' 0 (λb=>decide (b<W.heap.size)) true ts vs ds ps
 |[],vs,ds,ps,_,h,_=>by match vs,ds,h with|[],[],h=>exact h
 |t::ts,vs,ds,ps,ht,h,hlt=>by match vs,ds,h with|v::vs,d::ds,h=>obtain⟨p,q,h1,h2,rfl⟩:=h;rw[d9,am,am]at ht;exact⟨p,q,Below.trod hl ht.1.1 (dv ht.1.2) h1 hb (λx hx=>hlt x (dp _ hx)),Fo hl hb ht.2 h2 (λx hx=>hlt x (dq _ hx)),rfl⟩
end
end Go.Sym
