/- Parts of the proof. -/
import Derived.Test.YtclkonemhghbkaaGreatSymK
import Derived.Test.YtclkonemhghbkaaGreatSymGM
import Derived.RowKit
import Derived.Carry
import Derived.ChangeOld
import Derived.Laws.Rows
import Derived.ChangeSame
import Derived.JoinedOf
import Derived.JoinedAt
import Derived.JoinedStill
import Derived.ProofKit
import GoSem.Claim
import GoSem.ClaimJoined
import GoSem.ClaimMapViews
import Derived.JoinedTies
import Derived.KernelRfl
import Derived.Shelf.Lays
import Derived.Shelf.LaysM
import Derived.Shelf.LaysC
import Derived.Shelf.Sort.Plain
import Derived.Shelf.Slices.CompactI
import Derived.Ground.NamesProg
import Derived.Ground.Names2Prog
import Derived.Test.YtclkonemhghbkaaGreatRows
import Derived.Test.YtclkonemhghbkaaGreatChecked
import Derived.Test.YtclkonemhghbkaaGreatEngV
set_option linter.unusedVariables false
set_option linter.unusedSimpArgs false
set_option linter.defProp false
namespace Go.Sym
open Go Go.bK Go.RowKit
mutual def rJ.ok:rJ->Prop|.mk k i s l _=>(IntKind.u8.min<=k/\k<=IntKind.u8.max)/\(IntKind.i64.min<=i/\i<=IntKind.i64.max)/\s.length<=maxLen/\l.length<=maxLen/\rJ.oks l def rJ.oks:List rJ->Prop|[]=>True|v::r=>rJ.ok v/\rJ.oks r end
def Ty.ok:(t:Ty)->t.den->Prop|.val,v=>rJ.ok v|.int k,a=>k.min<=a/\a<=k.max|.bool,_=>True|.str,s=>s.length<=maxLen|.sl t,l=>l.length<=maxLen/\∀x∈l,Ty.ok t x|.unit,_=>True|.prod a b,x=>Ty.ok a x.1/\Ty.ok b x.2|.sum a b,x=>match x with|.inl y=>Ty.ok a y|.inr y=>Ty.ok b y
def rJ.I2:∀{l:List rJ},rJ.oks l↔∀v∈l,rJ.ok v|[]=>by simp[rJ.oks]|v::r=>by simp[rJ.oks,rJ.I2 (l:=r)]
mutual def tyP(P:Program)(rv:Option TypeId):Nat->TypeId->Option Ty|0,_=>none|n+1,t=>if rv=some t then some .val else match P.underlying t with
 |some .bool=>some .bool|some (.int k)=>some (.int k)|some .string=>some .str|some (.slice e)=>match tyP P rv n e with|some T=>if 0<P.cellsOf e/\T.size=P.cellsOf e then some (.sl T)else none|none=>none
 |some (.struct fs)=>match tyF P rv n 0 fs.toList with|some (Ts,k)=>if k=P.cellsOf t then some (sY Ts)else none|none=>none
 |some (.array m e)=>match tyP P rv n e with|some T=>if T.size=P.cellsOf e/\m*P.cellsOf e=P.cellsOf t then some (sY (List.replicate m T))else none|none=>none
 |_=>none def tyF(P:Program)(rv:Option TypeId):Nat->Nat->List Field->Option (List Ty×Nat)|_,off,[]=>some ([],off)|0,_,_::_=>none|n+1,off,f::r=>match tyP P rv n f.type,tyF P rv n (off+P.cellsOf f.type) r with|some T,some (Ts,k)=>if f.offset=off/\T.size=P.cellsOf f.type then some (T::Ts,k)else none|_,_=>none end
def R0(P:Program)(rv:Option TypeId):Prop:=∀t,rv=some t->∃fs n,P.underlying t=some (.struct fs)/\tyF P rv n 0 fs.toList=some ([.int .u8,.int .i64,.str,.sl .val,.bool],5)/\P.cellsOf t=5
section
variable{H:Type}{enc:TypeId×Value->H}{P:Program}{w:World}{base:Nat}{sp:Nat->Bool}{held:Bool}{rv:Option TypeId}
def I3(ps:List MemPlace):Nat->Nat->Prop:=λb o=>MemPlace.cell b o∈ps
def mapM_some{α β:Type}{f:α->Option β}:∀{l:List α}{r:List β},l.mapM f=some r->r.length=l.length/\∀(i:Nat)(x:α),l[i]?=some x->∃y,r[i]?=some y/\f x=some y|[],r,h=>by grind|a::l,r,h=>by simp at h;obtain⟨y,h1,h⟩:=aV h;obtain⟨ys,h2,h⟩:=aV h;obtain⟨h3,h4⟩:=mapM_some h2<;>grind
def U5{a:Addr}{n:Nat}{v:Value}(h:w.cell? (a.add n)=some v):w.cell? ⟨a.block,a.off+n,none⟩=some v/\(n=0->a.spot=none):=by
 unfold Addr.add at h;split at h
 .have hs:a.spot=none:=by unfold World.cell? at h;split at h<;>simp_all
  obtain⟨b,o,sp⟩:=a<;>grind
 grind
def Lq{α β:Type}{Q:Nat->α->β->Prop}:∀{l:List α},(∀(i:Nat)(x:α),l[i]?=some x->∃y,Q i x y)->∃r:List β,r.length=l.length/\∀(i:Nat)(x:α),l[i]?=some x->∃y,r[i]?=some y/\Q i x y:=by intro l h;classical have:∀i:Fin l.length,∃y,Q i l[i] y:=λi=>h i _ (aw i.2);let f:Fin l.length->β:=λi=>Classical.choose (this i);refine⟨List.ofFn f,by simp,λi x hi=>?_⟩<;>grind
def U6(x:(sY [.int .u8,.int .i64,.str,.sl .val,.bool]).den):fu .val (.mk x.1 x.2.1 x.2.2.1 x.2.2.2.1 x.2.2.2.2)=fu (sY [.int .u8,.int .i64,.str,.sl .val,.bool]) x:=by simp[fu,NH,qY]
def uA{α β:Type}{R:α->β->Prop}{l:List α}{m:List β}{n k:Nat}(h:aC R l ((m.drop n).take k)){l':List α}{j:Nat}(h':aC R l' ((m.drop (n+k)).take j)):aC R (l++l') ((m.drop n).take (k+j)):=by have:=h.append h';rw[List.take_add,List.drop_drop];exact this
def Lr{T:Ty}{R:D->Value->Prop}{cs:List Value}{c:Nat}:∀(m off:Nat),(∀i,i<m->∃x:T.den,T.ok x/\aC R (fu T x) ((cs.drop (off+i*c)).take c))->∃x:(sY (List.replicate m T)).den,(sY (List.replicate m T)).ok x/\aC R (fu (sY (List.replicate m T)) x) ((cs.drop off).take (m*c))
 |0,off,_=>⟨(),trivial,by simp[fu,aC]⟩|1,off,h=>by simp_all|m+2,off,h=>by
  obtain⟨x,ox,hx⟩:=h 0 (by omega);simp at hx;obtain⟨z,oz,hz⟩:=Lr (m+1) (off+c) λi hi=>by have:=h (i+1) (by omega);rwa[show off+(i+1)*c=off+c+i*c by rw[d9,Eq];omega]at this
  refine⟨(x,z),⟨ox,oz⟩,?_⟩;have hj:=uA hx hz;rw[show c+(m+1)*c=(m+2)*c by rw[d9,d9];omega]at hj;exact hj
def Hf(Qb:R0 P rv):∀(fuel:Nat)(t:TypeId)(cs:List Value)(d:DataW H)(ps:List MemPlace),DataW.trod enc P w base sp held fuel t cs=some (d,ps)->∀(k:Nat)(T:Ty),tyP P rv k t=some T->∃x:T.den,T.ok x/\aC (DR w (I3 ps)) (fu T x) cs
 |0,_,_,_,_,h=>by simp[DataW.trod]at h|fuel+1,t,cs,d,ps,h=>by
  have ih:=Hf Qb fuel;have fields:∀(l:List Field)(k off e:Nat)(Ts:List Ty)(xs:List (DataW H×List MemPlace)),tyF P rv k off l=some (Ts,e)->(l.mapM λf=>DataW.trod enc P w base sp held fuel f.type ((cs.drop f.offset).take (P.cellsOf f.type)))=some xs->(∀x∈xs,∀q∈x.2,q∈ps)->off<=e/\∃x:(sY Ts).den,(sY Ts).ok x/\aC (DR w (I3 ps)) (fu (sY Ts) x) ((cs.drop off).take (e-off)):=by intro l;induction l with|nil=>intro k off e Ts xs hk hxs _;cases k<;>(simp only[tyF,dT,eJ]at hk;obtain⟨rfl,rfl⟩:=hk;exact⟨bc _,(),trivial,by simp[fu,aC]⟩)|cons f l ihl=>intro k off e Ts xs hk hxs hps;cases k with|zero=>simp[tyF]at hk|succ k=>
     simp[tyF]at hk;split at hk
     .rename_i T Ts' e' h1 h2;split at hk;.rename_i hc;simp at hk;obtain⟨rfl,rfl⟩:=hk;obtain⟨rfl,hsz⟩:=hc;simp at hxs;obtain⟨y,g1,hxs⟩:=aV hxs;obtain⟨ys,g2,hxs⟩:=aV hxs;cases hxs;obtain⟨x,ox,hx⟩:=ih _ _ y.1 y.2 g1 _ _ h1;have hx:aC (DR w (I3 ps)) (fu T x) ((cs.drop f.offset).take (P.cellsOf f.type)):=hx.mono λ_ _=>DR.mono λb o hb=>hps y ca _ hb;obtain⟨hle,z,oz,hz⟩:=ihl _ _ _ _ _ h2 g2 λx hx=>hps x (ci _ hx);refine⟨by omega,?_⟩;have hj:=uA hx hz;rw[show P.cellsOf f.type+(e'-(f.offset+P.cellsOf f.type))=e'-f.offset from by omega]at hj;cases Ts' with|nil=>refine⟨x,ox,?_⟩;simpa[fu]using hj|cons T2 Ts2=>exact⟨(x,z),⟨ox,oz⟩,hj⟩
      grind
     grind
  intro k T hT;cases k with|zero=>simp[tyP]at hT|succ k=>
  unfold DataW.trod at h;simp only[tyP]at hT;split at hT
  .rename_i hr;injection hT with hT;subst hT;obtain⟨fs,n,hu,hF,hc⟩:=Qb t hr;rw[hu]at h;simp only at h;split at h
   .rename_i hlen;obtain⟨xs,hxs,he⟩:=aJ h;simp only[eJ]at he;obtain⟨_,rfl⟩:=he;obtain⟨_,x,ox,hx⟩:=fields _ _ _ _ _ _ hF hxs λx hx q hq=>nl.2 ⟨x,hx,hq⟩;refine⟨.mk x.1 x.2.1 x.2.2.1 x.2.2.2.1 x.2.2.2.2,?_,?_⟩;.obtain⟨o1,o2,o3,o4,o5⟩:=ox;exact⟨o1,o2,o3,o4.1,rJ.I2.2 o4.2⟩
    .rw[U6];rw[hc]at hlen;simpa[fx,hlen]using hx
   .cases h
  .rename_i hr;cases hu:P.underlying t with|none=>rw[hu]at hT;cases hT|some desc=>rw[hu]at hT h;cases desc with
    |bool=>
     injection hT with hT;subst hT;simp only at h;split at h<;>first|(exfalso;have q:=‹some TypeDesc.bool=some _›;injection q with q;cases q;done)|cases h|skip
     rename_i b _;exact⟨b,trivial,.sc _ rfl,trivial⟩|int kd=>
     injection hT with hT;subst hT;simp only at h;split at h<;>first|(exfalso;have q:=‹some (TypeDesc.int kd)=some _›;injection q with q;cases q;done)|cases h|skip
     rename_i k k' n heq;injection heq with heq;injection heq with heq;subst heq;split at h;.rename_i hc;obtain⟨rfl,hw⟩:=hc;simp only[Lit.wf,al,db]at hw;exact⟨n,hw,.sc _ rfl,trivial⟩
     .cases h|string=>
     injection hT with hT;subst hT;simp only at h;split at h<;>first|(exfalso;have q:=‹some TypeDesc.string=some _›;injection q with q;cases q;done)|cases h|skip
     rename_i s _;split at h;.rename_i hc;refine⟨s.data.toList,(by show s.data.toList.length<=maxLen;rw[fw];exact hc),?_,trivial⟩;exact .sc _ rfl
     .cases h|slice e=>
     simp only at hT h;split at hT
     .rename_i T' hT';split at hT
      .rename_i hc;injection hT with hT;subst hT;obtain⟨hpos,hsz⟩:=hc;split at h<;>first|(exfalso;have q:=‹some (TypeDesc.slice e)=some _›;injection q with q;cases q;done)|cases h|skip
       .refine⟨[],⟨by simp,λx hx=>by cases hx⟩,?_,trivial⟩;exact .sl [] none 0 0 0 0 0 (λ_ _=>.bool false) rfl (bc _) (λe h=>by cases h) (λh=>by cases h) (λi e j x h=>by simp at h) (λi e j x h=>by simp at h) (λi e j x h=>by simp at h)
       .rename_i e' a len cap heq;injection heq with heq;injection heq with heq;subst heq;split at h
        .rename_i hb;obtain⟨elems,hel,h⟩:=aV h;obtain⟨rest,CT,he⟩:=aJ h;simp only[eJ]at he;obtain⟨_,rfl⟩:=he;obtain⟨hlen,mE⟩:=mapM_some hel;rw[List.length_range]at hlen;have elem:∀i y,elems[i]?=some y->∃x:T'.den,T'.ok x/\∃csi,w.cells? base (a.add (i*P.cellsOf e)) (P.cellsOf e)=some csi/\aC (DR w (I3 (MemPlace.row a ((elems.length+rest.length)*P.cellsOf e)++(elems++rest).flatMap (·.2)))) (fu T' x) csi:=by
          intro i y hi;have Ay:i<len:=by rw[<-hlen];exact(cb.1 hi).1
          obtain⟨y',hy',hf⟩:=mE i i (by simp[Ay]);rw[hi]at hy';injection hy' with hy';subst hy';obtain⟨csi,h1,h2⟩:=aV hf;obtain⟨x,ox,hx⟩:=ih _ _ y.1 y.2 h2 _ _ hT';refine⟨x,ox,csi,h1,hx.mono λ_ _=>DR.mono λb o hb=>?_⟩;refine dt _ (nl.2 ⟨y,dk _ (f2 hi),hb⟩)
         obtain⟨xs,hxl,hxs⟩:=Lq elem;have adh:xs.length=len:=by rw[hxl,hlen]
         refine⟨xs,⟨by rw[adh];omega,λx hx=>?_⟩,?_,trivial⟩
         .obtain⟨i,hi⟩:=List.getElem?_of_mem hx;have hi':i<elems.length:=by rw[<-hxl];exact(cb.1 hi).1
          obtain⟨y,hy,oy,_⟩:=hxs i _ (aw hi');rw[hi]at hy;injection hy with hy;subst hy;exact oy
         .have cell:∀i e' j x',(xs.map (fu T'))[i]?=some e'->e'[j]?=some x'->j<P.cellsOf e/\i<len/\∃v,w.cell? ⟨a.block,a.off+i*P.cellsOf e+j,none⟩=some v/\(i=0->j=0->a.spot=none)/\DR w (I3 (MemPlace.row a ((elems.length+rest.length)*P.cellsOf e)++(elems++rest).flatMap (·.2))) x' v:=by
           intro i e' j x' hi hj;rw[fi]at hi;obtain⟨x,hx,rfl⟩:=aJ hi;have hi':i<elems.length:=by rw[<-hxl];exact(cb.1 hx).1
           obtain⟨y,hy,oy,csi,h1,h2⟩:=hxs i _ (aw hi');rw[hx]at hy;injection hy with hy;subst hy;obtain⟨v,hv,hd⟩:=h2.get j x' hj;have hjl:j<P.cellsOf e:=by have:=(cb.1 hj).1;rw[fy,hsz]at this;exact this
           unfold World.cells? at h1;split at h1
           .obtain⟨_,hg⟩:=mapM_some h1;obtain⟨v',nh,hcell⟩:=hg j j (by simp[hjl]);rw[hv]at nh;injection nh with nh;subst nh;obtain⟨c1,c2⟩:=U5 hcell;have e1:(a.add (i*P.cellsOf e)).block=a.block/\(a.add (i*P.cellsOf e)).off=a.off+i*P.cellsOf e:=by
             unfold Addr.add;split;.rename_i h0;rw[h0];exact⟨rfl,rfl⟩
             .exact⟨rfl,rfl⟩
            rw[e1.1,e1.2]at c1;refine⟨hjl,by omega,v,c1,λh0 h0'=>?_,hd⟩;have:=c2 h0';subst h0;simpa[Addr.add]using this
           .cases h1
          have hl:eX w (I3 (MemPlace.row a ((elems.length+rest.length)*P.cellsOf e)++(elems++rest).flatMap (·.2))) (I3 (MemPlace.row a ((elems.length+rest.length)*P.cellsOf e)++(elems++rest).flatMap (·.2))) (xs.map (fu T')) a.block a.off (P.cellsOf e):=by
           refine⟨λe' he'=>?_,λi e' j x' hi hj=>?_⟩;.obtain⟨x,_,rfl⟩:=i6.1 he';rw[fy,hsz]
           .obtain⟨c1,c2,v,c3,_,c4⟩:=cell i e' j x' hi hj;refine⟨dk _ ?_,v,c3,c4⟩;unfold MemPlace.row;rw[i6];refine⟨i*P.cellsOf e+j,?_,by rw[eK]⟩;rw[t8,hlen];have:(i+1)*P.cellsOf e<=(len+rest.length)*P.cellsOf e:=d7 _ (by omega);rw[d9,Eq]at this;omega
          refine DR.gF hl (by simp[adh]) hb.2.1 λhn=>?_;have hx0:0<xs.length:=by omega
          have h0:(xs.map (fu T'))[0]?=some (fu T' xs[0]):=by simp[hx0]
          have hs0:0<(fu T' xs[0]).length:=by rw[fy,hsz];exact hpos
          obtain⟨_,_,v,_,hsp,_⟩:=cell 0 _ 0 _ h0 (aw hs0);have:=hsp rfl rfl;obtain⟨ab,ao,asp⟩:=a;simp only at this;subst this;rfl
        .cases h
      .cases hT
     .cases hT|struct fs=>
     simp only at hT h;split at hT
     .rename_i Ts e hF;split at hT
      .rename_i hc;injection hT with hT;subst hT;split at h;.rename_i hlen;obtain⟨xs,hxs,he⟩:=aJ h;simp only[eJ]at he;obtain⟨_,rfl⟩:=he;obtain⟨_,x,ox,hx⟩:=fields _ _ _ _ _ _ hF hxs λx hx q hq=>nl.2 ⟨x,hx,hq⟩;refine⟨x,ox,?_⟩;rw[hc]at hx;simpa[fx,hlen]using hx
       .cases h
      .cases hT
     .cases hT|array m e=>
     simp only at hT h;split at hT
     .rename_i T' hT';split at hT
      .rename_i hc;injection hT with hT;subst hT;obtain⟨hsz,hm⟩:=hc;split at h
       .rename_i hlen;obtain⟨xs,hxs,he⟩:=aJ h;simp only[eJ]at he;obtain⟨_,rfl⟩:=he;obtain⟨hl,mE⟩:=mapM_some hxs;obtain⟨x,ox,hx⟩:=Lr (T:=T') (R:=DR w (I3 (xs.flatMap (·.2)))) (cs:=cs) (c:=P.cellsOf e) m 0 λi hi=>by obtain⟨y,hy,hf⟩:=mE i i (by simp[hi]);obtain⟨x,ox,hx⟩:=ih _ _ y.1 y.2 hf _ _ hT';refine⟨x,ox,?_⟩;rw[jn];exact hx.mono λ_ _=>DR.mono λb o hb=>nl.2 ⟨y,f2 hy,hb⟩
        refine⟨x,ox,?_⟩;rw[hm]at hx;simpa[fx,hlen]using hx
       .cases h
      .cases hT
     .cases hT|_=>cases hT
end
def DQ:Ty->List Ty|.val=>[.int .u8,.int .i64,.str,.sl .val,.bool]|.int k=>[.int k]|.bool=>[.bool]|.str=>[.str]|.sl t=>[.sl t]|.unit=>[]|.prod a b=>DQ a++DQ b|.sum _ _=>[]
def bn:Ty->List ig|.val=>[.int .u8,.int .i64,.str,.sl .val .d,.bool]|.int k=>[.int k]|.bool=>[.bool]|.str=>[.str]|.sl t=>[.sl t .d]|.unit=>[]|.prod a b=>bn a++bn b|.sum _ _=>[]
def flat:(T:Ty)->T.den->List fS|.val,v=>[⟨.int .u8,v.kind⟩,⟨.int .i64,v.int⟩,⟨.str,v.text⟩,⟨.sl .val,v.list⟩,⟨.bool,v.cut⟩]|.int k,a=>[⟨.int k,a⟩]|.bool,b=>[⟨.bool,b⟩]|.str,s=>[⟨.str,s⟩]|.sl t,l=>[⟨.sl t,l⟩]|.unit,_=>[]|.prod a b,x=>flat a x.1++flat b x.2|.sum _ _,_=>[]
def yz:∀(T:Ty)(x:T.den),(flat T x).map (·.t)=DQ T|.val,_=>rfl|.int _,_=>rfl|.bool,_=>rfl|.str,_=>rfl|.sl _,_=>rfl|.unit,_=>rfl|.prod a b,x=>by simp[flat,DQ,yz a,yz b]|.sum _ _,_=>rfl
def vS:∀{l l':List ig}{r r' r'':List fS}{xs ys:List Cell},dH l r=some (xs,r')->dH l' r'=some (ys,r'')->dH (l++l') r=some (xs++ys,r'')
 |[],l',r,r',r'',xs,ys,h,h'=>by cases h<;>grind|c::l,l',r,r',r'',xs,ys,h,h'=>by
  simp[dH]at h;split at h
  .rename_i x r1 h1;split at h;.rename_i xs1 r2 h2;cases h;simp[nn,dH,h1,vS h2 h']
   grind
  grind
def zJ:∀(T:Ty)(x:T.den)(rest:List fS),dH (bn T) (flat T x++rest)=some (jD T x,rest)|.val,_,_=>rfl|.int _,_,_=>rfl|.bool,_,_=>rfl|.str,_,_=>rfl|.sl _,_,_=>rfl|.unit,_,_=>rfl|.prod a b,x,rest=>by simp[bn,flat,bi,jD];exact vS (zJ a x.1 _) (zJ b x.2 rest)|.sum _ _,_,_=>rfl
def okD(ds:List fS):Prop:=∀d∈ds,d.t.ok d.v
def I4:∀(T:Ty)(x:T.den),T.ok x->okD (flat T x)
 |.val,v,h=>by
  cases v;obtain⟨h1,h2,h3,h4,h5⟩:=h;intro d hd;simp[flat,dj,dC,km]at hd;rcases hd with rfl|rfl|rfl|rfl|rfl;.exact h1
  .exact h2
  .exact h3
  .exact⟨h4,rJ.I2.1 h5⟩
  .trivial|.int _,_,h=>λd hd=>by simp[flat]at hd<;>grind|.bool,_,h=>λd hd=>by simp[flat]at hd<;>grind|.str,_,h=>λd hd=>by simp[flat]at hd<;>grind|.sl _,_,h=>λd hd=>by simp[flat]at hd<;>grind|.unit,_,_=>λd hd=>by simp[flat]at hd|.prod a b,x,h=>λd hd=>by
  simp[flat,bj]at hd;rcases hd with hd|hd;.exact I4 a x.1 h.1 d hd
  .exact I4 b x.2 h.2 d hd|.sum _ _,_,_=>λd hd=>by simp[flat]at hd
def Bh(a:Ty)(x:a.den):wA a a x=some x:=by unfold wA;split<;>grind
def zK:∀ds:List fS,∃x,pack (ds.map (·.t)) ds=some x|[]=>⟨(),rfl⟩|[d]=>⟨d.v,Bh _ _⟩|d::e::r=>by obtain⟨y,hy⟩:=zK (e::r);refine⟨(d.v,y),?_⟩;have hy':pack (e.t::r.map (·.t)) (e::r)=some y:=hy;show pack (d.t::e.t::r.map (·.t)) (d::e::r)=some (d.v,y);simp[pack,Bh,hy']
abbrev Bi:=TypeId×Bool×Ty
def Bi.sh(p:Bi):vm:=match p.2.1,bn p.2.2with|false,[c]=>.c c|_,l=>.agg l
def kS(l:List Bi):List Ty:=l.flatMap λp=>DQ p.2.2
def ZQ(ts:List Ty)(x:(sY ts).den):Prop:=okD (unpack ts x)
def U7(P:Program)(p:Bi):Bool:=match P.underlying p.1with|some (.struct _)=>p.2.1|some (.array _ _)=>p.2.1|some .bool|some (.int _)|some .string|some (.slice _)=>!p.2.1|_=>false
def Ls(P:Program)(rv:Option TypeId)(k:Nat)(p:Bi):Prop:=tyP P rv k p.1=some p.2.2/\U7 P p=true
section
variable{H:Type}{enc:TypeId×Value->H}{P:Program}{w:World}{sp:Nat->Bool}{held:Bool}{rv:Option TypeId}
def N9{t:TypeId}{v:Value}{b:Nat}{fs:Array Field}(h:Value.okWide P w .any b t v)(hu:P.underlying t=some (.struct fs)):∃cs,v=.agg cs:=by simp[Value.okWide,hu]at h<;>grind
def Oa{t:TypeId}{v:Value}{b n:Nat}{e:TypeId}(h:Value.okWide P w .any b t v)(hu:P.underlying t=some (.array n e)):∃cs,v=.agg cs:=by simp[Value.okWide,hu]at h<;>grind
def qf{t:TypeId}{v:Value}{b:Nat}{d:TypeDesc}(h:Value.okWide P w .any b t v)(hu:P.underlying t=some d)(hd:d=.bool\/(∃k,d=.int k)\/d=.string\/∃e,d=.slice e):v.cells=#[v]:=by rcases hd with rfl|⟨k,rfl⟩|rfl|⟨e,rfl⟩<;>cases v<;>first|rfl|(simp[Value.okWide,hu,Cell.okWide,Cell.ok]at h)
def aa8(P:Program)(B:Nat)(t:TypeId):(T:Ty)->T.den->Prop|.sl _,l=>∀e,P.underlying t=some (.slice e)->l.length*P.bytesOf e<=B|.str,s=>P.underlying t=some .string->s.length<=B|_,_=>True
def afm{fuel:Nat}{t:TypeId}{cs:List Value}{d:DataW H}{ps:List MemPlace}(hf:DataW.trod enc P w 0 sp held fuel t cs=some (d,ps)){T:Ty}{x:T.den}{F:Nat->Nat->Prop}(hx:aC (DR w F) (fu T x) cs){B:Nat}(hw:(d.weights P t).all (λb=>decide (b<=B))=true):aa8 P B t T x:=by cases fuel with|zero=>simp[DataW.trod]at hf|succ fuel=>cases T with
 |sl T'=>intro e he;match cs,hx with|[c],hx=>have hd:DR w F (.sl (List.map (fu T') x)) c:=hx.1;cases hd with|sl els a n cap sz b o g hn hcap hsz ha hF hc hr=>
    unfold DataW.trod at hf;rw[he]at hf;split at hf<;>first|(exfalso;have q:=‹some (TypeDesc.slice e)=some _›;injection q with q;cases q;done)|cases hf|skip
    .grind
    .subst_vars;split at hf;.obtain⟨elems,hel,hf⟩:=aV hf;obtain⟨rest,CT,heq⟩:=aJ hf;cases heq;have hlen:=(mapM_some hel).1;simp[DataW.weights,he,dv,al,db,lh]at hw<;>grind
     grind
 |str=>intro he;match cs,hx with|[c],hx=>have hd:DR w F (.sc (.string ⟨x.toArray⟩)) c:=hx.1;cases hd with|sc v h1=>
    unfold DataW.trod at hf;rw[he]at hf;simp only at hf;split at hf<;>first|(exfalso;have q:=‹some TypeDesc.string=some _›;injection q with q;cases q;done)|cases hf|skip
    simpa[DataW.weights]using hw
 |_=>trivial
def afn(P:Program)(B:Nat):List Bi->List fS->Prop|[],_=>True|p::l,ds=>(∃x:p.2.2.den,(∃rest,ds=flat p.2.2 x++rest)/\aa8 P B p.1 p.2.2 x)/\afn P B l (ds.drop (DQ p.2.2).length)
def ake(P:Program)(B:Nat)(l:List Bi)(x:(sY (kS l)).den):Prop:=afn P B l (unpack (kS l) x)
def U8(w:World)(ps:List MemPlace):Cx:={w,F:=I3 ps,ρ:=λ_=>none,old:=λb=>b<w.heap.size}
def Qc(hg:(∀b,M6 b->b<w.heap.size)/\gok w)(ps:List MemPlace)(hlt:∀x∈ps,x.block<w.heap.size):aF (U8 w ps) [.lf] .lf where
 fE lv sl e he:=by rw[zx]at he;cases he
 aI v hv:=by simp at hv
 apart k k' v v' L L' a b:=by
  rcases a with⟨_,_,_,_,he,_⟩|⟨_,he⟩;.rw[zx]at he;cases he
  .simp at he
 nG b o h:=hlt _ h;pX:=⟨λ_ h=>h,hg.1,hg.2⟩
def Qd{X:Cx}:∀{ds:List D}{cs:List Value},aC (DR X.w X.F) ds cs->aC (VC X) (ds.map .d) cs|[],[],_=>trivial|_::_,_::_,h=>⟨h.1,Qd h.2⟩|[],_::_,h=>h.elim|_::_,[],h=>h.elim
def afo(Qb:R0 P rv){k:Nat}{p:Bi}(hp:Ls P rv k p){v:Value}{d:DataW H}{qs ps:List MemPlace}{b:Nat}(hv:Value.okWide P w .any b p.1 v)(h:DataW.Trod enc P w 0 sp held p.1 v d qs)(hsub:∀q∈qs,q∈ps):∃(x:p.2.2.den)(a:AV)(u:V2),p.2.2.ok x/\V1 (U8 w ps) a v/\RV ρ0 0 [] u a/\(∀rest,dQ [p.sh] (flat p.2.2 x++rest)=some ([u],rest))/\(∀B,(d.weights P p.1).all (λb=>decide (b<=B))=true->aa8 P B p.1 p.2.2 x):=by
 obtain⟨t,ag,T⟩:=p;obtain⟨hT,hfit⟩:=hp;obtain⟨fuel,hf⟩:=h;obtain⟨x,ox,hx⟩:=Hf Qb fuel _ _ _ _ hf _ _ hT;have awm:=λ(B:Nat)hw=>afm (x:=x) hf hx (B:=B) hw;have hx:aC (DR (U8 w ps).w (U8 w ps).F) (fu T x) v.cells.toList:=hx.mono λ_ _=>DR.mono λb o hb=>hsub _ hb;have Qe:=zJ T x;have Qf:(∃cs,v=.agg cs)->ag=true->∃(a:AV)(u:V2),V1 (U8 w ps) a v/\RV ρ0 0 [] u a/\∀rest,dQ [Bi.sh (t,ag,T)] (flat T x++rest)=some ([u],rest):=by rintro⟨cs,rfl⟩rfl;refine⟨.agg ((fu T x).map .d),.agg (jD T x),⟨cs,rfl,Qd hx⟩,⟨_,rfl,mI T x⟩,λrest=>?_⟩;simp[Bi.sh,dQ,tA.fill,Qe]
 have yA:v.cells=#[v]->ag=false->(∃c,bn T=[c])->∃(a:AV)(u:V2),V1 (U8 w ps) a v/\RV ρ0 0 [] u a/\∀rest,dQ [Bi.sh (t,ag,T)] (flat T x++rest)=some ([u],rest):=by rintro hc rfl⟨c,hcs⟩;rw[hc]at hx;have hl:=hx.length;match he:fu T x,hl with|[y],_=>rw[he]at hx;have hcell:=mI (ρ:=ρ0) (B:=0) (m:=[]) T x;rw[he]at hcell;match hct:jD T x,hcell with
   |[z],hcell=>
    refine⟨.d y,.c z,?_,hcell.1,λrest=>?_⟩;.exact hx.1
    .have:=Qe rest;rw[hcs]at this;simp[dH]at this;simp[Bi.sh,hcs,dQ,tA.fill]<;>grind
 have fin:(∃(a:AV)(u:V2),V1 (U8 w ps) a v/\RV ρ0 0 [] u a/\∀rest,dQ [Bi.sh (t,ag,T)] (flat T x++rest)=some ([u],rest))->∃(x:T.den)(a:AV)(u:V2),T.ok x/\V1 (U8 w ps) a v/\RV ρ0 0 [] u a/\(∀rest,dQ [Bi.sh (t,ag,T)] (flat T x++rest)=some ([u],rest))/\(∀B,(d.weights P t).all (λb=>decide (b<=B))=true->aa8 P B t T x):=by grind
 apply fin;unfold U7 at hfit;cases hu:P.underlying t with|none=>grind|some desc=>rw[hu]at hfit;cases k with|zero=>simp[tyP]at hT|succ k=>
  have one:∀{d:TypeDesc},desc=d->(d=.bool\/(∃k,d=.int k)\/d=.string\/∃e,d=.slice e)->∃c,bn T=[c]:=by
   intro d hd hq;subst hd;simp[tyP]at hT;split at hT;.rename_i hr;obtain⟨fs,_,lF,_⟩:=Qb t hr<;>grind
   .rw[hu]at hT;rcases hq with rfl|⟨k,rfl⟩|rfl|⟨e,rfl⟩;.cases hT;exact⟨_,rfl⟩
    .cases hT;exact⟨_,rfl⟩
    .cases hT;exact⟨_,rfl⟩
    .simp at hT;split at hT
     .split at hT;.cases hT;exact⟨_,rfl⟩
      .cases hT
     .cases hT
  cases desc with|struct fs=>exact Qf (N9 hv hu) hfit|array n e=>exact Qf (Oa hv hu) hfit|bool=>exact yA (qf hv hu (.inl rfl)) (by simpa using hfit) (one rfl (.inl rfl))|int kd=>exact yA (qf hv hu (.inr (.inl ⟨kd,rfl⟩))) (by simpa using hfit) (one rfl (.inr (.inl ⟨kd,rfl⟩)))|string=>exact yA (qf hv hu (.inr (.inr (.inl rfl)))) (by simpa using hfit) (one rfl (.inr (.inr (.inl rfl))))|slice e=>exact yA (qf hv hu (.inr (.inr (.inr ⟨e,rfl⟩)))) (by simpa using hfit) (one rfl (.inr (.inr (.inr ⟨e,rfl⟩))))|_=>cases hfit
def yB:∀{l l':List vm}{r r' r'':List fS}{xs ys:List V2},dQ l r=some (xs,r')->dQ l' r'=some (ys,r'')->dQ (l++l') r=some (xs++ys,r'')
 |[],l',r,r',r'',xs,ys,h,h'=>by cases h<;>grind|c::l,l',r,r',r'',xs,ys,h,h'=>by
  simp[dQ]at h;simp[nn,dQ];split at h
  .split at h;.rename_i xs1 r2 h2;cases h;simp only[yB h2 h'];rfl
   grind
  grind
def I5(Qb:R0 P rv){k b:Nat}{ps:List MemPlace}:∀{l:List Bi}{vs:List Value}{ds:List (DataW H)}{qs:List MemPlace},(∀p∈l,Ls P rv k p)->(∀(j:Nat)(p:Bi)v,l[j]?=some p->vs[j]?=some v->Value.okWide P w .any b p.1 v)->DataW.TrodAll enc P w 0 sp held (l.map (·.1)) vs ds qs->(∀q∈qs,q∈ps)->∃(dd:List fS)(aK:List AV)(us:List V2),okD dd/\dd.map (·.t)=kS l/\aC (V1 (U8 w ps)) aK vs/\aC (RV ρ0 0 []) us aK/\(∀rest,dQ (l.map Bi.sh) (dd++rest)=some (us,rest))/\(∀B,(DataW.weightsEach P (l.map (·.1)) ds).all (λb=>decide (b<=B))=true->afn P B l dd)
 |[],vs,ds,qs,_,_,h,_=>by match vs,ds,h with|[],[],_=>exact⟨[],[],[],λd hd=>(by cases hd),rfl,trivial,trivial,λ_=>rfl,λ_ _=>trivial⟩
 |p::l,vs,ds,qs,hp,hv,h,hsub=>by match vs,ds,h with
  |v::vs,d::ds,h=>
   obtain⟨p1,q1,h1,h2,rfl⟩:=h;obtain⟨x,a,u,g1,g2,g3,g4,g4'⟩:=afo Qb (hp p ca) (hv 0 p v rfl rfl) h1 (λq hq=>hsub q (dk _ hq));obtain⟨dd,aK,us,g5,g6,g7,g8,g9,g9'⟩:=I5 Qb (l:=l) (λq hq=>hp q (ci _ hq)) (λj p' v' hj hj'=>hv (j+1) p' v' (by simpa using hj) (by simpa using hj')) h2 (λq hq=>hsub q (dt _ hq));refine⟨flat p.2.2 x++dd,a::aK,u::us,?_,?_,⟨g2,g7⟩,⟨g3,g8⟩,λrest=>?_,λB hw=>?_⟩
   .intro e he;rcases bj.1 he with he|he;.exact I4 _ x g1 e he
    .exact g5 e he
   .simp[kS,yz,g6]
   .rw[bi];exact yB (g4 _) (g9 rest)
   .simp only[f1,DataW.weightsEach,List.all_append,al]at hw;refine⟨⟨x,⟨dd,rfl⟩,g4' B hw.1⟩,?_⟩;have e:(DQ p.2.2).length=(flat p.2.2 x).length:=by rw[<-yz p.2.2 x,lh]
    grind
def Hg{cm:List (Tr bq)}{lv sl ak:Nat}{rv:AV}{b:Bool}(h:gU cm 0 0 lv sl ak rv=some (.d (.sc (.bool b)),[])):rv=.d (.sc (.bool b)):=by cases rv with|d x=>simp only[gU,lH,bE,dT,eJ,and_true]at h;exact h|own els o=>cases o<;>simp[gU,lH,bE,oC]at h|agg cs=>obtain⟨z,_,he⟩:=aJ h<;>grind|fk vs=>simp_all[gU]|ref cy cU gA off len sz=>simp[gU,lH,bE]at h<;>grind|ptr cy=>simp[gU,lH,bE,ml (t6 cy)]at h|dx cy=>simp[gU,lH,bE,ml (t6 cy)]at h|mp=>simp[gU,lH,bE]at h|eZ=>simp[gU,lH,bE]at h|fG f cs=>cases cs<;>simp[gU,lH,bE]at h
def R2{dw:Nat->Option TypeId}{md:Nat->bK.Mode}{Fs:Tb}{f:Nat}(afp:P.follows .mixedOrders=true)(ic:∀f T,dw f=some T->kB P f T)(Fo:Rw P dw md Fs.fs)(hO:cB P Fs.O)(hg:(∀b,M6 b->b<w.heap.size)/\gok w)(Qb:R0 P rv){k b:Nat}{l:List Bi}(hp:∀p∈l,Ls P rv k p){F:(sY (kS l)).den->Option Bool}(U9:ru Fs f ⟨l.map Bi.sh,kS l,[(false,[.bool])],[.bool],0,F⟩)(hF:∀x,ZQ (kS l) x->F x=some true){args:Array Value}{ds:List (DataW H)}{ps:List MemPlace}(hval:∀(j:Nat)(p:Bi)v,l[j]?=some p->args[j]?=some v->Value.okWide P w .any b p.1 v)(hargs:DataW.TrodAll enc P w 0 sp held (l.map (·.1)) args.toList ds ps)(hlt:∀x∈ps,x.block<w.heap.size):Calls P f args w λe w'=>e=.returned (.bool true)/\Below w.heap.size w w':=by
 obtain⟨dd,aK,us,g1,g2,g3,g4,g5,_⟩:=I5 Qb (ps:=ps) hp (λj p v hj hv=>hval j p v hj (by simpa using hv)) hargs (λ_ h=>h);obtain⟨x,hx⟩:∃x,pack (kS l) dd=some x:=g2▸zK dd;have hu:=dN hx;have hok:ZQ (kS l) x:=by unfold ZQ;rw[hu];exact g1
 obtain⟨vs,h1,h2⟩:=U9 x true (hF x hok);simp[hu]at h1;have h5:=g5 [];rw[dq,h1]at h5;cases h5;obtain⟨n0,r,cm,ts,nv,h3,h4⟩:=h2 aK g4;obtain⟨a',h6,h7⟩:=(h4 [(false,[.bool true])] rfl).1 (show(0:Nat)≠65535by decide) (.c (.bool true)) rfl 0 0 0;have ha:a'=.d (.sc (.bool true)):=h7 ρ0 0 [];subst ha;have hr:=Hg h6;subst hr;obtain⟨_,hc⟩:=lU hO afp ic Fo n0 f aK [.lf] .lf 0 _ cm ts nv (h3 n0 (bc _)) (U8 w ps) args (Qc hg ps hlt) (λ_ _=>rfl) g3;refine hc.mono ?_;rintro e w'⟨Y,u,rfl,rfl,hx,hv,_⟩;cases hv;exact⟨rfl,hx.below.toBelow⟩
def Tq{B:Nat}{dw:Nat->Option TypeId}{md:Nat->bK.Mode}{Fs:Tb}{f:Nat}(afp:P.follows .mixedOrders=true)(ic:∀f T,dw f=some T->kB P f T)(Fo:Rw P dw md Fs.fs)(hO:cB P Fs.O)(hg:(∀b,M6 b->b<w.heap.size)/\gok w)(Qb:R0 P rv){k b:Nat}{l:List Bi}(hp:∀p∈l,Ls P rv k p){F:(sY (kS l)).den->Option Bool}(U9:ru Fs f ⟨l.map Bi.sh,kS l,[(false,[.bool])],[.bool],0,F⟩)(hF:∀x,ZQ (kS l) x->ake P B l x->F x=some true){args:Array Value}{ds:List (DataW H)}{ps:List MemPlace}(hval:∀(j:Nat)(p:Bi)v,l[j]?=some p->args[j]?=some v->Value.okWide P w .any b p.1 v)(hargs:DataW.TrodAll enc P w 0 sp held (l.map (·.1)) args.toList ds ps)(hlt:∀x∈ps,x.block<w.heap.size)(hwt:(DataW.weightsEach P (l.map (·.1)) ds).all (λb=>decide (b<=B))=true):Calls P f args w λe w'=>e=.returned (.bool true)/\Below w.heap.size w w':=by
 obtain⟨dd,aK,us,g1,g2,g3,g4,g5,g6⟩:=I5 Qb (ps:=ps) hp (λj p v hj hv=>hval j p v hj (by simpa using hv)) hargs (λ_ h=>h);obtain⟨x,hx⟩:∃x,pack (kS l) dd=some x:=g2▸zK dd;have hu:=dN hx;have hok:ZQ (kS l) x:=by unfold ZQ;rw[hu];exact g1
 obtain⟨vs,h1,h2⟩:=U9 x true (hF x hok (by unfold ake;rw[hu];exact g6 B hwt));simp[hu]at h1;have h5:=g5 [];rw[dq,h1]at h5;cases h5;obtain⟨n0,r,cm,ts,nv,h3,h4⟩:=h2 aK g4;obtain⟨a',h6,h7⟩:=(h4 [(false,[.bool true])] rfl).1 (show(0:Nat)≠65535by decide) (.c (.bool true)) rfl 0 0 0;have ha:a'=.d (.sc (.bool true)):=h7 ρ0 0 [];subst ha;have hr:=Hg h6;subst hr;obtain⟨_,hc⟩:=lU hO afp ic Fo n0 f aK [.lf] .lf 0 _ cm ts nv (h3 n0 (bc _)) (U8 w ps) args (Qc hg ps hlt) (λ_ _=>rfl) g3;refine hc.mono ?_;rintro e w'⟨Y,u,rfl,rfl,hx,hv,_⟩;cases hv;exact⟨rfl,hx.below.toBelow⟩
def Hh(hl:laidOutB P=true){W W':World}(hb:Below W.heap.size W W'):∀{ts:List TypeId}{vs:List Value}{ds:List (DataW H)}{ps:List MemPlace},(ts.all λt=>P.readableRec t&&decide (t<P.types.size))=true->DataW.TrodAll enc P W 0 (λ_=>true) true ts vs ds ps->(∀x∈ps,x.block<W.heap.size)->DataW.TrodAll enc P W' 0 (λb=>decide (b<W.heap.size)) true ts vs ds ps
 |[],vs,ds,ps,_,h,_=>by match vs,ds,h with|[],[],h=>exact h
 |t::ts,vs,ds,ps,ht,h,hlt=>by match vs,ds,h with|v::vs,d::ds,h=>obtain⟨p,q,h1,h2,rfl⟩:=h;rw[dv,al,al]at ht;exact⟨p,q,Below.trod hl ht.1.1 (du ht.1.2) h1 hb (λx hx=>hlt x (dk _ hx)),Hh hl hb ht.2 h2 (λx hx=>hlt x (dt _ hx)),rfl⟩
end
end Go.Sym
namespace Go.Sym
open Go Go.bK
def Hi:Nat:=400
def ah.base(bP:Nat->Option qu)(Kv Un:Nat->Nat->Option bt)(NL:Nat->Nat->Option (Nat×Ty))(unr:Nat->Nat->Bool)(PK:Nat->Nat->Option Ty):ah:={fns:=bP,ye:=λ_=>none,loops:=λ_ _ _=>none,Kv,Un,NL,unr,PK}
def ah.pG(E:ah)(f:Nat)(c:Callee):ah:={E with ye:=λg=>match Nat.beq g f with|true=>some c|false=>E.ye g}
def ah.aa(E:ah)(N ctx i:Nat)(T:bw)(outs:bt):ah:={E with loops:=λctx' i' c=>match Nat.beq ctx' ctx&&Nat.beq i' i with|true=>some ⟨T,outs,PM (Dm E Hi ctx i c T outs) N⟩|false=>E.loops ctx' i' c}
def aa9(bP:Tb)(Kv Un:Nat->Nat->Option bt)(NL:Nat->Nat->Option (Nat×Ty))(unr:Nat->Nat->Bool)(PK:Nat->Nat->Option Ty):az bP (ah.base bP Kv Un NL unr PK):=⟨rfl,λ_ _ h=>(by cases h),λ_ _ _ _ h=>(by cases h)⟩
def az.pG{bP:Tb}{E:ah}(h:az bP E){f:Nat}{c:Callee}(hc:ru bP f c):az bP (E.pG f c):=by
 refine⟨h.fns,λg d hd=>?_,h.loops⟩;simp only[ah.pG]at hd;split at hd;.rename_i he;rw[am he];injection hd with hd;subst hd;exact hc
 .exact h.ye g d hd
def az.aa{bP:Tb}{E:ah}(h:az bP E)(N ctx i:Nat)(T:bw)(outs:bt):az bP (E.aa N ctx i T outs):=by
 refine⟨h.fns,h.ye,λctx' i' c L hL=>?_⟩;simp only[ah.aa]at hL;split at hL;.injection hL with hL;subst hL;exact Qa h Hi ctx i c T outs N
 .exact h.loops ctx' i' c L hL
def ru.plain{Fs:Tb}{f:Nat}{args:List vm}{ta tr:List Ty}{res:List (Bool×List ig)}{rk:Nat}{F G:(sY ta).den->Option (sY tr).den}(h:ru Fs f ⟨args,ta,res,tr,rk,F⟩)(e:G=F):ru Fs f ⟨args,ta,res,tr,rk,G⟩:=by subst e;exact h
def Dp:List (Nat×qu)->Nat->Option qu|[],_=>none|(g,fn)::r,f=>match Nat.beq g f with|true=>some fn|false=>Dp r f
inductive yg(P:Program)(dw:Nat->Option TypeId)(md:Nat->bK.Mode):List (Nat×qu)->Prop where|nil:yg P dw md []|cons{g:Nat}{fn:qu}{r:List (Nat×qu)}:QW P dw md g=some fn->yg P dw md r->yg P dw md ((g,fn)::r)
def Uv{P:Program}{dw:Nat->Option TypeId}{md:Nat->bK.Mode}{l:List (Nat×qu)}(h:yg P dw md l):∀f fn,Dp l f=some fn->QW P dw md f=some fn:=by induction h with|nil=>intro f fn h;cases h|@cons g fn' r h1 _ ih=>
 intro f fn h;simp only[Dp]at h;split at h;.rename_i hb;have e:=am hb;subst e;injection h with h;subst h;exact h1
 .exact ih f fn h
def fixF{α β:Type}(step:Nat->(α->Option β)->α->Option β):Nat->α->Option β|0,_=>none|n+1,x=>step n (fixF step n) x
def wL(t:Nat):AC->Nat->Option AC
 |.seq a b,i=>match Nat.blt t (i+wD a)with|true=>wL t a i|false=>wL t b (i+wD a)
 |.cond _ a b,i=>match Nat.blt t (i+1+wD a)with|true=>wL t a (i+1)|false=>wL t b (i+1+wD a)
 |.block _ c,i=>wL t c (i+1)|.loop c,i=>match Nat.beq t i with|true=>some c|false=>wL t c (i+1)
 |_,_=>none
def afq(fn:qu)(t:Nat):AC:=(wL t fn.body 0).getD .skip
def ig.tys:ig->List Ty|.int k=>[.int k]|.bool=>[.bool]|.er=>[.bool]|.str=>[.str]|.sl t _=>[.sl t]|.eZ t _=>[t]|_=>[]
def ig.J7:ig->ig|.sl t _=>.sl t .bG|c=>c
def cT(T:Ty):List ig:=(bn T).map ig.J7
def vm.tys:vm->List Ty|.c x=>x.tys|.agg l=>l.flatMap ig.tys|.box l=>l.flatMap ig.tys|.fG _=>[]
def tA.tys:tA->List Ty|.c x=>x.tys|.agg l=>l.flatMap ig.tys|.fG _ l=>l.flatMap ig.tys
def PJ.tys:PJ->List Ty|.row _ t=>[.sl t]|.box _ l=>l.flatMap ig.tys|.set _=>[.sl .str]
def akf(l:List (Nat×tA)):List Ty:=l.flatMap λx=>x.2.tys
def tm(slots:List (Nat×tA))(outer:List (List (Nat×tA)))(mem:List (Nat×Nat×PJ))(lvs:Nat)(aI:List Nat)(nv:Nat):bw:=⟨slots,outer,mem,lvs,aI,nv,akf slots++(outer.flatMap akf++mem.flatMap λx=>x.2.2.tys)⟩
abbrev tmn(l:List (Nat×tA)):bw:=tm l [] [] 1 [] 0
abbrev tmv(l:List (Nat×tA))(a b:Nat):bw:=tm l [] [] 1 [a] b
abbrev tmz:bw:=tmn []
abbrev tmr(l:List (Nat×tA)):AX×bw:=(.ret,tmn l)
abbrev tmx:AX×bw:=(.exit 0,tmz)
abbrev tmI:=List Int
abbrev tmf(l:List ig):Bool×List ig:=(false,l)
structure bV where
 a:List vm
 r:List (Bool×List ig)k:Nat
 b:List (Nat×Nat×Nat×Ty)u:List (Nat×Nat)e:List (Nat×Nat×Ty)c:List (Nat×Nat×bt)
abbrev sg(a:List vm)(r:List (Bool×List ig)):bV:=⟨a,r,0,[],[],[],[]⟩
def bV.ta(s:bV):List Ty:=s.a.flatMap vm.tys
def bV.tr(s:bV):List Ty:=s.r.flatMap λx=>x.2.flatMap ig.tys
def bV.ye(s:bV)(F:(sY s.ta).den->Option (sY s.tr).den):Callee:=⟨s.a,s.ta,s.r,s.tr,s.k,F⟩
def lk{β:Type}:List (Nat×Nat×β)->Nat->Nat->Option β|[],_,_=>none|(a,b,x)::r,c,i=>match Nat.beq a c&&Nat.beq b i with|true=>some x|false=>lk r c i
def lkU:List (Nat×Nat)->Nat->Nat->Bool|[],_,_=>false|(a,b)::r,c,i=>Nat.beq a c&&Nat.beq b i||lkU r c i
def ah.on(E:ah)(s:bV):ah:={E with Kv:=lk s.c,NL:=lk s.b,unr:=lkU s.u,PK:=lk s.e}
def ah.fn(E:ah)(f:Nat)(s:bV):(sY s.ta).den->Option (sY s.tr).den:=ac6 E Hi f s.a s.ta s.r s.tr s.k
def ah.put(E:ah)(f:Nat)(s:bV)(F:(sY s.ta).den->Option (sY s.tr).den):ah:=E.pG f (s.ye F)
def az.on{bP:Tb}{E:ah}(h:az bP E)(s:bV):az bP (E.on s):=⟨h.fns,h.ye,h.loops⟩
def az.put{bP:Tb}{E E':ah}(h:az bP E)(h':az bP E')(f:Nat)(s:bV)(F:(sY s.ta).den->Option (sY s.tr).den)(e:F=E'.fn f s):az bP (E.put f s F):=h.pG ((adg h' Hi f s.a s.ta s.r s.tr s.k).plain e)
def lp(E:ah)(c i:Nat)(fn:qu)(t:Nat)(T:bw)(O:bt):Nat->(sY T.tys).den->Option (qa O).den:=PM (Dm E Hi c i (afq fn t) T O)
def BZ:List Nat->Nat->Bool|[],_=>false|a::r,f=>Nat.beq a f||BZ r f
def zL(l:List Nat)(tq:Nat->qu)(f:Nat):Option qu:=match BZ l f with|true=>some (tq f)|false=>none
def afr{P:Program}{dw:Nat->Option TypeId}{md:Nat->bK.Mode}{tq:Nat->qu}{l:List Nat}(hq:∀f,tq f=(Fe P dw md f).getD default)(h:l.all (λf=>(Fe P dw md f).isSome)=true):∀f fn,zL l tq f=some fn->Fe P dw md f=some fn:=by
 have key:∀l:List Nat,l.all (λf=>(Fe P dw md f).isSome)=true->∀f,BZ l f=true->(Fe P dw md f).isSome=true:=by intro l h f hm;induction l with|nil=>cases hm|cons a r ih=>
  simp only[dv,al]at h;simp only[BZ,gc]at hm;rcases hm with hm|hm;.rw[<-am hm];exact h.1
  .exact ih h.2 hm
 intro f fn hf;unfold zL at hf;split at hf;.rename_i hm;have:=key l h f hm;injection hf with hf;subst hf;rw[hq];cases he:Fe P dw md f with|none=>rw[he]at this;cases this|some x=>rfl
 .cases hf
def Lt(P:Program)(dw:Nat->Option TypeId)(md:Nat->bK.Mode)(l:List Nat)(f:Nat):Bool:=match KF P dw md f with|some d=>BZ l d.g|none=>true
def Qg{P:Program}{dw:Nat->Option TypeId}{md:Nat->bK.Mode}{tq:Nat->qu}{l:List Nat}(hq:∀f,tq f=(Fe P dw md f).getD default)(h:l.all (λf=>(Fe P dw md f).isSome)=true)(hd:l.all (Lt P dw md l)=true):Rw P dw md (zL l tq):=by
 refine⟨afr hq h,λf d hf hdf=>?_⟩;have hm:BZ l f=true:=by
  unfold zL at hf;split at hf;.rename_i hm;exact hm
  .cases hf
 have key:∀r:List Nat,(r.all (Lt P dw md l)=true)->BZ r f=true->BZ l d.g=true:=by intro r h hm;induction r with|nil=>cases hm|cons a r ih=>
   simp only[dv,al]at h;simp only[BZ,gc]at hm;rcases hm with hm|hm;.have:=h.1;unfold Lt at this;rw[am hm,hdf]at this;exact this
   .exact ih h.2 hm
 simp[zL,key l hd hm]
abbrev ZR(a:Int):Int:=IntKind.u8.wrap a
abbrev aAd(a:Int):Int:=IntKind.u16.wrap a
abbrev aAe(a:Int):Int:=IntKind.u32.wrap a
abbrev aR(a:Int):Int:=IntKind.u64.wrap a
abbrev wi8(a:Int):Int:=IntKind.i8.wrap a
abbrev aAf(a:Int):Int:=IntKind.i16.wrap a
abbrev aAg(a:Int):Int:=IntKind.i32.wrap a
abbrev av(a:Int):Int:=IntKind.i64.wrap a
def vF(k:IntKind)(a b:Int):Int:=k.wrap (BitVec.ofInt k.bits a&&&BitVec.ofInt k.bits b).toNat
def DS(k:IntKind)(a b:Int):Int:=k.wrap (BitVec.ofInt k.bits a|||BitVec.ofInt k.bits b).toNat
def aba(k:IntKind)(a b:Int):Int:=k.wrap (BitVec.ofInt k.bits a^^^BitVec.ofInt k.bits b).toNat
def qg(k:IntKind)(a b:Int):Int:=k.wrap (BitVec.ofInt k.bits a&&&~~~(BitVec.ofInt k.bits b)).toNat
def Va{d:fS}{r:List fS}:okD (d::r)↔d.t.ok d.v/\okD r:=by simp[okD]
def Bj{H:Type}{enc:TypeId×Value->H}{P:Program}{w:World}{base:Nat}{sp:Nat->Bool}{held:Bool}:∀{ts:List TypeId}{vs:List Value}{ds:List (DataW H)}{ps:List MemPlace},DataW.TrodAll enc P w base sp held ts vs ds ps->ds.length=ts.length|[],[],[],_,_=>rfl|_::_,_::_,_::_,_,h=>by obtain⟨p,q,_,h2,_⟩:=h;simp[Bj h2]|[],_::_,_,_,h=>h.elim|[],[],_::_,_,h=>h.elim|_::_,[],_,_,h=>h.elim|_::_,_::_,[],_,h=>h.elim
def abb(P:Program):R0 P none:=λ_ h=>by cases h
def abc{P:Program}{W:World}{b:Nat}{args:Array Value}{params:Array TypeId}{l:List Bi}(hp:params=(l.map (·.1)).toArray)(h:∀(j:Nat)t v,params[j]?=some t->args[j]?=some v->Value.okWide P W .any b t v):∀(j:Nat)(p:Bi)v,l[j]?=some p->args[j]?=some v->Value.okWide P W .any b p.1 v:=λj p v hj hv=>h j p.1 v (by grind) hv
end Go.Sym
namespace Go.Proofs
open Go.Shelf
def Tryz.Lu:Go.Shelf.Ren:=⟨λ|189=>367|125=>377|257=>376|128=>388|129=>389|294=>379|295=>380|296=>381|297=>382|298=>383|299=>384|216=>385|300=>386|301=>387|328=>390|329=>391|330=>392|331=>393|332=>394|215=>395|343=>396|n=>n,λ|28=>40|3=>3|46=>210|0=>0|51=>464|53=>29|4=>4|183=>458|182=>457|131=>287|5=>5|9=>9|218=>466|222=>470|228=>472|229=>151|n=>n,λ|n=>n⟩
def Tryz.abd:Go.Proofs.Lays.n189 Tryz.prog Tryz.Lu:={
 mixed:=by kernel_rfl
 f125:=Tryz.func377.trans (kv some (by kernel_rfl))
 f128:=Tryz.func388.trans (kv some (by kernel_rfl))
 f129:=Tryz.func389.trans (kv some (by kernel_rfl))
 f189:=Tryz.func367.trans (kv some (by kernel_rfl))
 f215:=Tryz.func395.trans (kv some (by kernel_rfl))
 f216:=Tryz.func385.trans (kv some (by kernel_rfl))
 f257:=Tryz.func376.trans (kv some (by kernel_rfl))
 f294:=Tryz.func379.trans (kv some (by kernel_rfl))
 f295:=Tryz.func380.trans (kv some (by kernel_rfl))
 f296:=Tryz.func381.trans (kv some (by kernel_rfl))
 f297:=Tryz.func382.trans (kv some (by kernel_rfl))
 f298:=Tryz.func383.trans (kv some (by kernel_rfl))
 f299:=Tryz.func384.trans (kv some (by kernel_rfl))
 f300:=Tryz.func386.trans (kv some (by kernel_rfl))
 f301:=Tryz.func387.trans (kv some (by kernel_rfl))
 f328:=Tryz.func390.trans (kv some (by kernel_rfl))
 f329:=Tryz.func391.trans (kv some (by kernel_rfl))
 f330:=Tryz.func392.trans (kv some (by kernel_rfl))
 f331:=Tryz.func393.trans (kv some (by kernel_rfl))
 f332:=Tryz.func394.trans (kv some (by kernel_rfl))
 f343:=Tryz.func396.trans (kv some (by kernel_rfl))
 t0:=Tryz.underlying0
 a0:=Tryz.isAgg0
 z0:=Tryz.sizeOf0
 v0:=Tryz.zeroValue0
 t3:=Tryz.underlying3
 a3:=Tryz.isAgg3
 z3:=Tryz.sizeOf3
 v3:=Tryz.zeroValue3
 t4:=Tryz.underlying4
 a4:=Tryz.isAgg4
 z4:=Tryz.sizeOf4
 v4:=Tryz.zeroValue4
 t5:=Tryz.underlying5
 a5:=Tryz.isAgg5
 z5:=Tryz.sizeOf5
 v5:=Tryz.zeroValue5
 t9:=Tryz.underlying9
 a9:=Tryz.isAgg9
 z9:=Tryz.sizeOf9
 v9:=Tryz.zeroValue9
 t28:=Tryz.underlying40
 a28:=Tryz.isAgg40
 z28:=Tryz.sizeOf40
 v28:=Tryz.zeroValue40
 t46:=Tryz.underlying210
 a46:=Tryz.isAgg210
 z46:=Tryz.sizeOf210
 v46:=Tryz.zeroValue210
 t51:=Tryz.underlying464
 a51:=Tryz.isAgg464
 z51:=Tryz.sizeOf464
 v51:=Tryz.zeroValue464
 t53:=Tryz.underlying29
 a53:=Tryz.isAgg29
 z53:=Tryz.sizeOf29
 v53:=Tryz.zeroValue29
 t131:=Tryz.underlying287
 a131:=Tryz.isAgg287
 z131:=Tryz.sizeOf287
 v131:=Tryz.zeroValue287
 t182:=Tryz.underlying457
 a182:=Tryz.isAgg457
 z182:=Tryz.sizeOf457
 v182:=Tryz.zeroValue457
 t183:=Tryz.underlying458
 a183:=Tryz.isAgg458
 z183:=Tryz.sizeOf458
 v183:=Tryz.zeroValue458
 t218:=Tryz.underlying466
 a218:=Tryz.isAgg466
 z218:=Tryz.sizeOf466
 v218:=Tryz.zeroValue466
 t222:=Tryz.underlying470
 a222:=Tryz.isAgg470
 z222:=Tryz.sizeOf470
 v222:=Tryz.zeroValue470
 t228:=Tryz.underlying472
 a228:=Tryz.isAgg472
 z228:=Tryz.sizeOf472
 v228:=Tryz.zeroValue472
 t229:=Tryz.underlying151
 a229:=Tryz.isAgg151
 z229:=Tryz.sizeOf151
 v229:=Tryz.zeroValue151}
def Tryz.Ob:Go.Shelf.Ren:=⟨λ|20=>368|n=>n,λ|22=>40|3=>3|4=>4|0=>0|n=>n,λ|n=>n⟩
def Tryz.afs:Go.Proofs.Lays2.n20 Tryz.prog Tryz.Ob:={
 mixed:=by kernel_rfl
 f20:=Tryz.func368.trans (kv some (by kernel_rfl))
 t0:=Tryz.underlying0
 a0:=Tryz.isAgg0
 z0:=Tryz.sizeOf0
 v0:=Tryz.zeroValue0
 t3:=Tryz.underlying3
 a3:=Tryz.isAgg3
 z3:=Tryz.sizeOf3
 v3:=Tryz.zeroValue3
 t4:=Tryz.underlying4
 a4:=Tryz.isAgg4
 z4:=Tryz.sizeOf4
 v4:=Tryz.zeroValue4
 t22:=Tryz.underlying40
 a22:=Tryz.isAgg40
 z22:=Tryz.sizeOf40
 v22:=Tryz.zeroValue40
 i3:=by kernel_rfl}
end Go.Proofs
namespace Go.Sym
open Go Go.bK
noncomputable section
def Vb(sz:Nat):qu:=⟨1,9,[.t 2],(.seq (.region [⟨(some 2),.JI (.c (.own [] .full)),none,0,0⟩] false) (.seq (.region [⟨(some 3),.JI (.t 0),none,0,0⟩,⟨(some 4),.JI (.t 0),none,0,0⟩,⟨(some 5),.len (.t 4),none,0,0⟩,⟨(some 6),.JI (.t 0),none,0,0⟩,⟨(some 7),.len (.t 6),none,0,0⟩,⟨(some 8),.slice sz (.t 3) none (some (.t 5)) (some (.t 7)),none,0,0⟩,⟨(some 2),.JI (.t 8),none,0,0⟩] false) .ret)),false⟩
def afu(a:AV)(n:Nat):St:={slots:=n9 (n9 (n9 (n9 (n9 (n9 (eA 0 [a] .lf) (some 2) (.own [] .full)) (some 3) a) (some 4) a) (some 5) (qK n)) (some 6) a) (some 7) (qK n),mem:=[.lf],aI:=.lf,nv:=8}
def akg(a:AV)(n:Nat)(call:bK.Call)(sh:Nat->Bool)(o:Option AV):Option (AV×List (Tr bq)×Tr Unit×Nat):=match(match Option.map (λs'=>(AX.normal,s')) (match o.bind fD.pure with|none=>none|some e=>jA call sh 1 6 [⟨(some 2),.JI (.t 8),none,0,0⟩] ((afu a n).app (some 8) e))with|some (.normal,s')=>exec call sh 47 .ret s'|r=>r)with|some (.normal,s)|some (.ret,s)=>(kf s [.t 2]).map λvs=>(jt vs,s.mem,s.aI,s.nv)|_=>none
def zM{T:Tb}{f:Nat}{fn:qu}(hf:T.fs f=some fn)(n:Nat)(args:List AV)(mem:List (Tr bq))(aI:Tr Unit)(nv:Nat):fX T (n+1) f args mem aI nv=(match Nat.beq args.length fn.np with|false=>none|true=>match exec (fX T n) (λg=>((T.fs g).map (·.sh)).getD false) n fn.body {slots:=eA 0 args .lf,mem,aI,nv}with|some (.normal,s)|some (.ret,s)=>(kf s fn.res).map λvs=>(jt vs,s.mem,s.aI,s.nv)|_=>none):=by simp[fX,hf];rfl
def Vc{T:Tb}{f sz:Nat}(hf:T.fs f=some (Vb sz))(els:List (List D))(a:AV)(hs:els.all (λe=>e.length==sz)=true)(h:a=.d (.sl els)\/∃o,o≠.bG/\a=.own els o):∃cm ts nv,fX T 50 f [a] [.lf] .lf 0=some (.own els .full,cm,ts,nv):=by
 have go:∀a:AV,fX T 50 f [a] [.lf] .lf 0=akg a els.length (fX T 49) (λg=>((T.fs g).map (·.sh)).getD false) (fV sz a 0 (some els.length) (some els.length))->fV sz a 0 (some els.length) (some els.length)=some (.own els .full)->∃cm ts nv,fX T 50 f [a] [.lf] .lf 0=some (.own els .full,cm,ts,nv):=by intro a h1 h2;rw[h2]at h1;exact⟨_,_,_,h1⟩
 rcases h with rfl|⟨o,ho,rfl⟩;.refine go _ ?_ (by simp[fV,hs]);rw[show(50:Nat)=49+1from rfl,zM hf];kernel_rfl
 .cases o with|bG=>exact absurd rfl ho|full=>refine go _ ?_ (by simp[fV,hs]);rw[show(50:Nat)=49+1from rfl,zM hf];kernel_rfl|cR=>refine go _ ?_ (by simp[fV,hs]);rw[show(50:Nat)=49+1from rfl,zM hf];kernel_rfl
def Ce(t:Ty):Callee:=⟨[.c (.sl t .d)],[.sl t],[(false,[.sl t .full])],[.sl t],65535,λl=>some l⟩
def Oc{T:Tb}{f:Nat}{t:Ty}(hf:T.fs f=some (Vb t.size)):ru T f (Ce t):=by refineλl y hy=>⟨[.c (.sl t l .d)],rfl,λxs has=>?_⟩;cases hy;match xs,has with
 |[a],ha=>
  obtain⟨cm,ts,nv,hr⟩:=Vc hf (bD t l) a (ir t l) ha.1;refine⟨50,_,cm,ts,nv,λm hm=>IL 50 m hm _ _ _ _ _ _ hr,λws yj=>⟨λh=>absurd rfl h,λrow lv sl ak p Ff us w _ He _ hp _ hw=>?_⟩⟩;have:ws=[(false,[.sl t l .full])]:=by have:nR (Ce t).res (unpack (Ce t).tr l)=some ([(false,[.sl t l .full])],[]):=rfl<;>grind
  subst this;cases hp;have hw:w=.c (.sl t l .full):=by cases hw;grind
  subst hw;have He:row%65536=65535:=He;refine⟨.own (bD t l) .full,?_,λ_ _ _ _=>rfl⟩;simp only[gU,lH,bE,He,gg,show Nat.beq 1 65535=false from rfl,show Nat.beq 65535 65535=true from rfl,wl];rfl
end
def Od:Callee:=⟨[],[],[(false,[.bool])],[.bool],0,λ_=>some true⟩
def R3{Fs:Tb}{n f:Nat}(h:(fX Fs n f [] [.lf] .lf 0).map (·.1)=some (.d (.sc (.bool true)))):ru Fs f Od:=by
 intro a y hy;have hy:y=true:=by cases hy;grind
 cases hr:fX Fs n f [] [.lf] .lf 0with|none=>grind|some x=>
  obtain⟨r,cm,ts,nv⟩:=x;have he:r=.d (.sc (.bool true)):=by simp_all
  subst he;refine⟨[],rfl,λaK has=>?_⟩;cases aK with|cons b bs=>exact has.elim|nil=>
   refine⟨n,_,cm,ts,nv,λm hm=>IL n m hm _ _ _ _ _ _ hr,λws yj=>?_⟩;have yj:ws=[(false,[.bool true])]:=by cases yj;simp_all
   subst yj;refine⟨λ_ w hw lv sl aP=>⟨.d (.sc (.bool true)),rfl,λρ B m=>?_⟩,λ_ _ _ _ _ _ _ _ h0=>absurd rfl h0⟩;have hw:w=.c (.bool true):=by cases hw;grind
   subst hw;rfl
end Go.Sym
namespace Go.Proofs.YtclkonemhghbkaaGreat
open Go Go.bK Go.Sym
def md:Nat->bK.Mode:=λf=>match f with|28=>⟨[(50,1)],true⟩|183=>⟨[(2,65540),(19,1),(3,65540),(12,1)],false⟩|180=>⟨[(2,65540),(5,65537)],false⟩|182=>⟨[(6,65537)],false⟩|181=>⟨[(7,65537)],false⟩|186=>⟨[(9,65537)],false⟩|117=>⟨[(13,65537)],false⟩|136=>⟨[(10,1)],false⟩|138=>⟨[(27,1),(24,1)],false⟩|139=>⟨[(20,1)],false⟩|97=>⟨[(11,458755)],false⟩|74=>⟨[(19,10)],false⟩|191=>⟨[(8,1),(5,1)],false⟩|121=>⟨[(9,65538),(19,1)],false⟩|78=>⟨[(35,65538)],false⟩|42=>⟨[(18,65538)],false⟩|58=>⟨[(26,1)],false⟩|101=>⟨[],true⟩|64=>⟨[],true⟩|307=>⟨[(27,2),(44,2),(65,2),(104,2)],false⟩|308=>⟨[(3,6),(17,1)],false⟩|224=>⟨[(13,1)],false⟩|223=>⟨[(9,1)],false⟩|371=>⟨[],true⟩|378=>⟨[],true⟩|370=>⟨[],true⟩|346=>⟨[],true⟩|353=>⟨[(6,1480982533)],true⟩|292=>⟨[(2,65540)],false⟩|204=>⟨[],true⟩|205=>⟨[],true⟩|291=>⟨[],true⟩|203=>⟨[],true⟩|295=>⟨[(20,65537)],false⟩|206=>⟨[],true⟩|268=>⟨[],true⟩|342=>⟨[(28,1)],false⟩|267=>⟨[(24,3),(40,1),(10,1)],true⟩|192=>⟨[(13,1)],false⟩|197=>⟨[(2,65540),(38,1)],false⟩|193=>⟨[(13,65537)],false⟩|274=>⟨[(6,2)],true⟩|273=>⟨[],true⟩|276=>⟨[(6,2)],true⟩|277=>⟨[(11,2)],false⟩|344=>⟨[(6,2)],true⟩|194=>⟨[(37,2),(86,2),(119,2),(126,2),(133,2),(139,2),(152,2),(165,2),(182,2),(218,2)],false⟩|280=>⟨[(19,131071)],false⟩|195=>⟨[(45,3),(105,1),(28,1),(25,1),(91,1),(31,1)],false⟩|285=>⟨[],true⟩|196=>⟨[(74,1),(39,1)],false⟩|86=>⟨[],true⟩|200=>⟨[(22,1)],false⟩|127=>⟨[(42,65538)],false⟩|128=>⟨[(37,1)],false⟩|209=>⟨[],true⟩|208=>⟨[],true⟩|_=>⟨[],false⟩
def dw:Nat->Option TypeId:=λf=>match f with|32=>some 30|33=>some 33|34=>some 34|367=>some 1000000|368=>some 1000001|_=>none
def abe:List Nat:=[95,62,28,341,262,263,260,340,261,178,100,142,99,220,221,298,212,264,179,116,183,180,182,181,184,265,185,186,117,73,135,213,136,140,299,214,300,301,302,303,304,305,215,137,306,217,61,141,216,138,218,219,139,96,97,187,188,189,118,74,38,16,41,18,119,190,120,191,121,78,42,20,98,58,21,354,101,64,372,355,351,307,308,222,224,223,239,163,371,378,370,352,346,347,348,349,350,287,288,286,289,296,207,290,202,353,292,204,205,291,203,293,294,295,206,129,91,266,268,342,267,192,197,269,270,271,193,272,369,343,275,274,273,276,277,278,344,279,194,345,155,283,280,281,282,195,284,285,196,198,122,123,83,46,63,65,30,84,47,124,125,126,85,48,86,87,199,297,210,200,127,201,132,128,88,49,89,50,90,92,143,130,209,208,131,93,211,133,134,94,51,24,25,8,75,39,17,76,77,40,19,22,43,79,44,80,81,82,45,23,6,37,15,5,7,3]
@[irreducible]noncomputable def tq(f:Nat):qu:=(Fe Tryz.prog dw md f).getD default
noncomputable def tmq(E:ah)(i f:Nat)(T:bw)(O:bt):Nat->(sY T.tys).den->Option (qa O).den:=lp E 0 i (tq f) i T O
noncomputable def afv:Nat->Option qu:=zL abe tq
noncomputable def bP(A:Go.bK.Call):Tb:=⟨afv,A⟩
def akh(f:Nat):tq f=(Fe Tryz.prog dw md f).getD default:=by kernel_rfl
set_option maxRecDepth 100000in theorem abf:abe.all (λf=>(Fe Tryz.prog dw md f).isSome)=true:=by kernel_rfl
set_option maxRecDepth 100000in theorem abg:abe.all (Lt Tryz.prog dw md abe)=true:=by kernel_rfl
def adj:Rw Tryz.prog dw md afv:=Qg akh abf abg
def abh:kB Tryz.prog 32 30:=⟨λ_ _=>⟨_,Tryz.func32,by kernel_rfl,by kernel_rfl,by kernel_rfl,by kernel_rfl⟩,λh=>absurd h (by decide),λh=>absurd h (by decide)⟩
def abi:kB Tryz.prog 33 33:=⟨λ_ _=>⟨_,Tryz.func33,by kernel_rfl,by kernel_rfl,by kernel_rfl,by kernel_rfl⟩,λh=>absurd h (by decide),λh=>absurd h (by decide)⟩
def abj:kB Tryz.prog 34 34:=⟨λ_ _=>⟨_,Tryz.func34,by kernel_rfl,by kernel_rfl,by kernel_rfl,by kernel_rfl⟩,λh=>absurd h (by decide),λh=>absurd h (by decide)⟩
def Vd:kB Tryz.prog 367 1000000:=⟨λh=>absurd rfl h,λ_=>Q9 Tryz.abd ⟨_,Tryz.func367,by kernel_rfl,by kernel_rfl⟩,λh=>absurd h (by decide)⟩
def Ve:kB Tryz.prog 368 1000001:=⟨λ_ h=>absurd rfl h,λh=>absurd h (by decide),λ_=>Ih Tryz.afs ⟨_,Tryz.func368,by kernel_rfl,by kernel_rfl⟩⟩
def Bk:∀f T,dw f=some T->kB Tryz.prog f T:=by
 intro f T h;unfold dw at h;split at h;.injection h with h;subst h;exact abh
 .injection h with h;subst h;exact abi
 .injection h with h;subst h;exact abj
 .injection h with h;subst h;exact Vd
 .injection h with h;subst h;exact Ve
 .cases h
end Go.Proofs.YtclkonemhghbkaaGreat
