/- A part of the proof: SymL, SymM. -/
import Derived.Test.YtgkllgjmfpjeoaaGreatDoorSymK
import Derived.Test.YtgkllgjmfpjeoaaGreatDoorSymB
import Derived.RowKit
import Derived.Carry
import Derived.ChangeOld
set_option linter.unusedVariables false
set_option linter.unusedSimpArgs false
namespace Go.Sym
open Go Go.bJ Go.RowKit
mutual def pX.ok:pX->Prop|.mk k i s l _=>(IntKind.u8.min<=k/\k<=IntKind.u8.max)/\(IntKind.i64.min<=i/\i<=IntKind.i64.max)/\s.length<=maxLen/\l.length<=maxLen/\pX.oks l def pX.oks:List pX->Prop|[]=>True|v::r=>pX.ok v/\pX.oks r end
def Ty.ok:(t:Ty)->t.den->Prop|.val,v=>pX.ok v|.int k,a=>k.min<=a/\a<=k.max|.bool,_=>True|.str,s=>s.length<=maxLen|.sl t,l=>l.length<=maxLen/\∀x∈l,Ty.ok t x|.unit,_=>True|.prod a b,x=>Ty.ok a x.1/\Ty.ok b x.2|.sum a b,x=>match x with|.inl y=>Ty.ok a y|.inr y=>Ty.ok b y
theorem pX.FV:∀{l:List pX},pX.oks l↔∀v∈l,pX.ok v|[]=>by simp[pX.oks]|v::r=>by simp[pX.oks,pX.FV (l:=r)]
mutual def Wc(P:Program)(rv:Option TypeId):Nat->TypeId->Option Ty|0,_=>none|n+1,t=>if rv=some t then some .val else match P.underlying t with
 |some .bool=>some .bool|some (.int k)=>some (.int k)|some .string=>some .str|some (.slice e)=>match Wc P rv n e with|some T=>if 0<P.cellsOf e/\T.size=P.cellsOf e then some (.sl T)else none|none=>none
 |some (.struct fs)=>match tyF P rv n 0 fs.toList with|some (Ts,k)=>if k=P.cellsOf t then some (qQ Ts)else none|none=>none
 |some (.array m e)=>match Wc P rv n e with|some T=>if T.size=P.cellsOf e/\m*P.cellsOf e=P.cellsOf t then some (qQ (List.replicate m T))else none|none=>none
 |_=>none def tyF(P:Program)(rv:Option TypeId):Nat->Nat->List Field->Option (List Ty×Nat)|_,off,[]=>some ([],off)|0,_,_::_=>none|n+1,off,f::r=>match Wc P rv n f.type,tyF P rv n (off+P.cellsOf f.type) r with|some T,some (Ts,k)=>if f.offset=off/\T.size=P.cellsOf f.type then some (T::Ts,k)else none|_,_=>none end
def OC(P:Program)(rv:Option TypeId):Prop:=∀t,rv=some t->∃fs n,P.underlying t=some (.struct fs)/\tyF P rv n 0 fs.toList=some ([.int .u8,.int .i64,.str,.sl .val,.bool],5)/\P.cellsOf t=5
section
variable{H:Type}{enc:TypeId×Value->H}{P:Program}{w:World}{base:Nat}{sp:Nat->Bool}{held:Bool}{rv:Option TypeId}
def FX(ps:List MemPlace):Nat->Nat->Prop:=λb o=>MemPlace.cell b o∈ps
theorem mapM_some{α β:Type}{f:α->Option β}:∀{l:List α}{r:List β},l.mapM f=some r->r.length=l.length/\∀(i:Nat)(x:α),l[i]?=some x->∃y,r[i]?=some y/\f x=some y|[],r,h=>by grind|a::l,r,h=>by simp at h;obtain⟨y,h1,h⟩:=aR h;obtain⟨ys,h2,h⟩:=aR h;obtain⟨h3,h4⟩:=mapM_some h2<;>grind
theorem RF{a:Addr}{n:Nat}{v:Value}(h:w.cell? (a.add n)=some v):w.cell? ⟨a.block,a.off+n,none⟩=some v/\(n=0->a.spot=none):=by
 unfold Addr.add at h;split at h
 .have hs:a.spot=none:=by unfold World.cell? at h;split at h<;>simp_all
  obtain⟨b,o,sp⟩:=a<;>grind
 grind
theorem Iu{α β:Type}{Q:Nat->α->β->Prop}:∀{l:List α},(∀(i:Nat)(x:α),l[i]?=some x->∃y,Q i x y)->∃r:List β,r.length=l.length/\∀(i:Nat)(x:α),l[i]?=some x->∃y,r[i]?=some y/\Q i x y:=by intro l h;classical have:∀i:Fin l.length,∃y,Q i l[i] y:=λi=>h i _ (List.getElem?_eq_getElem i.2);let f:Fin l.length->β:=λi=>Classical.choose (this i);refine⟨List.ofFn f,by simp,λi x hi=>?_⟩<;>grind
theorem RG(x:(qQ [.int .u8,.int .i64,.str,.sl .val,.bool]).den):eY .val (.mk x.1 x.2.1 x.2.2.1 x.2.2.2.1 x.2.2.2.2)=eY (qQ [.int .u8,.int .i64,.str,.sl .val,.bool]) x:=by simp[eY,Kj,pG]
theorem r8{α β:Type}{R:α->β->Prop}{l:List α}{m:List β}{n k:Nat}(h:aC R l ((m.drop n).take k)){l':List α}{j:Nat}(h':aC R l' ((m.drop (n+k)).take j)):aC R (l++l') ((m.drop n).take (k+j)):=by have:=h.append h';rw[List.take_add,List.drop_drop];exact this
theorem Iv{T:Ty}{R:D->Value->Prop}{cs:List Value}{c:Nat}:∀(m off:Nat),(∀i,i<m->∃x:T.den,T.ok x/\aC R (eY T x) ((cs.drop (off+i*c)).take c))->∃x:(qQ (List.replicate m T)).den,(qQ (List.replicate m T)).ok x/\aC R (eY (qQ (List.replicate m T)) x) ((cs.drop off).take (m*c))
 |0,off,_=>⟨(),trivial,by simp[eY,aC]⟩|1,off,h=>by simp_all|m+2,off,h=>by
  obtain⟨x,ox,hx⟩:=h 0 (by omega);simp at hx;obtain⟨z,oz,hz⟩:=Iv (m+1) (off+c) λi hi=>by have:=h (i+1) (by omega);rwa[show off+(i+1)*c=off+c+i*c by rw[Nat.add_mul,Nat.one_mul];omega]at this
  refine⟨(x,z),⟨ox,oz⟩,?_⟩;have hj:=r8 hx hz;rw[show c+(m+1)*c=(m+2)*c by rw[Nat.add_mul,Nat.add_mul];omega]at hj;exact hj
theorem Eb(P7:OC P rv):∀(fuel:Nat)(t:TypeId)(cs:List Value)(d:DataW H)(ps:List MemPlace),DataW.trod enc P w base sp held fuel t cs=some (d,ps)->∀(k:Nat)(T:Ty),Wc P rv k t=some T->∃x:T.den,T.ok x/\aC (DR w (FX ps)) (eY T x) cs
 |0,_,_,_,_,h=>by simp[DataW.trod]at h|fuel+1,t,cs,d,ps,h=>by
  have ih:=Eb P7 fuel;have fields:∀(l:List Field)(k off e:Nat)(Ts:List Ty)(xs:List (DataW H×List MemPlace)),tyF P rv k off l=some (Ts,e)->(l.mapM λf=>DataW.trod enc P w base sp held fuel f.type ((cs.drop f.offset).take (P.cellsOf f.type)))=some xs->(∀x∈xs,∀q∈x.2,q∈ps)->off<=e/\∃x:(qQ Ts).den,(qQ Ts).ok x/\aC (DR w (FX ps)) (eY (qQ Ts) x) ((cs.drop off).take (e-off)):=by intro l;induction l with|nil=>intro k off e Ts xs hk hxs _;cases k<;>(simp only[tyF,Option.some.injEq,Prod.mk.injEq]at hk;obtain⟨rfl,rfl⟩:=hk;exact⟨Nat.le_refl _,(),trivial,by simp[eY,aC]⟩)|cons f l ihl=>intro k off e Ts xs hk hxs hps;cases k with|zero=>simp[tyF]at hk|succ k=>
     simp[tyF]at hk;split at hk
     .rename_i T Ts' e' h1 h2;split at hk;.rename_i hc;simp at hk;obtain⟨rfl,rfl⟩:=hk;obtain⟨rfl,hsz⟩:=hc;simp at hxs;obtain⟨y,g1,hxs⟩:=aR hxs;obtain⟨ys,g2,hxs⟩:=aR hxs;cases hxs;obtain⟨x,ox,hx⟩:=ih _ _ y.1 y.2 g1 _ _ h1;have hx:aC (DR w (FX ps)) (eY T x) ((cs.drop f.offset).take (P.cellsOf f.type)):=hx.mono λ_ _=>DR.mono λb o hb=>hps y List.mem_cons_self _ hb;obtain⟨hle,z,oz,hz⟩:=ihl _ _ _ _ _ h2 g2 λx hx=>hps x (List.mem_cons_of_mem _ hx);refine⟨by omega,?_⟩;have hj:=r8 hx hz;rw[show P.cellsOf f.type+(e'-(f.offset+P.cellsOf f.type))=e'-f.offset from by omega]at hj;cases Ts' with|nil=>refine⟨x,ox,?_⟩;simpa[eY]using hj|cons T2 Ts2=>exact⟨(x,z),⟨ox,oz⟩,hj⟩
      grind
     grind
  intro k T hT;cases k with|zero=>simp[Wc]at hT|succ k=>
  unfold DataW.trod at h;simp only[Wc]at hT;split at hT
  .rename_i hr;injection hT with hT;subst hT;obtain⟨fs,n,hu,hF,hc⟩:=P7 t hr;rw[hu]at h;simp only at h;split at h
   .rename_i hlen;obtain⟨xs,hxs,he⟩:=aN h;simp only[Prod.mk.injEq]at he;obtain⟨_,rfl⟩:=he;obtain⟨_,x,ox,hx⟩:=fields _ _ _ _ _ _ hF hxs λx hx q hq=>List.mem_flatMap.2 ⟨x,hx,hq⟩;refine⟨.mk x.1 x.2.1 x.2.2.1 x.2.2.2.1 x.2.2.2.2,?_,?_⟩;.obtain⟨o1,o2,o3,o4,o5⟩:=ox;exact⟨o1,o2,o3,o4.1,pX.FV.2 o4.2⟩
    .rw[RG];rw[hc]at hlen;simpa[List.take_of_length_le,hlen]using hx
   .cases h
  .rename_i hr;cases hu:P.underlying t with|none=>rw[hu]at hT;cases hT|some desc=>rw[hu]at hT h;cases desc with
    |bool=>
     injection hT with hT;subst hT;simp only at h;split at h<;>first|(exfalso;have q:=‹some TypeDesc.bool=some _›;injection q with q;cases q;done)|cases h|skip
     rename_i b _;exact⟨b,trivial,.sc _ rfl,trivial⟩|int kd=>
     injection hT with hT;subst hT;simp only at h;split at h<;>first|(exfalso;have q:=‹some (TypeDesc.int kd)=some _›;injection q with q;cases q;done)|cases h|skip
     rename_i k k' n heq;injection heq with heq;injection heq with heq;subst heq;split at h;.rename_i hc;obtain⟨rfl,hw⟩:=hc;simp only[Lit.wf,Bool.and_eq_true,decide_eq_true_eq]at hw;exact⟨n,hw,.sc _ rfl,trivial⟩
     .cases h|string=>
     injection hT with hT;subst hT;simp only at h;split at h<;>first|(exfalso;have q:=‹some TypeDesc.string=some _›;injection q with q;cases q;done)|cases h|skip
     rename_i s _;split at h;.rename_i hc;refine⟨s.data.toList,(by show s.data.toList.length<=maxLen;rw[Array.length_toList];exact hc),?_,trivial⟩;exact .sc _ rfl
     .cases h|slice e=>
     simp only at hT h;split at hT
     .rename_i T' hT';split at hT
      .rename_i hc;injection hT with hT;subst hT;obtain⟨hpos,hsz⟩:=hc;split at h<;>first|(exfalso;have q:=‹some (TypeDesc.slice e)=some _›;injection q with q;cases q;done)|cases h|skip
       .refine⟨[],⟨by simp,λx hx=>by cases hx⟩,?_,trivial⟩;exact .sl [] none 0 0 0 0 0 (λ_ _=>.bool false) rfl (Nat.le_refl _) (λe h=>by cases h) (λh=>by cases h) (λi e j x h=>by simp at h) (λi e j x h=>by simp at h) (λi e j x h=>by simp at h)
       .rename_i e' a len cap heq;injection heq with heq;injection heq with heq;subst heq;split at h
        .rename_i hb;obtain⟨elems,hel,h⟩:=aR h;obtain⟨rest,MN,he⟩:=aN h;simp only[Prod.mk.injEq]at he;obtain⟨_,rfl⟩:=he;obtain⟨hlen,rB⟩:=mapM_some hel;rw[List.length_range]at hlen;have elem:∀i y,elems[i]?=some y->∃x:T'.den,T'.ok x/\∃csi,w.cells? base (a.add (i*P.cellsOf e)) (P.cellsOf e)=some csi/\aC (DR w (FX (MemPlace.row a ((elems.length+rest.length)*P.cellsOf e)++(elems++rest).flatMap (·.2)))) (eY T' x) csi:=by
          intro i y hi;have wM:i<len:=by rw[<-hlen];exact(List.getElem?_eq_some_iff.1 hi).1
          obtain⟨y',hy',hf⟩:=rB i i (by simp[wM]);rw[hi]at hy';injection hy' with hy';subst hy';obtain⟨csi,h1,h2⟩:=aR hf;obtain⟨x,ox,hx⟩:=ih _ _ y.1 y.2 h2 _ _ hT';refine⟨x,ox,csi,h1,hx.mono λ_ _=>DR.mono λb o hb=>?_⟩;refine List.mem_append_right _ (List.mem_flatMap.2 ⟨y,List.mem_append_left _ (List.mem_of_getElem? hi),hb⟩)
         obtain⟨xs,hxl,hxs⟩:=Iu elem;have XT:xs.length=len:=by rw[hxl,hlen]
         refine⟨xs,⟨by rw[XT];omega,λx hx=>?_⟩,?_,trivial⟩
         .obtain⟨i,hi⟩:=List.getElem?_of_mem hx;have hi':i<elems.length:=by rw[<-hxl];exact(List.getElem?_eq_some_iff.1 hi).1
          obtain⟨y,hy,oy,_⟩:=hxs i _ (List.getElem?_eq_getElem hi');rw[hi]at hy;injection hy with hy;subst hy;exact oy
         .have cell:∀i e' j x',(xs.map (eY T'))[i]?=some e'->e'[j]?=some x'->j<P.cellsOf e/\i<len/\∃v,w.cell? ⟨a.block,a.off+i*P.cellsOf e+j,none⟩=some v/\(i=0->j=0->a.spot=none)/\DR w (FX (MemPlace.row a ((elems.length+rest.length)*P.cellsOf e)++(elems++rest).flatMap (·.2))) x' v:=by
           intro i e' j x' hi hj;rw[List.getElem?_map]at hi;obtain⟨x,hx,rfl⟩:=aN hi;have hi':i<elems.length:=by rw[<-hxl];exact(List.getElem?_eq_some_iff.1 hx).1
           obtain⟨y,hy,oy,csi,h1,h2⟩:=hxs i _ (List.getElem?_eq_getElem hi');rw[hx]at hy;injection hy with hy;subst hy;obtain⟨v,hv,hd⟩:=h2.get j x' hj;have hjl:j<P.cellsOf e:=by have:=(List.getElem?_eq_some_iff.1 hj).1;rw[eu,hsz]at this;exact this
           unfold World.cells? at h1;split at h1
           .obtain⟨_,hg⟩:=mapM_some h1;obtain⟨v',kO,hcell⟩:=hg j j (by simp[hjl]);rw[hv]at kO;injection kO with kO;subst kO;obtain⟨c1,c2⟩:=RF hcell;have e1:(a.add (i*P.cellsOf e)).block=a.block/\(a.add (i*P.cellsOf e)).off=a.off+i*P.cellsOf e:=by
             unfold Addr.add;split;.rename_i h0;rw[h0];exact⟨rfl,rfl⟩
             .exact⟨rfl,rfl⟩
            rw[e1.1,e1.2]at c1;refine⟨hjl,by omega,v,c1,λh0 h0'=>?_,hd⟩;have:=c2 h0';subst h0;simpa[Addr.add]using this
           .cases h1
          have hl:ei w (FX (MemPlace.row a ((elems.length+rest.length)*P.cellsOf e)++(elems++rest).flatMap (·.2))) (FX (MemPlace.row a ((elems.length+rest.length)*P.cellsOf e)++(elems++rest).flatMap (·.2))) (xs.map (eY T')) a.block a.off (P.cellsOf e):=by
           refine⟨λe' he'=>?_,λi e' j x' hi hj=>?_⟩;.obtain⟨x,_,rfl⟩:=List.mem_map.1 he';rw[eu,hsz]
           .obtain⟨c1,c2,v,c3,_,c4⟩:=cell i e' j x' hi hj;refine⟨List.mem_append_left _ ?_,v,c3,c4⟩;unfold MemPlace.row;rw[List.mem_map];refine⟨i*P.cellsOf e+j,?_,by rw[Nat.add_assoc]⟩;rw[List.mem_range,hlen];have:(i+1)*P.cellsOf e<=(len+rest.length)*P.cellsOf e:=Nat.mul_le_mul_right _ (by omega);rw[Nat.add_mul,Nat.one_mul]at this;omega
          refine DR.gE hl (by simp[XT]) hb.2.1 λhn=>?_;have hx0:0<xs.length:=by omega
          have h0:(xs.map (eY T'))[0]?=some (eY T' xs[0]):=by simp[hx0]
          have hs0:0<(eY T' xs[0]).length:=by rw[eu,hsz];exact hpos
          obtain⟨_,_,v,_,hsp,_⟩:=cell 0 _ 0 _ h0 (List.getElem?_eq_getElem hs0);have:=hsp rfl rfl;obtain⟨ab,ao,asp⟩:=a;simp only at this;subst this;rfl
        .cases h
      .cases hT
     .cases hT|struct fs=>
     simp only at hT h;split at hT
     .rename_i Ts e hF;split at hT
      .rename_i hc;injection hT with hT;subst hT;split at h;.rename_i hlen;obtain⟨xs,hxs,he⟩:=aN h;simp only[Prod.mk.injEq]at he;obtain⟨_,rfl⟩:=he;obtain⟨_,x,ox,hx⟩:=fields _ _ _ _ _ _ hF hxs λx hx q hq=>List.mem_flatMap.2 ⟨x,hx,hq⟩;refine⟨x,ox,?_⟩;rw[hc]at hx;simpa[List.take_of_length_le,hlen]using hx
       .cases h
      .cases hT
     .cases hT|array m e=>
     simp only at hT h;split at hT
     .rename_i T' hT';split at hT
      .rename_i hc;injection hT with hT;subst hT;obtain⟨hsz,hm⟩:=hc;split at h
       .rename_i hlen;obtain⟨xs,hxs,he⟩:=aN h;simp only[Prod.mk.injEq]at he;obtain⟨_,rfl⟩:=he;obtain⟨hl,rB⟩:=mapM_some hxs;obtain⟨x,ox,hx⟩:=Iv (T:=T') (R:=DR w (FX (xs.flatMap (·.2)))) (cs:=cs) (c:=P.cellsOf e) m 0 λi hi=>by obtain⟨y,hy,hf⟩:=rB i i (by simp[hi]);obtain⟨x,ox,hx⟩:=ih _ _ y.1 y.2 hf _ _ hT';refine⟨x,ox,?_⟩;rw[Nat.zero_add];exact hx.mono λ_ _=>DR.mono λb o hb=>List.mem_flatMap.2 ⟨y,List.mem_of_getElem? hy,hb⟩
        refine⟨x,ox,?_⟩;rw[hm]at hx;simpa[List.take_of_length_le,hlen]using hx
       .cases h
      .cases hT
     .cases hT|_=>cases hT
end
end Go.Sym
namespace Go.Sym
open Go Go.bJ Go.RowKit
def Bp:Ty->List Ty|.val=>[.int .u8,.int .i64,.str,.sl .val,.bool]|.int k=>[.int k]|.bool=>[.bool]|.str=>[.str]|.sl t=>[.sl t]|.unit=>[]|.prod a b=>Bp a++Bp b|.sum _ _=>[]
def aZ:Ty->List gG|.val=>[.int .u8,.int .i64,.str,.sl .val .d,.bool]|.int k=>[.int k]|.bool=>[.bool]|.str=>[.str]|.sl t=>[.sl t .d]|.unit=>[]|.prod a b=>aZ a++aZ b|.sum _ _=>[]
def flat:(T:Ty)->T.den->List fG|.val,v=>[⟨.int .u8,v.kind⟩,⟨.int .i64,v.int⟩,⟨.str,v.text⟩,⟨.sl .val,v.list⟩,⟨.bool,v.cut⟩]|.int k,a=>[⟨.int k,a⟩]|.bool,b=>[⟨.bool,b⟩]|.str,s=>[⟨.str,s⟩]|.sl t,l=>[⟨.sl t,l⟩]|.unit,_=>[]|.prod a b,x=>flat a x.1++flat b x.2|.sum _ _,_=>[]
theorem vO:∀(T:Ty)(x:T.den),(flat T x).map (·.t)=Bp T|.val,_=>rfl|.int _,_=>rfl|.bool,_=>rfl|.str,_=>rfl|.sl _,_=>rfl|.unit,_=>rfl|.prod a b,x=>by simp[flat,Bp,vO a,vO b]|.sum _ _,_=>rfl
theorem tR:∀{l l':List gG}{r r' r'':List fG}{xs ys:List Cell},cW l r=some (xs,r')->cW l' r'=some (ys,r'')->cW (l++l') r=some (xs++ys,r'')
 |[],l',r,r',r'',xs,ys,h,h'=>by cases h<;>grind|c::l,l',r,r',r'',xs,ys,h,h'=>by
  simp[cW]at h;split at h
  .rename_i x r1 h1;split at h;.rename_i V0 r2 h2;cases h;simp[List.cons_append,cW,h1,tR h2 h']
   grind
  grind
theorem xq:∀(T:Ty)(x:T.den)(rest:List fG),cW (aZ T) (flat T x++rest)=some (iI T x,rest)|.val,_,_=>rfl|.int _,_,_=>rfl|.bool,_,_=>rfl|.str,_,_=>rfl|.sl _,_,_=>rfl|.unit,_,_=>rfl|.prod a b,x,rest=>by simp[aZ,flat,List.append_assoc,iI];exact tR (xq a x.1 _) (xq b x.2 rest)|.sum _ _,_,_=>rfl
def XU(ds:List fG):Prop:=∀d∈ds,d.t.ok d.v
theorem FY:∀(T:Ty)(x:T.den),T.ok x->XU (flat T x)
 |.val,v,h=>by
  cases v;obtain⟨h1,h2,h3,h4,h5⟩:=h;intro d hd;simp[flat,List.mem_cons,List.not_mem_nil,or_false]at hd;rcases hd with rfl|rfl|rfl|rfl|rfl;.exact h1
  .exact h2
  .exact h3
  .exact⟨h4,pX.FV.1 h5⟩
  .trivial|.int _,_,h=>λd hd=>by simp[flat]at hd<;>grind|.bool,_,h=>λd hd=>by simp[flat]at hd<;>grind|.str,_,h=>λd hd=>by simp[flat]at hd<;>grind|.sl _,_,h=>λd hd=>by simp[flat]at hd<;>grind|.unit,_,_=>λd hd=>by simp[flat]at hd|.prod a b,x,h=>λd hd=>by
  simp[flat,List.mem_append]at hd;rcases hd with hd|hd;.exact FY a x.1 h.1 d hd
  .exact FY b x.2 h.2 d hd|.sum _ _,_,_=>λd hd=>by simp[flat]at hd
theorem yO(a:Ty)(x:a.den):uj a a x=some x:=by unfold uj;split<;>grind
theorem xu:∀ds:List fG,∃x,pack (ds.map (·.t)) ds=some x|[]=>⟨(),rfl⟩|[d]=>⟨d.v,yO _ _⟩|d::e::r=>by obtain⟨y,hy⟩:=xu (e::r);refine⟨(d.v,y),?_⟩;have hy':pack (e.t::r.map (·.t)) (e::r)=some y:=hy;show pack (d.t::e.t::r.map (·.t)) (d::e::r)=some (d.v,y);simp[pack,yO,hy']
abbrev yP:=TypeId×Bool×Ty
def yP.sh(p:yP):tP:=match p.2.1,aZ p.2.2with|false,[c]=>.c c|_,l=>.agg l
def jH(l:List yP):List Ty:=l.flatMap λp=>Bp p.2.2
def okL(ts:List Ty)(x:(qQ ts).den):Prop:=XU (unpack ts x)
def RH(P:Program)(p:yP):Bool:=match P.underlying p.1with|some (.struct _)=>p.2.1|some (.array _ _)=>p.2.1|some .bool|some (.int _)|some .string|some (.slice _)=>!p.2.1|_=>false
def Iw(P:Program)(rv:Option TypeId)(k:Nat)(p:yP):Prop:=Wc P rv k p.1=some p.2.2/\RH P p=true
section
variable{H:Type}{enc:TypeId×Value->H}{P:Program}{w:World}{sp:Nat->Bool}{held:Bool}{rv:Option TypeId}
theorem KJ{t:TypeId}{v:Value}{b:Nat}{fs:Array Field}(h:Value.okWide P w .any b t v)(hu:P.underlying t=some (.struct fs)):∃cs,v=.agg cs:=by simp[Value.okWide,hu]at h<;>grind
theorem KK{t:TypeId}{v:Value}{b n:Nat}{e:TypeId}(h:Value.okWide P w .any b t v)(hu:P.underlying t=some (.array n e)):∃cs,v=.agg cs:=by simp[Value.okWide,hu]at h<;>grind
theorem om{t:TypeId}{v:Value}{b:Nat}{d:TypeDesc}(h:Value.okWide P w .any b t v)(hu:P.underlying t=some d)(hd:d=.bool\/(∃k,d=.int k)\/d=.string\/∃e,d=.slice e):v.cells=#[v]:=by rcases hd with rfl|⟨k,rfl⟩|rfl|⟨e,rfl⟩<;>cases v<;>first|rfl|(simp[Value.okWide,hu,Cell.okWide,Cell.ok]at h)
def Wd(P:Program)(B:Nat)(t:TypeId):(T:Ty)->T.den->Prop|.sl _,l=>∀e,P.underlying t=some (.slice e)->l.length*P.bytesOf e<=B|.str,s=>P.underlying t=some .string->s.length<=B|_,_=>True
theorem aao{fuel:Nat}{t:TypeId}{cs:List Value}{d:DataW H}{ps:List MemPlace}(hf:DataW.trod enc P w 0 sp held fuel t cs=some (d,ps)){T:Ty}{x:T.den}{F:Nat->Nat->Prop}(hx:aC (DR w F) (eY T x) cs){B:Nat}(hw:(d.weights P t).all (λb=>decide (b<=B))=true):Wd P B t T x:=by cases fuel with|zero=>simp[DataW.trod]at hf|succ fuel=>cases T with
 |sl T'=>intro e he;match cs,hx with|[c],hx=>have hd:DR w F (.sl (List.map (eY T') x)) c:=hx.1;cases hd with|sl els a n cap sz b o g hn hcap hsz ha hF hc hr=>
    unfold DataW.trod at hf;rw[he]at hf;split at hf<;>first|(exfalso;have q:=‹some (TypeDesc.slice e)=some _›;injection q with q;cases q;done)|cases hf|skip
    .grind
    .subst_vars;split at hf;.obtain⟨elems,hel,hf⟩:=aR hf;obtain⟨rest,MN,heq⟩:=aN hf;cases heq;have hlen:=(mapM_some hel).1;simp[DataW.weights,he,List.all_cons,Bool.and_eq_true,decide_eq_true_eq,List.length_map]at hw<;>grind
     grind
 |str=>intro he;match cs,hx with|[c],hx=>have hd:DR w F (.sc (.string ⟨x.toArray⟩)) c:=hx.1;cases hd with|sc v h1=>
    unfold DataW.trod at hf;rw[he]at hf;simp only at hf;split at hf<;>first|(exfalso;have q:=‹some TypeDesc.string=some _›;injection q with q;cases q;done)|cases hf|skip
    simpa[DataW.weights]using hw
 |_=>trivial
def aap(P:Program)(B:Nat):List yP->List fG->Prop|[],_=>True|p::l,ds=>(∃x:p.2.2.den,(∃rest,ds=flat p.2.2 x++rest)/\Wd P B p.1 p.2.2 x)/\aap P B l (ds.drop (Bp p.2.2).length)
def ad3(P:Program)(B:Nat)(l:List yP)(x:(qQ (jH l)).den):Prop:=aap P B l (unpack (jH l) x)
def RJ(w:World)(ps:List MemPlace):Cx:={w,F:=FX ps,ρ:=λ_=>none,old:=λb=>b<w.heap.size}
theorem MO(hg:(∀b,wQ b->b<w.heap.size)/\L9 w)(ps:List MemPlace)(hlt:∀x∈ps,x.block<w.heap.size):aH (RJ w ps) [.lf] .lf where
 fN lv sl e he:=by rw[xd]at he;cases he
 aI v hv:=by simp at hv
 apart k k' v v' L L' a b:=by
  rcases a with⟨_,_,_,_,he,_⟩|⟨_,he⟩;.rw[xd]at he;cases he
  .simp at he
 oL b o h:=hlt _ h;tG:=⟨λ_ h=>h,hg.1,hg.2⟩
theorem MP{X:Cx}:∀{ds:List D}{cs:List Value},aC (DR X.w X.F) ds cs->aC (VC X) (ds.map .d) cs|[],[],_=>trivial|_::_,_::_,h=>⟨h.1,MP h.2⟩|[],_::_,h=>h.elim|_::_,[],h=>h.elim
theorem aaq(P7:OC P rv){k:Nat}{p:yP}(hp:Iw P rv k p){v:Value}{d:DataW H}{qs ps:List MemPlace}{b:Nat}(hv:Value.okWide P w .any b p.1 v)(h:DataW.Trod enc P w 0 sp held p.1 v d qs)(hsub:∀q∈qs,q∈ps):∃(x:p.2.2.den)(a:AV)(u:V2),p.2.2.ok x/\V1 (RJ w ps) a v/\RV ρ0 0 [] u a/\(∀rest,di [p.sh] (flat p.2.2 x++rest)=some ([u],rest))/\(∀B,(d.weights P p.1).all (λb=>decide (b<=B))=true->Wd P B p.1 p.2.2 x):=by
 obtain⟨t,ag,T⟩:=p;obtain⟨hT,hfit⟩:=hp;obtain⟨fuel,hf⟩:=h;obtain⟨x,ox,hx⟩:=Eb P7 fuel _ _ _ _ hf _ _ hT;have amO:=λ(B:Nat)hw=>aao (x:=x) hf hx (B:=B) hw;have hx:aC (DR (RJ w ps).w (RJ w ps).F) (eY T x) v.cells.toList:=hx.mono λ_ _=>DR.mono λb o hb=>hsub _ hb;have XV:=xq T x;have MQ:(∃cs,v=.agg cs)->ag=true->∃(a:AV)(u:V2),V1 (RJ w ps) a v/\RV ρ0 0 [] u a/\∀rest,di [yP.sh (t,ag,T)] (flat T x++rest)=some ([u],rest):=by rintro⟨cs,rfl⟩rfl;refine⟨.agg ((eY T x).map .d),.agg (iI T x),⟨cs,rfl,MP hx⟩,⟨_,rfl,kX T x⟩,λrest=>?_⟩;simp[yP.sh,di,tc.fill,XV]
 have vP:v.cells=#[v]->ag=false->(∃c,aZ T=[c])->∃(a:AV)(u:V2),V1 (RJ w ps) a v/\RV ρ0 0 [] u a/\∀rest,di [yP.sh (t,ag,T)] (flat T x++rest)=some ([u],rest):=by rintro hc rfl⟨c,hcs⟩;rw[hc]at hx;have hl:=hx.length;match he:eY T x,hl with|[y],_=>rw[he]at hx;have hcell:=kX (ρ:=ρ0) (B:=0) (m:=[]) T x;rw[he]at hcell;match hct:iI T x,hcell with
   |[z],hcell=>
    refine⟨.d y,.c z,?_,hcell.1,λrest=>?_⟩;.exact hx.1
    .have:=XV rest;rw[hcs]at this;simp[cW]at this;simp[yP.sh,hcs,di,tc.fill]<;>grind
 have fin:(∃(a:AV)(u:V2),V1 (RJ w ps) a v/\RV ρ0 0 [] u a/\∀rest,di [yP.sh (t,ag,T)] (flat T x++rest)=some ([u],rest))->∃(x:T.den)(a:AV)(u:V2),T.ok x/\V1 (RJ w ps) a v/\RV ρ0 0 [] u a/\(∀rest,di [yP.sh (t,ag,T)] (flat T x++rest)=some ([u],rest))/\(∀B,(d.weights P t).all (λb=>decide (b<=B))=true->Wd P B t T x):=by grind
 apply fin;unfold RH at hfit;cases hu:P.underlying t with|none=>grind|some desc=>rw[hu]at hfit;cases k with|zero=>simp[Wc]at hT|succ k=>
  have one:∀{d:TypeDesc},desc=d->(d=.bool\/(∃k,d=.int k)\/d=.string\/∃e,d=.slice e)->∃c,aZ T=[c]:=by
   intro d hd hq;subst hd;simp[Wc]at hT;split at hT;.rename_i hr;obtain⟨fs,_,kK,_⟩:=P7 t hr<;>grind
   .rw[hu]at hT;rcases hq with rfl|⟨k,rfl⟩|rfl|⟨e,rfl⟩;.cases hT;exact⟨_,rfl⟩
    .cases hT;exact⟨_,rfl⟩
    .cases hT;exact⟨_,rfl⟩
    .simp at hT;split at hT
     .split at hT;.cases hT;exact⟨_,rfl⟩
      .cases hT
     .cases hT
  cases desc with|struct fs=>exact MQ (KJ hv hu) hfit|array n e=>exact MQ (KK hv hu) hfit|bool=>exact vP (om hv hu (.inl rfl)) (by simpa using hfit) (one rfl (.inl rfl))|int kd=>exact vP (om hv hu (.inr (.inl ⟨kd,rfl⟩))) (by simpa using hfit) (one rfl (.inr (.inl ⟨kd,rfl⟩)))|string=>exact vP (om hv hu (.inr (.inr (.inl rfl)))) (by simpa using hfit) (one rfl (.inr (.inr (.inl rfl))))|slice e=>exact vP (om hv hu (.inr (.inr (.inr ⟨e,rfl⟩)))) (by simpa using hfit) (one rfl (.inr (.inr (.inr ⟨e,rfl⟩))))|_=>cases hfit
theorem vQ:∀{l l':List tP}{r r' r'':List fG}{xs ys:List V2},di l r=some (xs,r')->di l' r'=some (ys,r'')->di (l++l') r=some (xs++ys,r'')
 |[],l',r,r',r'',xs,ys,h,h'=>by cases h<;>grind|c::l,l',r,r',r'',xs,ys,h,h'=>by
  simp[di]at h;simp[List.cons_append,di];split at h
  .split at h;.rename_i V0 r2 h2;cases h;simp only[vQ h2 h'];rfl
   grind
  grind
theorem FZ(P7:OC P rv){k b:Nat}{ps:List MemPlace}:∀{l:List yP}{vs:List Value}{ds:List (DataW H)}{qs:List MemPlace},(∀p∈l,Iw P rv k p)->(∀(j:Nat)(p:yP)v,l[j]?=some p->vs[j]?=some v->Value.okWide P w .any b p.1 v)->DataW.TrodAll enc P w 0 sp held (l.map (·.1)) vs ds qs->(∀q∈qs,q∈ps)->∃(dd:List fG)(aL:List AV)(us:List V2),XU dd/\dd.map (·.t)=jH l/\aC (V1 (RJ w ps)) aL vs/\aC (RV ρ0 0 []) us aL/\(∀rest,di (l.map yP.sh) (dd++rest)=some (us,rest))/\(∀B,(DataW.weightsEach P (l.map (·.1)) ds).all (λb=>decide (b<=B))=true->aap P B l dd)
 |[],vs,ds,qs,_,_,h,_=>by match vs,ds,h with|[],[],_=>exact⟨[],[],[],λd hd=>(by cases hd),rfl,trivial,trivial,λ_=>rfl,λ_ _=>trivial⟩
 |p::l,vs,ds,qs,hp,hv,h,hsub=>by match vs,ds,h with
  |v::vs,d::ds,h=>
   obtain⟨p1,q1,h1,h2,rfl⟩:=h;obtain⟨x,a,u,g1,g2,g3,g4,g4'⟩:=aaq P7 (hp p List.mem_cons_self) (hv 0 p v rfl rfl) h1 (λq hq=>hsub q (List.mem_append_left _ hq));obtain⟨dd,aL,us,g5,g6,g7,g8,g9,g9'⟩:=FZ P7 (l:=l) (λq hq=>hp q (List.mem_cons_of_mem _ hq)) (λj p' v' hj hj'=>hv (j+1) p' v' (by simpa using hj) (by simpa using hj')) h2 (λq hq=>hsub q (List.mem_append_right _ hq));refine⟨flat p.2.2 x++dd,a::aL,u::us,?_,?_,⟨g2,g7⟩,⟨g3,g8⟩,λrest=>?_,λB hw=>?_⟩
   .intro e he;rcases List.mem_append.1 he with he|he;.exact FY _ x g1 e he
    .exact g5 e he
   .simp[jH,vO,g6]
   .rw[List.append_assoc];exact vQ (g4 _) (g9 rest)
   .simp only[List.map_cons,DataW.weightsEach,List.all_append,Bool.and_eq_true]at hw;refine⟨⟨x,⟨dd,rfl⟩,g4' B hw.1⟩,?_⟩;have e:(Bp p.2.2).length=(flat p.2.2 x).length:=by rw[<-vO p.2.2 x,List.length_map]
    grind
theorem Ec{cm:List (Tr bB)}{lv sl ah:Nat}{rv:AV}{b:Bool}(h:gC cm 0 0 lv sl ah rv=some (.d (.sc (.bool b)),[])):rv=.d (.sc (.bool b)):=by cases rv with|d x=>simp only[gC,kR,bu,Option.some.injEq,Prod.mk.injEq,and_true]at h;exact h|own els o=>cases o<;>simp[gC,kR,bu,n4]at h|agg cs=>obtain⟨z,_,he⟩:=aN h<;>grind|iY vs=>simp_all[gC]|ref cL dU gB off len sz=>simp[gC,kR,bu]at h<;>grind|ptr=>simp[gC,kR,bu]at h|fe=>simp[gC,kR,bu]at h|mp=>simp[gC,kR,bu]at h|fK=>simp[gC,kR,bu]at h|gp f cs=>cases cs<;>simp[gC,kR,bu]at h
theorem OD{eB:Nat->Option TypeId}{md:Nat->bJ.Mode}{Fs:Tb}{f:Nat}(aar:P.follows .mixedOrders=true)(jw:∀f T,eB f=some T->kP P f T)(N6:∀f fn,Fs f=some fn->CJ P eB md f=some fn)(hO:cM P Fs.O)(hg:(∀b,wQ b->b<w.heap.size)/\L9 w)(P7:OC P rv){k b:Nat}{l:List yP}(hp:∀p∈l,Iw P rv k p){F:(qQ (jH l)).den->Option Bool}(aas:kj Fs f ⟨l.map yP.sh,jH l,[(false,[.bool])],[.bool],0,F⟩)(hF:∀x,okL (jH l) x->F x=some true){args:Array Value}{ds:List (DataW H)}{ps:List MemPlace}(hval:∀(j:Nat)(p:yP)v,l[j]?=some p->args[j]?=some v->Value.okWide P w .any b p.1 v)(hargs:DataW.TrodAll enc P w 0 sp held (l.map (·.1)) args.toList ds ps)(hlt:∀x∈ps,x.block<w.heap.size):Calls P f args w λe w'=>e=.returned (.bool true)/\Below w.heap.size w w':=by
 obtain⟨dd,aL,us,g1,g2,g3,g4,g5,_⟩:=FZ P7 (ps:=ps) hp (λj p v hj hv=>hval j p v hj (by simpa using hv)) hargs (λ_ h=>h);obtain⟨x,hx⟩:∃x,pack (jH l) dd=some x:=g2▸xu dd;have hu:=dm hx;have hok:okL (jH l) x:=by unfold okL;rw[hu];exact g1
 obtain⟨vs,h1,h2⟩:=aas x true (hF x hok);simp[hu]at h1;have h5:=g5 [];rw[List.append_nil,h1]at h5;cases h5;obtain⟨n0,r,cm,ts,nv,h3,h4⟩:=h2 aL g4;obtain⟨a',h6,h7⟩:=(h4 [(false,[.bool true])] rfl).1 (show(0:Nat)≠65535by decide) (.c (.bool true)) rfl 0 0 0;have ha:a'=.d (.sc (.bool true)):=h7 ρ0 0 [];subst ha;have hr:=Ec h6;subst hr;obtain⟨_,hc⟩:=FF hO aar jw N6 n0 f aL [.lf] .lf 0 _ cm ts nv (h3 n0 (Nat.le_refl _)) (RJ w ps) args (MO hg ps hlt) (λ_ _=>rfl) g3;refine hc.mono ?_;rintro e w'⟨Y,u,rfl,rfl,hx,hv,_⟩;cases hv;exact⟨rfl,hx.below.toBelow⟩
theorem P8{B:Nat}{eB:Nat->Option TypeId}{md:Nat->bJ.Mode}{Fs:Tb}{f:Nat}(aar:P.follows .mixedOrders=true)(jw:∀f T,eB f=some T->kP P f T)(N6:∀f fn,Fs f=some fn->CJ P eB md f=some fn)(hO:cM P Fs.O)(hg:(∀b,wQ b->b<w.heap.size)/\L9 w)(P7:OC P rv){k b:Nat}{l:List yP}(hp:∀p∈l,Iw P rv k p){F:(qQ (jH l)).den->Option Bool}(aas:kj Fs f ⟨l.map yP.sh,jH l,[(false,[.bool])],[.bool],0,F⟩)(hF:∀x,okL (jH l) x->ad3 P B l x->F x=some true){args:Array Value}{ds:List (DataW H)}{ps:List MemPlace}(hval:∀(j:Nat)(p:yP)v,l[j]?=some p->args[j]?=some v->Value.okWide P w .any b p.1 v)(hargs:DataW.TrodAll enc P w 0 sp held (l.map (·.1)) args.toList ds ps)(hlt:∀x∈ps,x.block<w.heap.size)(hwt:(DataW.weightsEach P (l.map (·.1)) ds).all (λb=>decide (b<=B))=true):Calls P f args w λe w'=>e=.returned (.bool true)/\Below w.heap.size w w':=by
 obtain⟨dd,aL,us,g1,g2,g3,g4,g5,g6⟩:=FZ P7 (ps:=ps) hp (λj p v hj hv=>hval j p v hj (by simpa using hv)) hargs (λ_ h=>h);obtain⟨x,hx⟩:∃x,pack (jH l) dd=some x:=g2▸xu dd;have hu:=dm hx;have hok:okL (jH l) x:=by unfold okL;rw[hu];exact g1
 obtain⟨vs,h1,h2⟩:=aas x true (hF x hok (by unfold ad3;rw[hu];exact g6 B hwt));simp[hu]at h1;have h5:=g5 [];rw[List.append_nil,h1]at h5;cases h5;obtain⟨n0,r,cm,ts,nv,h3,h4⟩:=h2 aL g4;obtain⟨a',h6,h7⟩:=(h4 [(false,[.bool true])] rfl).1 (show(0:Nat)≠65535by decide) (.c (.bool true)) rfl 0 0 0;have ha:a'=.d (.sc (.bool true)):=h7 ρ0 0 [];subst ha;have hr:=Ec h6;subst hr;obtain⟨_,hc⟩:=FF hO aar jw N6 n0 f aL [.lf] .lf 0 _ cm ts nv (h3 n0 (Nat.le_refl _)) (RJ w ps) args (MO hg ps hlt) (λ_ _=>rfl) g3;refine hc.mono ?_;rintro e w'⟨Y,u,rfl,rfl,hx,hv,_⟩;cases hv;exact⟨rfl,hx.below.toBelow⟩
theorem Ed(hl:laidOutB P=true){W W':World}(hb:Below W.heap.size W W'):∀{ts:List TypeId}{vs:List Value}{ds:List (DataW H)}{ps:List MemPlace},(ts.all λt=>P.readableRec t&&decide (t<P.types.size))=true->DataW.TrodAll enc P W 0 (λ_=>true) true ts vs ds ps->(∀x∈ps,x.block<W.heap.size)->DataW.TrodAll enc P W' 0 (λb=>decide (b<W.heap.size)) true ts vs ds ps
 |[],vs,ds,ps,_,h,_=>by match vs,ds,h with|[],[],h=>exact h
 |t::ts,vs,ds,ps,ht,h,hlt=>by match vs,ds,h with|v::vs,d::ds,h=>obtain⟨p,q,h1,h2,rfl⟩:=h;rw[List.all_cons,Bool.and_eq_true,Bool.and_eq_true]at ht;exact⟨p,q,Below.trod hl ht.1.1 (of_decide_eq_true ht.1.2) h1 hb (λx hx=>hlt x (List.mem_append_left _ hx)),Ed hl hb ht.2 h2 (λx hx=>hlt x (List.mem_append_right _ hx)),rfl⟩
end
end Go.Sym
