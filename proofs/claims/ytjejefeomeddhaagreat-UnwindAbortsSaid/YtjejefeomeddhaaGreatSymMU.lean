/- A law of two ints, told of unknown ints. -/
import Derived.Test.YtjejefeomeddhaaGreatDta21d
set_option linter.unusedVariables false
set_option linter.unusedSimpArgs false
namespace Go.Sym
open Go Go.Eng Go.RowKit
@[reducible] def rho2 (a b:Int):Rho:=⟨fun i=>match i with|0=>IntKind.i64.wrap a|_=>IntKind.i64.wrap b,fun i=>by
 have h:∀ n,IntKind.i64.wrap (IntKind.i64.wrap n)=IntKind.i64.wrap n:=fun n=>@wrapW ⟨fun _=>0,fun _=>by decide⟩ .i64 n
 match i with
 |0=>exact h a
 |_+1=>exact h b⟩
section
variable {H:Type} {enc:TypeId×Value→H} {P:Program} {w:World} {sp:Nat→Bool} {held:Bool}
theorem ints2 {rv:Option TypeId} {k b0:Nat} {t:TypeId} (hrv : @RvOK P rv) (hp:∀ p∈([(t,false,.int .i64),(t,false,.int .i64)]:List Par),parOK P rv k p) {args:Array Value} {ds:List (DataW H)} {ps:List MemPlace}
  (hval:∀ (j:Nat) (p:Par) v,([(t,false,.int .i64),(t,false,.int .i64)]:List Par)[j]?=some p→args[j]?=some v→Value.okWide P w .any b0 p.1 v)
  (hargs:DataW.TrodAll enc P w 0 sp held [t,t] args.toList ds ps):∃ a b,args.toList=[.int .i64 a,.int .i64 b]∧IntKind.i64.wrap a=a∧IntKind.i64.wrap b=b:=by
 letI:Rho:=rho2 0 0
 obtain⟨dd,xs,us,g1,g2,g3,g4,g5,_⟩:=pars_ok (enc:=enc) (l:=[(t,false,.int .i64),(t,false,.int .i64)]) hrv (ps:=ps) hp (fun j p v hj hv=>hval j p v hj (by simpa using hv)) hargs (fun _ h=>h)
 match dd,g2,g1,g5 with
 | [⟨t1, a⟩, ⟨t2, b⟩], g2, g1, g5 =>
  simp only[List.map_cons,List.map_nil] at g2
  cases g2
  have h5:=g5 []
  cases h5
  have ha:=g1 _ (List.mem_cons_self ..)
  have hb:=g1 _ (List.mem_cons_of_mem _ (List.mem_cons_self ..))
  match xs,g4,g3 with
  | [x, y], ⟨q1, q2, _⟩, g3 =>
   cases q1
   cases q2
   match hl:args.toList,g3 with
   | [u, v], ⟨r1, r2, _⟩ =>
    cases r1
    cases r2
    have key:∀ n:Int,IntKind.i64.min≤n∧n≤IntKind.i64.max→IntKind.i64.wrap n=n:=fun n h=>by
     have h1:IntKind.i64.min = -9223372036854775808:=by decide
     have h2:IntKind.i64.max=9223372036854775807:=by decide
     rw[h1,h2] at h
     simp only[IntKind.wrap,IntKind.bits,IntKind.signed];simp;omega
    exact⟨a,b,rfl,key a ha,key b hb⟩
theorem law2_calls {f:Nat} (hans:∀ a b,@AnsOK (rho2 a b) P f [.d (.rg .i64 (.v 0)),.d (.rg .i64 (.v 1))] (.d (.sc (.bool true)))) (hg:(∀ b,gblk b→b<w.heap.size)∧gok w) {args:Array Value} {a b:Int} (h:args.toList=[.int .i64 a,.int .i64 b]) (ha:IntKind.i64.wrap a=a) (hb:IntKind.i64.wrap b=b) :
  Calls P f args w fun e w'=>e=.returned (.bool true)∧Below w.heap.size w w':=by
 letI:Rho:=rho2 a b
 have h1:DR w (inPs []) (.rg .i64 (.v 0)) (.int .i64 a):=by
  have:=DR.rg (w:=w) (F:=inPs []) .i64 (.v 0)
  rw[show IntKind.i64.wrap (Ex.den (.v 0))=a from by show IntKind.i64.wrap (IntKind.i64.wrap a)=a;rw[ha,ha]] at this
  exact this
 have h2:DR w (inPs []) (.rg .i64 (.v 1)) (.int .i64 b):=by
  have:=DR.rg (w:=w) (F:=inPs []) .i64 (.v 1)
  rw[show IntKind.i64.wrap (Ex.den (.v 1))=b from by show IntKind.i64.wrap (IntKind.i64.wrap b)=b;rw[hb,hb]] at this
  exact this
 obtain⟨_,hc⟩:=hans a b [.lf] .lf 0 (cxA w []) args (cxA_mem hg [] fun _ h=>by cases h) (by rw[h];exact⟨h1,h2,trivial⟩)
 refine hc.mono ?_
 rintro e w' ⟨Y,u,rfl,rfl,hx,hv,_⟩
 cases hv
 exact⟨rfl,hx.below.toBelow⟩
end
end Go.Sym
