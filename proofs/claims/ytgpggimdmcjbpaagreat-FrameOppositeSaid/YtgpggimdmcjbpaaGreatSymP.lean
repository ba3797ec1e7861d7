/- A function without parameters that answers true, run by the machine of pure data, as one that may be called. -/
import Derived.Test.YtgpggimdmcjbpaaGreatSymK
import Derived.Test.YtgpggimdmcjbpaaGreatEngMono
namespace Go.Sym
open Go Go.Eng
def runCal:Callee:=⟨[],[],[(false,[.bool])],[.bool],0,fun _=>some true⟩
theorem calOK_run {Fs:Nat→Option AFn} {n f:Nat} (h:(runF Fs n f [] [.lf] .lf 0).map (·.1)=some (.d (.sc (.bool true)))):CalOK Fs f runCal:=by
 refine⟨fun _=>?_,fun _ _ hb=>by cases hb⟩
 intro a y hy
 have hy:y=true:=by injection hy with hy;exact hy.symm
 subst hy
 cases hr:runF Fs n f [] [.lf] .lf 0 with
 |none=>rw[hr] at h;cases h
 | some x =>
  obtain⟨r,cm,ts,nv⟩:=x
  rw[hr] at h
  have he:r=.d (.sc (.bool true)):=by injection h
  subst he
  refine⟨[],rfl,fun as has=>?_⟩
  cases as with
  |cons b bs=>exact has.elim
  |nil=>
   refine⟨n,_,cm,ts,nv,fun m hm=>runF_le n m hm _ _ _ _ _ _ hr,fun ws hws=>?_⟩
   have hws:ws=[(false,[.bool true])]:=by injection hws with hws;injection hws with hws _;exact hws.symm
   subst hws
   refine⟨fun w hw lv sl nvi=>⟨.d (.sc (.bool true)),rfl,fun ρ B m=>?_⟩,fun _ _ _ _ _ _ _ _ h0=>absurd rfl h0⟩
   have hw:w=.c (.bool true):=by injection hw with hw;exact hw.symm
   subst hw
   rfl
end Go.Sym
