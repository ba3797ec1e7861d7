/- strconv.Atoi by the kit's contracts. -/
import Derived.Test.YtnhbhdopamdgpaaGreatDoorEngLib
import Derived.Shelf.Strconv.Atoi
import Derived.Shelf.Strconv.AtoiErr
namespace Go.Eng
open Go Go.Shelf Go.RowKit
set_option linter.unusedVariables false
noncomputable section
theorem atoi_ok {P:Program} {ρ : Ren} (L:Go.Proofs.Lays.n172 P ρ) (L2:Go.Proofs.LaysC.n172 P ρ) (hfn:∃ fn,P.funcs[ρ.f 172]?=some fn∧fn.body.isSome=true∧(fn.name == "runtime.NumGoroutine")=false)
  (hv:∀ w,gok w→∃ te pe,w.cell? ⟨ρ.g 15,0,none⟩=some (.iface te pe)):CallOK P (oLib (ρ.f 172) ansA):=by
 refine oLib_ok hfn fun args v hans X vargs hlow hargs=>?_
 unfold ansA at hans
 split at hans
 ·rename_i s
  split at hans
  ·rename_i hq
   obtain⟨u,rfl,hu⟩:=args1 hargs
   have:=str_arg hu
   subst this
   have hsz:s.size≤18:=by rw[size_len];exact Nat.le_of_ble_eq_true hq
   split at hans
   ·rename_i n hn
    injection hans with hans;subst hans
    refine (Go.Proofs.Any.strconv_Atoi L s n hsz hn X.w).mono ?_
    rintro e w' ⟨rfl,t,rfl⟩
    exact⟨_,rfl,Lib.bytesWorld_below _ _ _,_,rfl,.of_VC (DR.sc _ rfl),.of_VC (DR.sc _ rfl),trivial⟩
   ·rename_i hn
    injection hans with hans;subst hans
    obtain⟨te,pe,hev⟩:=hv X.w hlow.gk
    refine (Go.Proofs.Any.strconv_Atoi_err L2 s hsz hn _ X.w hev (.inr ⟨te,pe,rfl⟩)).mono ?_
    rintro e w' ⟨N,rfl,_,_,hb⟩
    exact⟨_,rfl,hb,_,rfl,.of_VC (DR.sc _ rfl),.of_VC (DR.er _ ⟨_,_,rfl⟩),trivial⟩
  ·cases hans
 ·cases hans
end
end Go.Eng
