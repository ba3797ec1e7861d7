/- A part of the proof: G12, K12n, Names12n. -/
import Derived.Test.YtnhbhdopamdgpaaGreatDoorLib12A
import Derived.Test.YtnhbhdopamdgpaaGreatDoorTie
import Derived.Test.YtnhbhdopamdgpaaGreatDoorCards
import Derived.Shelf.Vars
import Derived.Laws.Rows
import Derived.ChangeSame
import Derived.JoinedOf
import Derived.JoinedAt
import Derived.JoinedStill
import Derived.RowKit
import Derived.ProofKit
import Derived.OpenShut
import Derived.LaidMore
import Derived.LaidLaws
import Derived.Lay
import Derived.SevenTiedAt
import Derived.Stop.Joined
import Derived.HandedShaped
import Derived.Test.YtnhbhdopamdgpaaGreatDoorP12nd
import Derived.Test.YtnhbhdopamdgpaaGreatDoorP12nh
import Derived.Test.YtnhbhdopamdgpaaGreatDoorP12nl
import Derived.Test.YtnhbhdopamdgpaaGreatDoorP12no
namespace Go.Proofs.YtnhbhdopamdgpaaGreatDoor
open Go Go.Eng Go.ChangeShapes Go.WideShapes Go.ChangeAt Go.RowKit
set_option maxRecDepth 100000
theorem gSp:Tryz.prog.globalNamed "strings.asciiSpace" = some 0:=by kernel_rfl
theorem gErr:Tryz.prog.globalNamed "strconv.ErrSyntax" = some 3:=by kernel_rfl
theorem tSp:(Tryz.prog.globals[0]?).map (·.type)=some 132:=by kernel_rfl
theorem tPow:(Tryz.prog.globals[2]?).map (·.type)=some 264:=by kernel_rfl
theorem tErr:(Tryz.prog.globals[3]?).map (·.type)=some 94:=by kernel_rfl
theorem cell_of_var {W:World} {n:String} {g:Nat} {cs:Array Value} (hg:Tryz.prog.globalNamed n=some g) (h:W.var? Tryz.prog n=some cs):∃ t e,W.heap[g]?=some (.cells cs t e):=by
 unfold World.var? at h
 rw[hg] at h
 have h:(match W.heap[g]? with|some (.cells cs _ _)=>some cs|_=>none)=some cs:=h
 split at h
 ·rename_i cs' t e he
  injection h with h;subst h
  exact⟨t,e,he⟩
 ·cases h
noncomputable def tErrMs:Array (String×TypeId):=match Tryz.prog.underlying 94 with|some (.interface ms)=>ms|_=>#[]
abbrev theLaid:=Rows.sampleNamesRow.laid
theorem gok_of {W:World} (h:laidMetH Tryz.prog theLaid W) (hS:W.ShapedOpen Tryz.prog):gok W:=by
 rw[MakeChecks.laidMetH_plain _ _ _ (by kernel_rfl)] at h
 obtain⟨ps,⟨_,_,_,_,_,_,_,_,_,_,⟨_,_,_,_,_,_,_,_,_,_,⟨g2,t2,c2,f2,p2,q2,hg2,ht2,hv2,hd2,⟨_,_,_,_,_,_,_,_,_,_,⟨_,_,_,_,_,_,_,_,_,_,⟨g3,t3,c3,f3,p3,q3,hg3,ht3,hv3,hd3,⟨_,_,_,_,_,_,_,_,_,_,⟨g0,t0,c0,f0,p0,q0,hg0,ht0,hv0,hd0,_,_⟩,_⟩,_⟩,_⟩,_⟩,_⟩,_⟩,_⟩,_,_⟩:=h
 obtain rfl:=Option.some.inj (gPow.symm.trans hg2)
 obtain rfl:=Option.some.inj (gErr.symm.trans hg3)
 obtain rfl:=Option.some.inj (gSp.symm.trans hg0)
 obtain rfl:=Option.some.inj (tPow.symm.trans ht2)
 obtain rfl:=Option.some.inj (tErr.symm.trans ht3)
 obtain rfl:=Option.some.inj (tSp.symm.trans ht0)
 refine⟨fun c hc=>?_,?_,?_,Go.Proofs.cell_of_shapedOpen_int (zero:=#[.int .i64 0]) (t:=3) hS (of_decide_eq_true (by kernel_rfl)) (by kernel_rfl) rfl (by kernel_rfl) (by kernel_rfl) Tryz.underlying3⟩
 ·have e : Rows.laid_strings_asciiSpace (H := Unit) = Lib.tabData .u8 Lib.asciiSpaceTab := by kernel_rfl
  have hd0:DataW.trod _ Tryz.prog W _ _ _ f0 132 c0.toList=some (Rows.laid_strings_asciiSpace,p0):=hd0
  rw[e] at hd0
  have hcs:=Lib.cells_of_tab (n:=256) (e:=5) (by kernel_rfl) Tryz.underlying5 (by kernel_rfl) (by kernel_rfl) hd0
  have hT:Lib.TabIs Tryz.prog W "strings.asciiSpace" .u8 Lib.asciiSpaceTab:=by
   unfold Lib.TabIs
   rw[hv0,←hcs]
  rw[hT.cell gSp c (by rw[Lib.asciiSpaceTab_length];exact hc),Lib.asciiSpaceTab_at c hc]
 ·have e : Rows.laid_internal_strconv_uint64pow10 (H := Unit) = Lib.tabData .u64 Lib.pow10Tab := by kernel_rfl
  have hd2:DataW.trod _ Tryz.prog W _ _ _ f2 264 c2.toList=some (Rows.laid_internal_strconv_uint64pow10,p2):=hd2
  rw[e] at hd2
  have hcs:=Lib.cells_of_tab (n:=20) (e:=75) (by kernel_rfl) (by kernel_rfl) (by kernel_rfl) (by kernel_rfl) hd2
  obtain⟨t,e,h⟩:=cell_of_var gPow hv2
  exact⟨c2,t,e,h,by rw[←hcs]⟩
 ·have hd3 : DataW.trod _ Tryz.prog W _ _ _ f3 94 c3.toList = some (Rows.laid_strconv_ErrSyntax, p3) := hd3
  obtain⟨f',u,v,hc,_,_⟩:=iface_of_trod (name := "*errors.errorString") (ms:=tErrMs) (by kernel_rfl) hd3
  refine⟨u,v,?_⟩
  rw[World.var?_cell gErr hv3 0,show c3 = #[.iface u v] from by rw[←Array.toList_inj,hc]]
  rfl
theorem own:ownKnob Tryz.prog.godebug=none:=by kernel_rfl
theorem all_lt {W:World} (hgok:gok W):∀ b,gblk b→b<W.heap.size:=fun b hb=>by
 obtain⟨m,hm⟩:=hgok.len
 have:=World.block_lt_of_cell? _ _ hm
 unfold gblk at hb
 exact Nat.lt_of_lt_of_le hb this
end Go.Proofs.YtnhbhdopamdgpaaGreatDoor
namespace Go.Proofs.YtnhbhdopamdgpaaGreatDoor
open Go Go.Eng
set_option maxRecDepth 100000
noncomputable section
theorem mixQ:Tryz.prog.follows .mixedOrders=true:=by kernel_rfl
theorem o0:CallOK Tryz.prog O0:=lib0_ok
theorem all1:AllT (fun f l=>AllK (thawG (runQ O0 tab 20000)) f l) K1:=⟨trivial,⟨trivial,trivial,⟨trivial,⟨⟨k58,k59,k60,trivial⟩,trivial,⟨trivial,trivial,⟨trivial,⟨trivial,⟨⟨k10,k11,k12,k13,k14,k15,k16,k17,k18,k19,k20,k21,k22,k23,k24,k25,k26,k27,k28,k29,k30,k31,k32,k33,k34,k35,k36,k37,k38,k39,k64,k69,k70,k71,k72,k73,k74,k75,k76,k77,k78,k79,k80,k81,k82,k83,k84,k85,k86,k87,k130,k131,k132,k133,k134,k135,k136,k137,k138,k139,k140,k141,k142,k143,k144,k145,k146,k147,k148,k149,k150,k151,k152,k153,k154,k155,k156,k157,k158,k204,k205,k206,trivial⟩,trivial,trivial⟩,trivial⟩,trivial⟩⟩⟩,⟨⟨k0,trivial⟩,trivial,trivial⟩⟩⟩,⟨trivial,trivial,⟨trivial,trivial,⟨trivial,trivial,⟨trivial,trivial,⟨trivial,⟨⟨k1,k61,trivial⟩,trivial,trivial⟩,trivial⟩⟩⟩⟩⟩⟩
theorem o1:CallOK Tryz.prog O1:=altQ_ok (known_ok (thawG_ok (runQ_OK o0 mixQ libOK tabOK 20000)) (AllT.get all1)) o0
theorem all2:AllT (fun f l=>AllK (thawG (runQ O1 tab 20000)) f l) K2:=⟨trivial,⟨trivial,⟨trivial,⟨trivial,⟨trivial,⟨trivial,trivial,⟨⟨k2,k3,k4,k5,k6,k7,k8,k9,k62,k63,trivial⟩,trivial,trivial⟩⟩,trivial⟩,trivial⟩,trivial⟩,⟨trivial,trivial,⟨trivial,⟨trivial,⟨trivial,⟨trivial,⟨⟨k41,k43,k45,k47,k49,k51,k53,k55,k66,k89,k91,k93,k95,k97,k99,k101,k103,k105,k107,k109,k111,k113,k115,k117,k119,k121,k123,k125,k127,k160,k171,k183,k194,k208,k210,k212,trivial⟩,trivial,trivial⟩,trivial⟩,trivial⟩,trivial⟩,trivial⟩⟩⟩,trivial⟩
theorem o2:CallOK Tryz.prog O2:=altQ_ok (known_ok (thawG_ok (runQ_OK o1 mixQ libOK tabOK 20000)) (AllT.get all2)) o1
theorem all3:AllT (fun f l=>AllK (thawG (runQ O2 tab 20000)) f l) K3:=⟨trivial,⟨trivial,trivial,⟨trivial,⟨trivial,trivial,⟨trivial,trivial,⟨⟨k40,k65,k88,k159,k170,k182,k193,k207,trivial⟩,trivial,trivial⟩⟩⟩,trivial⟩⟩,trivial⟩
theorem o3:CallOK Tryz.prog O3:=altQ_ok (known_ok (thawG_ok (runQ_OK o2 mixQ libOK tabOK 20000)) (AllT.get all3)) o2
theorem all4:AllT (fun f l=>AllK (thawG (runQ O3 tab 20000)) f l) K4:=⟨trivial,⟨trivial,⟨trivial,⟨trivial,⟨trivial,trivial,⟨⟨k42,k44,k46,k48,k50,k52,k54,k56,k67,k90,k92,k94,k96,k98,k100,k102,k104,k106,k108,k110,k112,k114,k116,k118,k120,k122,k124,k126,k128,k161,k162,k163,k164,k165,k166,k167,k168,k172,k173,k174,k175,k176,k177,k178,k179,k184,k185,k186,k187,k188,k189,k190,k191,k195,k196,k197,k198,k199,k200,k201,k202,k209,k211,k213,trivial⟩,trivial,trivial⟩⟩,trivial⟩,trivial⟩,trivial⟩,trivial⟩
theorem o4:CallOK Tryz.prog O4:=altQ_ok (known_ok (thawG_ok (runQ_OK o3 mixQ libOK tabOK 20000)) (AllT.get all4)) o3
theorem all5:AllT (fun f l=>AllK (thawG (runQ O4 tab 20000)) f l) K5:=⟨trivial,⟨trivial,trivial,⟨trivial,⟨⟨k68,k129,k214,trivial⟩,trivial,trivial⟩,⟨⟨k57,k169,k180,k181,k192,k203,trivial⟩,trivial,trivial⟩⟩⟩,trivial⟩
theorem o5:CallOK Tryz.prog O5:=altQ_ok (known_ok (thawG_ok (runQ_OK o4 mixQ libOK tabOK 20000)) (AllT.get all5)) o4
theorem all6:AllT (fun f l=>AllK (thawG (runQ O5 tab 20000)) f l) K6:=⟨trivial,trivial,⟨trivial,⟨trivial,trivial,⟨⟨k215,trivial⟩,trivial,trivial⟩⟩,trivial⟩⟩
theorem o6:CallOK Tryz.prog O6:=altQ_ok (known_ok (thawG_ok (runQ_OK o5 mixQ libOK tabOK 20000)) (AllT.get all6)) o5
theorem run:(runQ O6 tab 20000 6 [] [.lf] .lf 0).map (·.1)=some (.d (.sc (.bool true))):=by kernel_rfl
theorem callQ:CallOK Tryz.prog (runQ O6 tab 20000):=runQ_OK o6 mixQ libOK tabOK 20000
end
end Go.Proofs.YtnhbhdopamdgpaaGreatDoor
namespace Go.Proofs.YtnhbhdopamdgpaaGreatDoor
open Go Go.Eng Go.ChangeShapes Go.WideShapes Go.ChangeAt Go.RowKit
set_option maxRecDepth 100000
theorem names_walk (w:World) (hg:(∀ b,gblk b→b<w.heap.size)∧gok w):Calls Tryz.prog 6 #[] w fun e w'=>e=.returned (.bool true)∧Below w.heap.size w w':=
 bool_callsO callQ run w hg
theorem names_lifted (os:Os) (started:os.Started) (H:Type) (enc:TypeId×Value→H) :
  ReturnsInHanded {} Tryz.checked os 6 .any (fun w args=>(Rows.sampleNamesSpec.pre enc Tryz.prog Tryz.f6 Rows.sampleNamesRow.domain false w args∧laidMetH Tryz.prog theLaid w)∧sizedMet enc Tryz.prog Tryz.f6 (OpenSpec.ofChange Rows.sampleNamesSpec) false w args)
   (Rows.sampleNamesSpec.post enc Tryz.prog Tryz.f6 false true false false):=by
 refine returnsInHanded_of_calls own started (by kernel_rfl)
  (ChangeSpec.witness_shaped (enc := enc) (C := Tryz.checked) (os := os) (X := fun w _ => laidMetH Tryz.prog theLaid w) false (World.laidAll Tryz.prog os theLaid) #[] 8 (World.laidAll_os _ _ _)
   (World.shaped_of_ZipB (by kernel_rfl) (by kernel_rfl)) (by kernel_rfl) (by kernel_rfl) (by kernel_rfl)
   (by rw[MakeChecks.laidMetH_plain _ _ _ (by kernel_rfl)];exact laidMet_laidAll _ (by kernel_rfl) (by kernel_rfl))) ?_
 intro w tape i _ hsh _ hok hpre hholds
 obtain⟨⟨⟨ds,gs,before,hw,hc⟩,hx⟩,hz⟩:=hpre
 have hW:DataW.Whole enc Tryz.prog Tryz.f6.params.toList Rows.sampleNamesSpec.vars false (w.forCall tape i) i.args.toList ds gs before:=DataW.Whole.of_heap (w':=w.forCall tape i) (by rfl) hw
 have hL:laidMetH Tryz.prog theLaid (w.forCall tape i):=hx.of_heap (by rfl)
 have hgok:=gok_of hL hsh
 generalize w.forCall tape i=W at *
 generalize i.args=args at *
 have hW':=hW
 obtain⟨p,q,hA0,hV,rfl,_,_⟩:=hW
 have hA:DataW.TrodAll enc Tryz.prog W 0 (fun _=>true) true Tryz.f6.params.toList args.toList ds p:=hA0
 rw[Tryz.params6] at hA
 obtain⟨rfl,rfl,rfl⟩:=trodAll_none hA
 obtain⟨rfl,rfl⟩:=trodVars_none hV
 clear hA0
 simp only[List.append_nil] at hW'
 refine (names_walk W ⟨all_lt hgok,hgok⟩).mono fun e W' ⟨he,hb⟩=>?_
 subst he
 exact ChangeSpec.post_blind ⟨_,_,_,[],_,[],hW',trodAll_mk1 (shut_bool Tryz.underlying4 _),trodAll_mk0,rfl,hb.frame _,fun h=>by cases h⟩
theorem closed6:joinedFacts Tryz.pinned.checked.prog 6 Tryz.f6 Rows.sampleNamesSpec Rows.sampleNamesRow=true:=by kernel_rfl
theorem inst6:Tryz.f6.isInstance Tryz.pinned.checked.prog Rows.sampleNamesRow.origin Rows.sampleNamesRow.targs:=of_decide_eq_true (by kernel_rfl)
theorem named6:Tryz.pinned.checked.prog.funcNamed Rows.sampleNamesRow.func=some 6:=by kernel_rfl
theorem wrap6:Tryz.f6.isWrapper Tryz.pinned.checked.prog Rows.sampleNamesRow.wrapper Rows.sampleNamesRow.mainSum:=by unfold Func.isWrapper;first|(rw[if_pos (by decide +kernel)];kernel_rfl)|(rw[if_neg (by decide +kernel)];exact⟨rfl,rfl⟩)
theorem names_holds:Rows.SampleNamesSaid:=
 OpenClaim.holds_of_wide 6 Tryz.f6 rfl rfl rfl rfl rfl rfl rfl ⟨rfl,rfl,rfl,rfl,rfl⟩ rfl rfl rfl rfl rfl named6 Tryz.func6 closed6 inst6 wrap6
  (fun os started H enc _=>names_lifted os started H enc)
theorem card_holds:Rows.SampleNamesCardSaid:=
 Claim7.holds_tied_plain_at .later [] [.data,.data,.data,.data,.sentinel,.sentinel,.listed,.data,.pinned] true (true, "26ade28de5f2febc5b42cbb2030cced691df44afd4457b526c8aab367ae0033f") true
  names_holds (fun _ h=>by cases h) (by kernel_rfl) (fun _ h=>by cases h) sampleNames_row_tie rfl ⟨rfl,rfl⟩ (by kernel_rfl) rfl
  (fun f fn hf hfn => by
   obtain rfl:f=6:=Option.some.inj ((show Tryz.prog.funcNamed "wreckage/wreckagelaw12.SampleNames" = some 6 by kernel_rfl).symm.trans hf) |>.symm
   obtain rfl:fn=Tryz.f6:=(Option.some.inj (Tryz.func6.symm.trans hfn)).symm
   exact⟨by kernel_rfl,fun j t ht=>by
    rw[Tryz.params6] at ht
    simp at ht⟩)
  (by kernel_rfl)
#print axioms card_holds
end Go.Proofs.YtnhbhdopamdgpaaGreatDoor
