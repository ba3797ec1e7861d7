/- A part of the proof: G12, K12s, Names12s. -/
import Derived.Test.YtnhbhdopamdgpaaGreatDoorLib12A
import Derived.Test.YtnhbhdopamdgpaaGreatDoorTie
import Derived.Test.YtnhbhdopamdgpaaGreatDoorCards
import Derived.Shelf.Vars
import Derived.Laws.Rows
import Derived.ChangeSame
import Derived.JoinedOf
import Derived.JoinedAt
import Derived.JoinedStill
import Derived.RowKit
import Derived.ProofKit
import Derived.OpenShut
import Derived.LaidMore
import Derived.LaidLaws
import Derived.Lay
import Derived.SevenTiedAt
import Derived.Stop.Joined
import Derived.HandedShaped
import Derived.Test.YtnhbhdopamdgpaaGreatDoorP12sd
import Derived.Test.YtnhbhdopamdgpaaGreatDoorP12sh
import Derived.Test.YtnhbhdopamdgpaaGreatDoorP12sl
import Derived.Test.YtnhbhdopamdgpaaGreatDoorP12sp
import Derived.Test.YtnhbhdopamdgpaaGreatDoorP12ss
import Derived.Test.YtnhbhdopamdgpaaGreatDoorR12sd
namespace Go.Proofs.YtnhbhdopamdgpaaGreatDoor
open Go Go.Eng Go.ChangeShapes Go.WideShapes Go.ChangeAt Go.RowKit
set_option maxRecDepth 100000
theorem gSp:Tryz.prog.globalNamed "strings.asciiSpace" = some 0:=by kernel_rfl
theorem gErr:Tryz.prog.globalNamed "strconv.ErrSyntax" = some 3:=by kernel_rfl
theorem tSp:(Tryz.prog.globals[0]?).map (·.type)=some 132:=by kernel_rfl
theorem tPow:(Tryz.prog.globals[2]?).map (·.type)=some 264:=by kernel_rfl
theorem tErr:(Tryz.prog.globals[3]?).map (·.type)=some 94:=by kernel_rfl
theorem cell_of_var {W:World} {n:String} {g:Nat} {cs:Array Value} (hg:Tryz.prog.globalNamed n=some g) (h:W.var? Tryz.prog n=some cs):∃ t e,W.heap[g]?=some (.cells cs t e):=by
 unfold World.var? at h
 rw[hg] at h
 have h:(match W.heap[g]? with|some (.cells cs _ _)=>some cs|_=>none)=some cs:=h
 split at h
 ·rename_i cs' t e he
  injection h with h;subst h
  exact⟨t,e,he⟩
 ·cases h
noncomputable def tErrMs:Array (String×TypeId):=match Tryz.prog.underlying 94 with|some (.interface ms)=>ms|_=>#[]
abbrev theLaid:=Rows.sampleNamesRow.laid
theorem gok_of {W:World} (h:laidMetH Tryz.prog theLaid W) (hS:W.ShapedOpen Tryz.prog):gok W:=by
 rw[MakeChecks.laidMetH_plain _ _ _ (by kernel_rfl)] at h
 obtain⟨ps,⟨_,_,_,_,_,_,_,_,_,_,⟨_,_,_,_,_,_,_,_,_,_,⟨g2,t2,c2,f2,p2,q2,hg2,ht2,hv2,hd2,⟨_,_,_,_,_,_,_,_,_,_,⟨_,_,_,_,_,_,_,_,_,_,⟨g3,t3,c3,f3,p3,q3,hg3,ht3,hv3,hd3,⟨_,_,_,_,_,_,_,_,_,_,⟨g0,t0,c0,f0,p0,q0,hg0,ht0,hv0,hd0,_,_⟩,_⟩,_⟩,_⟩,_⟩,_⟩,_⟩,_⟩,_,_⟩:=h
 obtain rfl:=Option.some.inj (gPow.symm.trans hg2)
 obtain rfl:=Option.some.inj (gErr.symm.trans hg3)
 obtain rfl:=Option.some.inj (gSp.symm.trans hg0)
 obtain rfl:=Option.some.inj (tPow.symm.trans ht2)
 obtain rfl:=Option.some.inj (tErr.symm.trans ht3)
 obtain rfl:=Option.some.inj (tSp.symm.trans ht0)
 refine⟨fun c hc=>?_,?_,?_,Go.Proofs.cell_of_shapedOpen_int (zero:=#[.int .i64 0]) (t:=3) hS (of_decide_eq_true (by kernel_rfl)) (by kernel_rfl) rfl (by kernel_rfl) (by kernel_rfl) Tryz.underlying3⟩
 ·have e : Rows.laid_strings_asciiSpace (H := Unit) = Lib.tabData .u8 Lib.asciiSpaceTab := by kernel_rfl
  have hd0:DataW.trod _ Tryz.prog W _ _ _ f0 132 c0.toList=some (Rows.laid_strings_asciiSpace,p0):=hd0
  rw[e] at hd0
  have hcs:=Lib.cells_of_tab (n:=256) (e:=5) (by kernel_rfl) Tryz.underlying5 (by kernel_rfl) (by kernel_rfl) hd0
  have hT:Lib.TabIs Tryz.prog W "strings.asciiSpace" .u8 Lib.asciiSpaceTab:=by
   unfold Lib.TabIs
   rw[hv0,←hcs]
  rw[hT.cell gSp c (by rw[Lib.asciiSpaceTab_length];exact hc),Lib.asciiSpaceTab_at c hc]
 ·have e : Rows.laid_internal_strconv_uint64pow10 (H := Unit) = Lib.tabData .u64 Lib.pow10Tab := by kernel_rfl
  have hd2:DataW.trod _ Tryz.prog W _ _ _ f2 264 c2.toList=some (Rows.laid_internal_strconv_uint64pow10,p2):=hd2
  rw[e] at hd2
  have hcs:=Lib.cells_of_tab (n:=20) (e:=75) (by kernel_rfl) (by kernel_rfl) (by kernel_rfl) (by kernel_rfl) hd2
  obtain⟨t,e,h⟩:=cell_of_var gPow hv2
  exact⟨c2,t,e,h,by rw[←hcs]⟩
 ·have hd3 : DataW.trod _ Tryz.prog W _ _ _ f3 94 c3.toList = some (Rows.laid_strconv_ErrSyntax, p3) := hd3
  obtain⟨f',u,v,hc,_,_⟩:=iface_of_trod (name := "*errors.errorString") (ms:=tErrMs) (by kernel_rfl) hd3
  refine⟨u,v,?_⟩
  rw[World.var?_cell gErr hv3 0,show c3 = #[.iface u v] from by rw[←Array.toList_inj,hc]]
  rfl
theorem own:ownKnob Tryz.prog.godebug=none:=by kernel_rfl
theorem all_lt {W:World} (hgok:gok W):∀ b,gblk b→b<W.heap.size:=fun b hb=>by
 obtain⟨m,hm⟩:=hgok.len
 have:=World.block_lt_of_cell? _ _ hm
 unfold gblk at hb
 exact Nat.lt_of_lt_of_le hb this
end Go.Proofs.YtnhbhdopamdgpaaGreatDoor
namespace Go.Proofs.YtnhbhdopamdgpaaGreatDoor
open Go Go.Eng
set_option maxRecDepth 100000
noncomputable section
theorem mixQ:Tryz.prog.follows .mixedOrders=true:=by kernel_rfl
theorem o0:CallOK Tryz.prog O0:=lib0_ok
theorem all1:AllT (fun f l=>AllK (thawG (runQ O0 tab 20000)) f l) K1:=⟨trivial,⟨trivial,⟨trivial,trivial,⟨⟨k139,k141,k142,k143,k145,k150,k151,k152,k153,k154,k157,k158,k159,k160,k161,k165,k166,k167,k168,k170,k179,k180,k181,k182,k183,trivial⟩,trivial,trivial⟩⟩,⟨trivial,⟨trivial,trivial,⟨trivial,trivial,⟨trivial,⟨trivial,⟨⟨k9,k10,k11,k12,k13,k14,k15,k16,k17,k18,k19,k20,k21,k22,k23,k24,k25,k26,k27,k28,k29,k30,k31,k32,k33,k34,k35,k36,k37,k56,k57,k72,k73,k74,k75,k76,k86,k87,k99,k111,k123,k124,trivial⟩,trivial,trivial⟩,trivial⟩,trivial⟩⟩⟩,trivial⟩⟩,⟨trivial,trivial,⟨trivial,⟨trivial,⟨⟨k140,k144,k146,k147,k169,k172,k173,k174,k175,k184,k186,k187,k188,k189,k191,k192,k193,k194,trivial⟩,trivial,trivial⟩,trivial⟩,⟨trivial,⟨⟨k138,k164,k171,k178,k185,k190,trivial⟩,trivial,trivial⟩,⟨trivial,trivial,⟨trivial,⟨⟨k0,k69,trivial⟩,trivial,trivial⟩,trivial⟩⟩⟩⟩⟩⟩
theorem o1:CallOK Tryz.prog O1:=altQ_ok (known_ok (thawG_ok (runQ_OK o0 mixQ libOK tabOK 20000)) (AllT.get all1)) o0
theorem all2:AllT (fun f l=>AllK (thawG (runQ O1 tab 20000)) f l) K2:=⟨trivial,⟨trivial,⟨trivial,⟨trivial,⟨trivial,⟨trivial,trivial,⟨⟨k1,k2,k3,k4,k5,k6,k7,k8,k70,k71,trivial⟩,trivial,trivial⟩⟩,trivial⟩,trivial⟩,trivial⟩,⟨trivial,trivial,⟨trivial,⟨trivial,⟨trivial,⟨trivial,⟨⟨k39,k41,k43,k45,k47,k49,k51,k53,k59,k78,k80,k82,k89,k101,k113,k126,trivial⟩,trivial,trivial⟩,trivial⟩,trivial⟩,trivial⟩,trivial⟩⟩⟩,trivial⟩
theorem o2:CallOK Tryz.prog O2:=altQ_ok (known_ok (thawG_ok (runQ_OK o1 mixQ libOK tabOK 20000)) (AllT.get all2)) o1
theorem all3:AllT (fun f l=>AllK (thawG (runQ O2 tab 20000)) f l) K3:=⟨trivial,⟨trivial,trivial,⟨trivial,⟨trivial,trivial,⟨trivial,trivial,⟨⟨k38,k58,k77,k88,k100,k112,k125,k136,k148,k155,k162,k176,trivial⟩,trivial,trivial⟩⟩⟩,trivial⟩⟩,trivial⟩
theorem o3:CallOK Tryz.prog O3:=altQ_ok (known_ok (thawG_ok (runQ_OK o2 mixQ libOK tabOK 20000)) (AllT.get all3)) o2
theorem all4:AllT (fun f l=>AllK (thawG (runQ O3 tab 20000)) f l) K4:=⟨trivial,⟨trivial,⟨trivial,⟨trivial,⟨trivial,trivial,⟨⟨k40,k42,k44,k46,k48,k50,k52,k54,k60,k61,k62,k63,k64,k65,k66,k67,k79,k81,k83,k90,k91,k92,k93,k94,k95,k96,k97,k102,k103,k104,k105,k106,k107,k108,k109,k114,k115,k116,k117,k118,k119,k120,k121,k127,k128,k129,k130,k131,k132,k133,k134,trivial⟩,trivial,trivial⟩⟩,trivial⟩,trivial⟩,⟨trivial,trivial,⟨trivial,⟨⟨k137,k149,k156,k163,k177,trivial⟩,trivial,trivial⟩,trivial⟩⟩⟩,trivial⟩
theorem o4:CallOK Tryz.prog O4:=altQ_ok (known_ok (thawG_ok (runQ_OK o3 mixQ libOK tabOK 20000)) (AllT.get all4)) o3
theorem all5:AllT (fun f l=>AllK (thawG (runQ O4 tab 20000)) f l) K5:=⟨trivial,⟨trivial,trivial,⟨trivial,⟨⟨k84,trivial⟩,trivial,trivial⟩,⟨⟨k55,k68,k98,k110,k122,k135,trivial⟩,trivial,trivial⟩⟩⟩,trivial⟩
theorem o5:CallOK Tryz.prog O5:=altQ_ok (known_ok (thawG_ok (runQ_OK o4 mixQ libOK tabOK 20000)) (AllT.get all5)) o4
theorem all6:AllT (fun f l=>AllK (thawG (runQ O5 tab 20000)) f l) K6:=⟨trivial,trivial,⟨trivial,⟨trivial,trivial,⟨⟨k85,trivial⟩,trivial,trivial⟩⟩,trivial⟩⟩
theorem o6:CallOK Tryz.prog O6:=altQ_ok (known_ok (thawG_ok (runQ_OK o5 mixQ libOK tabOK 20000)) (AllT.get all6)) o5
theorem callQ:CallOK Tryz.prog (runQ O6 tab 20000):=runQ_OK o6 mixQ libOK tabOK 20000
end
end Go.Proofs.YtnhbhdopamdgpaaGreatDoor
namespace Go.Proofs.YtnhbhdopamdgpaaGreatDoor
open Go Go.Eng Go.ChangeShapes Go.WideShapes Go.ChangeAt Go.RowKit
set_option maxRecDepth 100000
theorem bool_calls2 {P:Program} {call:Go.Eng.Call} (hc:CallOK P call) {f:Nat} {a b:Int} (h:(call f [.d (.sc (.int .u8 a)),.d (.sc (.int .u8 b))] [.lf] .lf 0).map (·.1)=some (.d (.sc (.bool true)))) (w:World) (hg:(∀ b,gblk b→b<w.heap.size)∧gok w) :
  Calls P f #[.int .u8 a,.int .u8 b] w fun e w'=>e=.returned (.bool true)∧Below w.heap.size w w':=by
 obtain⟨⟨r,m,t,v⟩,hr,he⟩:=opt_map h
 obtain⟨_,hc⟩:=hc f _ [.lf] .lf 0 r m t v hr (cx0 w) #[.int .u8 a,.int .u8 b] (cx0_mem w hg _ memGet_lf) (fun _ _=>rfl) ⟨.of_VC (DR.sc _ rfl),.of_VC (DR.sc _ rfl),trivial⟩
 refine hc.mono ?_
 rintro e w' ⟨Y,u,rfl,rfl,hx,hv,_⟩
 dsimp only at he
 subst he
 cases hv
 exact⟨rfl,hx.below.toBelow⟩
def Good (m n:Nat):Prop:=(runQ O6 tab 20000 7 [.d (.sc (.int .u8 (Int.ofNat m))),.d (.sc (.int .u8 (Int.ofNat n)))] [.lf] .lf 0).map (·.1)=some (.d (.sc (.bool true)))
theorem g0:∀ n,Good 0 n
 |0=>r0_0
 |1=>r0_1
 |2=>r0_2
 |3=>r0_3
 |4=>r0_4
 |5=>r0_5
 |6=>r0_6
 |7=>r0_7
 |8=>r0_8
 |l+9=>r0_9 l
theorem g1:∀ n,Good 1 n
 |0=>r1_0
 |1=>r1_1
 |2=>r1_2
 |3=>r1_3
 |4=>r1_4
 |5=>r1_5
 |6=>r1_6
 |7=>r1_7
 |8=>r1_8
 |l+9=>r1_9 l
theorem g2:∀ n,Good 2 n
 |0=>r2_0
 |1=>r2_1
 |2=>r2_2
 |3=>r2_3
 |4=>r2_4
 |5=>r2_5
 |6=>r2_6
 |7=>r2_7
 |8=>r2_8
 |l+9=>r2_9 l
theorem g3:∀ n,Good 3 n
 |0=>r3_0
 |1=>r3_1
 |2=>r3_2
 |3=>r3_3
 |4=>r3_4
 |5=>r3_5
 |6=>r3_6
 |7=>r3_7
 |8=>r3_8
 |l+9=>r3_9 l
theorem g4:∀ n,Good 4 n
 |0=>r4_0
 |1=>r4_1
 |2=>r4_2
 |3=>r4_3
 |4=>r4_4
 |5=>r4_5
 |6=>r4_6
 |7=>r4_7
 |8=>r4_8
 |l+9=>r4_9 l
theorem g5:∀ n,Good 5 n
 |0=>r5_0
 |1=>r5_1
 |2=>r5_2
 |3=>r5_3
 |4=>r5_4
 |5=>r5_5
 |6=>r5_6
 |7=>r5_7
 |8=>r5_8
 |l+9=>r5_9 l
theorem g6:∀ n,Good 6 n
 |0=>r6_0
 |1=>r6_1
 |2=>r6_2
 |3=>r6_3
 |4=>r6_4
 |5=>r6_5
 |6=>r6_6
 |7=>r6_7
 |8=>r6_8
 |l+9=>r6_9 l
theorem g7:∀ n,Good 7 n
 |0=>r7_0
 |1=>r7_1
 |2=>r7_2
 |3=>r7_3
 |4=>r7_4
 |5=>r7_5
 |6=>r7_6
 |7=>r7_7
 |8=>r7_8
 |l+9=>r7_9 l
theorem g8:∀ n,Good 8 n
 |0=>r8_0
 |1=>r8_1
 |2=>r8_2
 |3=>r8_3
 |4=>r8_4
 |5=>r8_5
 |6=>r8_6
 |7=>r8_7
 |8=>r8_8
 |l+9=>r8_9 l
theorem g9 (k:Nat):∀ n,Good (k+9) n
 |0=>r9_0 k
 |1=>r9_1 k
 |2=>r9_2 k
 |3=>r9_3 k
 |4=>r9_4 k
 |5=>r9_5 k
 |6=>r9_6 k
 |7=>r9_7 k
 |8=>r9_8 k
 |l+9=>r9_9 k l
theorem good:∀ m n,Good m n
 |0,n=>g0 n
 |1,n=>g1 n
 |2,n=>g2 n
 |3,n=>g3 n
 |4,n=>g4 n
 |5,n=>g5 n
 |6,n=>g6 n
 |7,n=>g7 n
 |8,n=>g8 n
 |k+9,n=>g9 k n
theorem shows_lifted (os:Os) (started:os.Started) (H:Type) (enc:TypeId×Value→H) :
  ReturnsInHanded {} Tryz.checked os 7 .any (fun w args=>(Rows.sampleShowsSpec.pre enc Tryz.prog Tryz.f7 Rows.sampleShowsRow.domain false w args∧laidMetH Tryz.prog theLaid w)∧sizedMet enc Tryz.prog Tryz.f7 (OpenSpec.ofChange Rows.sampleShowsSpec) false w args)
   (Rows.sampleShowsSpec.post enc Tryz.prog Tryz.f7 false true false false):=by
 refine returnsInHanded_of_calls own started (by kernel_rfl)
  (ChangeSpec.witness_shaped (enc := enc) (C := Tryz.checked) (os := os) (X := fun w _ => laidMetH Tryz.prog theLaid w) false (World.laidAll Tryz.prog os theLaid) #[.int .u8 0, .int .u8 0] 8 (World.laidAll_os _ _ _)
   (World.shaped_of_ZipB (by kernel_rfl) (by kernel_rfl)) (by kernel_rfl) (by kernel_rfl) (by kernel_rfl)
   (by rw[MakeChecks.laidMetH_plain _ _ _ (by kernel_rfl)];exact laidMet_laidAll _ (by kernel_rfl) (by kernel_rfl))) ?_
 intro w tape i _ hsh _ hok hpre hholds
 obtain⟨_,_,_,fn',hfn',_,_,_,_,hval0⟩:=hok
 have e:fn'=Tryz.f7:=Option.some.inj (hfn'.symm.trans Tryz.func7)
 subst e
 obtain⟨⟨⟨ds,gs,before,hw,hc⟩,hx⟩,hz⟩:=hpre
 have hW:DataW.Whole enc Tryz.prog Tryz.f7.params.toList Rows.sampleShowsSpec.vars false (w.forCall tape i) i.args.toList ds gs before:=DataW.Whole.of_heap (w':=w.forCall tape i) (by rfl) hw
 have hL:laidMetH Tryz.prog theLaid (w.forCall tape i):=hx.of_heap (by rfl)
 have hgok:=gok_of hL hsh
 have hval:∀ (j:Nat) t v,Tryz.f7.params[j]?=some t→i.args[j]?=some v→Value.okWide Tryz.prog (w.forCall tape i) .any w.heap.size t v:=hval0
 generalize w.forCall tape i=W at *
 generalize i.args=args at *
 have hW':=hW
 obtain⟨p,q,hA0,hV,rfl,_,_⟩:=hW
 have hA:DataW.TrodAll enc Tryz.prog W 0 (fun _=>true) true Tryz.f7.params.toList args.toList ds p:=hA0
 rw[Tryz.params7] at hA hval
 obtain⟨v0,v1,d0,d1,p0,p1,rfl,rfl,rfl,h0,h1⟩:=trodAll_two hA
 obtain⟨rfl,rfl⟩:=trodVars_none hV
 obtain⟨x,rfl,rfl,rfl,wx⟩:=open_int Tryz.underlying5 (hval 0 5 v0 rfl rfl) h0
 obtain⟨y,rfl,rfl,rfl,wy⟩:=open_int Tryz.underlying5 (hval 1 5 v1 rfl rfl) h1
 have pos:∀ z:Int,(Lit.int .u8 z).wf=true→∃ n:Nat,z=Int.ofNat n:=fun z hz=>by
  have h:(decide (IntKind.u8.min≤z)&&decide (z≤IntKind.u8.max))=true:=hz
  rw[Bool.and_eq_true] at h
  have h1:(0:Int)≤z:=of_decide_eq_true h.1
  exact⟨z.toNat,by simp only[Int.ofNat_eq_natCast];omega⟩
 obtain⟨m,rfl⟩:=pos x wx
 obtain⟨n,rfl⟩:=pos y wy
 clear hA0
 simp only[List.append_nil] at hW'
 refine (bool_calls2 callQ (good m n) W ⟨all_lt hgok,hgok⟩).mono fun e W' ⟨he,hb⟩=>?_
 subst he
 exact ChangeSpec.post_blind ⟨_,_,_,[],_,[],hW',trodAll_mk1 (shut_bool Tryz.underlying4 _),trodAll_mk2 (shut_int Tryz.underlying5 wx) (shut_int Tryz.underlying5 wy),rfl,hb.frame _,fun h=>by cases h⟩
theorem closed7:joinedFacts Tryz.pinned.checked.prog 7 Tryz.f7 Rows.sampleShowsSpec Rows.sampleShowsRow=true:=by kernel_rfl
theorem inst7:Tryz.f7.isInstance Tryz.pinned.checked.prog Rows.sampleShowsRow.origin Rows.sampleShowsRow.targs:=of_decide_eq_true (by kernel_rfl)
theorem named7:Tryz.pinned.checked.prog.funcNamed Rows.sampleShowsRow.func=some 7:=by kernel_rfl
theorem wrap7:Tryz.f7.isWrapper Tryz.pinned.checked.prog Rows.sampleShowsRow.wrapper Rows.sampleShowsRow.mainSum:=by unfold Func.isWrapper;first|(rw[if_pos (by decide +kernel)];kernel_rfl)|(rw[if_neg (by decide +kernel)];exact⟨rfl,rfl⟩)
theorem shows_holds:Rows.SampleShowsSaid:=
 OpenClaim.holds_of_wide 7 Tryz.f7 rfl rfl rfl rfl rfl rfl rfl ⟨rfl,rfl,rfl,rfl,rfl⟩ rfl rfl rfl rfl rfl named7 Tryz.func7 closed7 inst7 wrap7
  (fun os started H enc _=>shows_lifted os started H enc)
theorem card_holds:Rows.SampleShowsCardSaid:=
 Claim7.holds_tied_plain_at .later [] [.data,.data,.data,.data,.sentinel,.sentinel,.listed,.data,.pinned] true (true, "26ade28de5f2febc5b42cbb2030cced691df44afd4457b526c8aab367ae0033f") true
  shows_holds (fun _ h=>by cases h) (by kernel_rfl) (fun _ h=>by cases h) sampleShows_row_tie rfl ⟨rfl,rfl⟩ (by kernel_rfl) rfl
  (fun f fn hf hfn => by
   obtain rfl:f=7:=Option.some.inj ((show Tryz.prog.funcNamed "wreckage/wreckagelaw12.SampleShows" = some 7 by kernel_rfl).symm.trans hf) |>.symm
   obtain rfl:fn=Tryz.f7:=(Option.some.inj (Tryz.func7.symm.trans hfn)).symm
   exact⟨by kernel_rfl,fun j t ht=>by
    rw[Tryz.params7] at ht
    have hm:t∈[5,5]:=by simpa using Array.mem_of_getElem? ht
    have hall:([5,5].all fun u=>!Tryz.prog.wantsStandIn u)=true:=by kernel_rfl
    exact (show Tryz.prog.wantsStandIn t=false by simpa using List.all_eq_true.1 hall t hm)⟩)
  (by kernel_rfl)
#print axioms card_holds
end Go.Proofs.YtnhbhdopamdgpaaGreatDoor
