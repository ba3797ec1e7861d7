/- A part of the proof: K22n, Names22n. -/
import Derived.Test.YtajppidmbkjpcaaGreatP22nd
import Derived.Test.YtajppidmbkjpcaaGreatP22nh
import Derived.Test.YtajppidmbkjpcaaGreatP22nl
import Derived.Test.YtajppidmbkjpcaaGreatP22np
import Derived.Test.YtajppidmbkjpcaaGreatFa22n
import Derived.Laws.Rows
import Derived.ChangeSame
import Derived.JoinedOf
import Derived.JoinedAt
import Derived.JoinedStill
import Derived.RowKit
import Derived.ProofKit
namespace Go.Proofs.YtajppidmbkjpcaaGreat
open Go Go.Eng
set_option maxRecDepth 100000
noncomputable section
theorem o0:CallOK Tryz.prog O0:=lib0_ok
theorem all1:AllT (fun f l=>AllK (thawG (runQ O0 tab 20000)) f l) K1:=⟨trivial,⟨trivial,trivial,⟨trivial,trivial,⟨trivial,⟨⟨k136,k141,k142,k144,k147,k180,k193,k200,k207,k220,k227,k234,k241,k248,k255,k262,trivial⟩,⟨trivial,⟨trivial,⟨trivial,⟨⟨k86,trivial⟩,trivial,trivial⟩,trivial⟩,trivial⟩,trivial⟩,trivial⟩,trivial⟩⟩⟩,⟨trivial,⟨trivial,trivial,⟨trivial,trivial,⟨trivial,⟨trivial,⟨trivial,trivial,⟨trivial,⟨⟨k95,k96,k97,k98,k99,k100,k101,k102,k103,k104,k105,k106,k107,k108,k109,k110,k111,k112,k113,k114,k115,k116,k117,k118,k119,k120,k121,k122,k123,k124,k125,k172,k173,k174,trivial⟩,trivial,trivial⟩,trivial⟩⟩,trivial⟩,trivial⟩⟩⟩,⟨trivial,trivial,⟨trivial,⟨trivial,trivial,⟨trivial,trivial,⟨⟨k0,trivial⟩,trivial,trivial⟩⟩⟩,⟨trivial,trivial,⟨trivial,trivial,⟨⟨k2,k4,k6,k8,k10,k12,k14,k16,k149,trivial⟩,trivial,trivial⟩⟩⟩⟩⟩⟩⟩
theorem o1:CallOK Tryz.prog O1:=altQ_ok (known_ok (thawG_ok (runQ_OK o0 mixQ libOK tabOK 20000)) (AllT.get all1)) o0
theorem all2:AllT (fun f l=>AllK (thawG (runQ O1 tab 20000)) f l) K2:=⟨trivial,⟨trivial,⟨trivial,⟨trivial,⟨trivial,trivial,⟨trivial,trivial,⟨trivial,⟨⟨k87,k88,k89,k90,k91,k92,k93,k94,trivial⟩,trivial,trivial⟩,trivial⟩⟩⟩,trivial⟩,trivial⟩,⟨trivial,trivial,⟨trivial,⟨trivial,⟨trivial,⟨⟨k30,k83,k171,trivial⟩,trivial,trivial⟩,trivial⟩,trivial⟩,trivial⟩⟩⟩,⟨trivial,⟨trivial,⟨trivial,trivial,⟨trivial,trivial,⟨trivial,trivial,⟨trivial,⟨trivial,⟨⟨k127,k128,k129,k130,k131,k132,k133,k134,k176,trivial⟩,trivial,trivial⟩,trivial⟩,trivial⟩⟩⟩⟩,⟨trivial,trivial,⟨trivial,⟨trivial,⟨⟨k3,k5,k7,k9,k11,k13,k15,k17,k19,k20,k21,k22,k23,k24,k25,k26,k150,k151,k152,k153,k154,k155,k156,k157,k159,k160,k161,k162,k163,k164,k165,k166,trivial⟩,trivial,trivial⟩,trivial⟩,trivial⟩⟩⟩,⟨trivial,⟨trivial,trivial,⟨trivial,⟨trivial,⟨⟨k1,k18,k148,k158,trivial⟩,trivial,trivial⟩,trivial⟩,trivial⟩⟩,trivial⟩⟩⟩
theorem o2:CallOK Tryz.prog O2:=altQ_ok (known_ok (thawG_ok (runQ_OK o1 mixQ libOK tabOK 20000)) (AllT.get all2)) o1
theorem all3:AllT (fun f l=>AllK (thawG (runQ O2 tab 20000)) f l) K3:=⟨trivial,⟨trivial,⟨trivial,⟨trivial,⟨trivial,trivial,⟨trivial,⟨⟨k33,k38,k43,k48,k53,k58,k63,k68,k73,k78,trivial⟩,trivial,trivial⟩,trivial⟩⟩,trivial⟩,⟨trivial,trivial,⟨trivial,trivial,⟨⟨k27,k167,trivial⟩,trivial,trivial⟩⟩⟩⟩,⟨trivial,⟨trivial,trivial,⟨trivial,trivial,⟨trivial,⟨⟨k126,k175,trivial⟩,trivial,trivial⟩,trivial⟩⟩⟩,trivial⟩⟩,⟨trivial,⟨trivial,⟨trivial,⟨trivial,⟨trivial,⟨⟨k31,k36,k41,k46,k51,k56,k61,k66,k71,k76,k81,k183,k189,k196,k203,k210,k216,k223,k230,k237,k244,k251,k258,trivial⟩,trivial,trivial⟩,trivial⟩,trivial⟩,trivial⟩,trivial⟩,⟨trivial,⟨trivial,trivial,⟨trivial,⟨⟨k84,trivial⟩,trivial,trivial⟩,trivial⟩⟩,trivial⟩⟩⟩
theorem o3:CallOK Tryz.prog O3:=altQ_ok (known_ok (thawG_ok (runQ_OK o2 mixQ libOK tabOK 20000)) (AllT.get all3)) o2
theorem all4:AllT (fun f l=>AllK (thawG (runQ O3 tab 20000)) f l) K4:=⟨trivial,⟨trivial,⟨trivial,trivial,⟨trivial,trivial,⟨⟨k32,k37,k42,k47,k52,k57,k62,k67,k72,k77,k82,k184,k190,k197,k204,k211,k217,k224,k231,k238,k245,k252,k259,trivial⟩,trivial,trivial⟩⟩⟩,⟨trivial,⟨trivial,⟨trivial,trivial,⟨⟨k138,k139,k178,k185,k191,k198,k205,k212,k218,k225,k232,k239,k246,k253,k260,trivial⟩,trivial,trivial⟩⟩,⟨trivial,⟨⟨k28,k168,trivial⟩,trivial,trivial⟩,trivial⟩⟩,trivial⟩⟩,⟨trivial,⟨trivial,trivial,⟨trivial,trivial,⟨trivial,⟨⟨k135,k177,trivial⟩,trivial,trivial⟩,trivial⟩⟩⟩,⟨trivial,⟨trivial,trivial,⟨trivial,⟨⟨k34,k39,k44,k49,k54,k59,k64,k69,k74,k79,trivial⟩,trivial,trivial⟩,trivial⟩⟩,trivial⟩⟩⟩
theorem o4:CallOK Tryz.prog O4:=altQ_ok (known_ok (thawG_ok (runQ_OK o3 mixQ libOK tabOK 20000)) (AllT.get all4)) o3
theorem all5:AllT (fun f l=>AllK (thawG (runQ O4 tab 20000)) f l) K5:=⟨trivial,trivial,⟨trivial,⟨trivial,trivial,⟨⟨k29,k169,trivial⟩,trivial,trivial⟩⟩,⟨trivial,⟨trivial,⟨⟨k137,k140,k143,k145,k146,k179,k186,k192,k199,k206,k213,k219,k226,k233,k240,k247,k254,k261,trivial⟩,trivial,trivial⟩,trivial⟩,⟨⟨k35,k40,k45,k50,k55,k60,k65,k70,k75,k80,k85,trivial⟩,trivial,trivial⟩⟩⟩⟩
theorem o5:CallOK Tryz.prog O5:=altQ_ok (known_ok (thawG_ok (runQ_OK o4 mixQ libOK tabOK 20000)) (AllT.get all5)) o4
theorem all6:AllT (fun f l=>AllK (thawG (runQ O5 tab 20000)) f l) K6:=⟨trivial,trivial,⟨trivial,⟨trivial,⟨trivial,trivial,⟨trivial,trivial,⟨⟨k181,k187,k194,k201,k208,k214,k221,k228,k235,k242,k249,k256,trivial⟩,trivial,trivial⟩⟩⟩,trivial⟩,⟨trivial,⟨trivial,trivial,⟨⟨k170,trivial⟩,trivial,trivial⟩⟩,trivial⟩⟩⟩
theorem o6:CallOK Tryz.prog O6:=altQ_ok (known_ok (thawG_ok (runQ_OK o5 mixQ libOK tabOK 20000)) (AllT.get all6)) o5
theorem all7:AllT (fun f l=>AllK (thawG (runQ O6 tab 20000)) f l) K7:=⟨trivial,⟨trivial,trivial,⟨trivial,⟨trivial,trivial,⟨⟨k182,k188,k195,k202,k209,k215,k222,k229,k236,k243,k250,k257,trivial⟩,trivial,trivial⟩⟩,trivial⟩⟩,trivial⟩
theorem o7:CallOK Tryz.prog O7:=altQ_ok (known_ok (thawG_ok (runQ_OK o6 mixQ libOK tabOK 20000)) (AllT.get all7)) o6
theorem run:(runQ O7 tab 20000 3 [] [.lf] .lf 0).map (·.1)=some (.d (.sc (.bool true))):=by kernel_rfl
theorem callQ:CallOK Tryz.prog (runQ O7 tab 20000):=runQ_OK o7 mixQ libOK tabOK 20000
end
end Go.Proofs.YtajppidmbkjpcaaGreat
namespace Go.Proofs.YtajppidmbkjpcaaGreat
open Go Go.Eng Go.ChangeShapes Go.WideShapes Go.ChangeAt Go.RowKit
theorem names_walk (w:World):Calls Tryz.prog 3 #[] w fun e w'=>e=.returned (.bool true)∧Below w.heap.size w w':=
 bool_callsO callQ run w ⟨fun _ h=>h.elim,trivial⟩
theorem own:ownKnob Tryz.prog.godebug=none:=by kernel_rfl
set_option maxRecDepth 100000 in
theorem names_lifted (os:Os) (started:os.Started) (H:Type) (enc:TypeId×Value→H) :
  ReturnsInHanded {} Tryz.checked os 3 .any (Rows.schedNamesSpec.pre6 enc Tryz.prog Tryz.f3 Rows.schedNamesRow.domain false) (Rows.schedNamesSpec.post enc Tryz.prog Tryz.f3 false true false false):=by
 refine returnsInHanded_of_change (C:=Tryz.checked) own started (by kernel_rfl) Tryz.func3
  (ChangeSpec.witness6 (enc:=enc) (C:=Tryz.checked) false ⟨#[],#[],[]⟩ 3 (by kernel_rfl) (by kernel_rfl) (by kernel_rfl) (by kernel_rfl)) ?_
 intro W base args ds gs before _ hW _ _
 have hW':=hW
 obtain⟨p,q,hA0,hV,rfl,_,_⟩:=hW
 have hA:DataW.TrodAll enc Tryz.prog W 0 (fun _=>true) true Tryz.f3.params.toList args.toList ds p:=hA0
 rw[Tryz.params3] at hA
 obtain⟨rfl,rfl,rfl⟩:=trodAll_none hA
 obtain⟨rfl,rfl⟩:=trodVars_none hV
 clear hA0
 simp only[List.append_nil] at hW'
 refine (names_walk W).mono fun e W' ⟨he,hb⟩=>?_
 subst he
 exact⟨_,rfl,⟨_,_,_,[],_,[],hW',trodAll_mk1 (shut_bool Tryz.underlying4 _),trodAll_mk0,rfl,hb.frame _,fun h=>by cases h⟩⟩
theorem inst3:Tryz.f3.isInstance Tryz.pinned.checked.prog Rows.schedNamesRow.origin Rows.schedNamesRow.targs:=of_decide_eq_true (by kernel_rfl)
theorem named3:Tryz.pinned.checked.prog.funcNamed Rows.schedNamesRow.func=some 3:=by kernel_rfl
theorem wrap3:Tryz.f3.isWrapper Tryz.pinned.checked.prog Rows.schedNamesRow.wrapper Rows.schedNamesRow.mainSum:=by unfold Func.isWrapper;first|(rw[if_pos (by decide +kernel)];kernel_rfl)|(rw[if_neg (by decide +kernel)];exact⟨rfl,rfl⟩)
theorem names_holds:Rows.SchedNamesSaid:=
 OpenClaim.holds_of_wide 3 Tryz.f3 rfl rfl rfl rfl rfl rfl rfl ⟨rfl,rfl,rfl,rfl,rfl⟩ rfl rfl rfl rfl rfl named3 Tryz.func3 closed3 inst3 wrap3
  (fun os started H enc _=>names_lifted os started H enc)
#print axioms names_holds
end Go.Proofs.YtajppidmbkjpcaaGreat
