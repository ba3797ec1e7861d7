/- A part of the proof: K21n, Names21n. -/
import Derived.Test.YtleacocdepjflaaGreatP21nd
import Derived.Test.YtleacocdepjflaaGreatP21nh
import Derived.Test.YtleacocdepjflaaGreatP21nl
import Derived.Test.YtleacocdepjflaaGreatFa21n
import Derived.Laws.Rows
import Derived.ChangeSame
import Derived.JoinedOf
import Derived.JoinedAt
import Derived.JoinedStill
import Derived.RowKit
import Derived.ProofKit
namespace Go.Proofs.YtleacocdepjflaaGreat
open Go Go.Eng
set_option maxRecDepth 100000
noncomputable section
theorem o0:CallOK Tryz.prog O0:=lib0_ok
theorem all1:AllT (fun f l=>AllK (thawG (runQ O0 tab 20000)) f l) K1:=⟨trivial,⟨trivial,⟨trivial,⟨trivial,⟨trivial,⟨trivial,⟨trivial,trivial,⟨⟨k31,k180,k226,trivial⟩,trivial,trivial⟩⟩,trivial⟩,trivial⟩,trivial⟩,trivial⟩,trivial⟩,⟨trivial,trivial,⟨trivial,⟨trivial,⟨trivial,⟨trivial,trivial,⟨⟨k2,k4,k6,k8,k10,k12,k14,k16,k170,k172,trivial⟩,trivial,trivial⟩⟩,trivial⟩,⟨trivial,⟨trivial,trivial,⟨trivial,⟨trivial,⟨⟨k40,k41,k42,k43,k44,k45,k46,k47,k48,k49,k50,k51,k52,k53,k54,k55,k56,k57,k58,k59,k60,k61,k62,k63,k64,k65,k66,k67,k68,k69,k70,k71,k72,k73,k74,k183,k184,k185,trivial⟩,trivial,trivial⟩,trivial⟩,trivial⟩⟩,⟨trivial,⟨⟨k0,k168,k224,trivial⟩,trivial,trivial⟩,trivial⟩⟩⟩,⟨trivial,⟨trivial,⟨trivial,trivial,⟨⟨k85,k150,k162,trivial⟩,trivial,trivial⟩⟩,trivial⟩,trivial⟩⟩⟩⟩
theorem o1:CallOK Tryz.prog O1:=altQ_ok (known_ok (thawG_ok (runQ_OK o0 mixQ libOK tabOK 20000)) (AllT.get all1)) o0
theorem all2:AllT (fun f l=>AllK (thawG (runQ O1 tab 20000)) f l) K2:=⟨trivial,⟨trivial,⟨trivial,⟨trivial,trivial,⟨trivial,trivial,⟨⟨k1,k18,k169,k174,trivial⟩,trivial,trivial⟩⟩⟩,trivial⟩,⟨trivial,⟨trivial,trivial,⟨trivial,trivial,⟨⟨k3,k5,k7,k9,k11,k13,k15,k17,k19,k20,k21,k22,k23,k24,k25,k26,k171,k173,k175,k176,trivial⟩,trivial,trivial⟩⟩⟩,trivial⟩⟩,⟨trivial,⟨trivial,trivial,⟨trivial,⟨trivial,⟨trivial,⟨trivial,⟨⟨k32,k33,k34,k35,k36,k37,k38,k39,k181,k182,k227,trivial⟩,trivial,trivial⟩,trivial⟩,trivial⟩,trivial⟩,trivial⟩⟩,⟨trivial,⟨trivial,⟨trivial,trivial,⟨⟨k30,k179,k204,k225,trivial⟩,trivial,trivial⟩⟩,trivial⟩,⟨trivial,⟨trivial,trivial,⟨trivial,⟨trivial,⟨trivial,⟨⟨k76,k77,k78,k79,k80,k81,k82,k83,k187,k188,k229,trivial⟩,trivial,trivial⟩,trivial⟩,trivial⟩,trivial⟩⟩,trivial⟩⟩⟩⟩
theorem o2:CallOK Tryz.prog O2:=altQ_ok (known_ok (thawG_ok (runQ_OK o1 mixQ libOK tabOK 20000)) (AllT.get all2)) o1
theorem all3:AllT (fun f l=>AllK (thawG (runQ O2 tab 20000)) f l) K3:=⟨trivial,⟨trivial,⟨trivial,trivial,⟨trivial,trivial,⟨trivial,⟨trivial,trivial,⟨⟨k75,k186,k228,trivial⟩,trivial,trivial⟩⟩,trivial⟩⟩⟩,⟨trivial,trivial,⟨trivial,⟨trivial,⟨⟨k27,k177,trivial⟩,trivial,trivial⟩,trivial⟩,trivial⟩⟩⟩,⟨trivial,trivial,⟨trivial,⟨trivial,trivial,⟨trivial,⟨⟨k94,k100,k106,k112,k118,k124,k130,k136,k142,k148,k160,k193,k199,k205,k211,k217,trivial⟩,trivial,trivial⟩,trivial⟩⟩,trivial⟩⟩⟩
theorem o3:CallOK Tryz.prog O3:=altQ_ok (known_ok (thawG_ok (runQ_OK o2 mixQ libOK tabOK 20000)) (AllT.get all3)) o2
theorem all4:AllT (fun f l=>AllK (thawG (runQ O3 tab 20000)) f l) K4:=⟨trivial,⟨trivial,⟨trivial,trivial,⟨trivial,trivial,⟨trivial,trivial,⟨⟨k87,k96,k102,k108,k114,k120,k126,k132,k138,k144,k151,k153,k156,k163,k165,k190,k195,k201,k207,k213,k219,k231,k237,k238,k240,trivial⟩,trivial,trivial⟩⟩⟩⟩,⟨trivial,trivial,⟨trivial,⟨trivial,⟨trivial,trivial,⟨⟨k84,k189,k230,trivial⟩,trivial,trivial⟩⟩,trivial⟩,trivial⟩⟩⟩,⟨trivial,⟨trivial,trivial,⟨⟨k95,k101,k107,k113,k119,k125,k131,k137,k143,k149,k161,k194,k200,k206,k212,k218,k222,trivial⟩,trivial,trivial⟩⟩,⟨trivial,⟨trivial,trivial,⟨⟨k28,k178,trivial⟩,trivial,trivial⟩⟩,trivial⟩⟩⟩
theorem o4:CallOK Tryz.prog O4:=altQ_ok (known_ok (thawG_ok (runQ_OK o3 mixQ libOK tabOK 20000)) (AllT.get all4)) o3
theorem all5:AllT (fun f l=>AllK (thawG (runQ O4 tab 20000)) f l) K5:=⟨trivial,⟨trivial,trivial,⟨⟨k29,trivial⟩,trivial,trivial⟩⟩,⟨trivial,trivial,⟨trivial,⟨trivial,trivial,⟨trivial,trivial,⟨⟨k86,k88,k90,k91,k97,k103,k109,k115,k121,k127,k133,k139,k145,k152,k154,k157,k164,k166,k191,k196,k202,k208,k214,k220,k223,k232,k234,k236,k239,trivial⟩,trivial,trivial⟩⟩⟩,trivial⟩⟩⟩
theorem o5:CallOK Tryz.prog O5:=altQ_ok (known_ok (thawG_ok (runQ_OK o4 mixQ libOK tabOK 20000)) (AllT.get all5)) o4
theorem all6:AllT (fun f l=>AllK (thawG (runQ O5 tab 20000)) f l) K6:=⟨trivial,trivial,⟨trivial,⟨trivial,⟨⟨k89,k155,k167,k192,k203,k221,k233,k235,trivial⟩,⟨trivial,⟨⟨k92,k98,k104,k110,k116,k122,k128,k134,k140,k146,k158,k197,k209,k215,trivial⟩,trivial,trivial⟩,trivial⟩,trivial⟩,trivial⟩,trivial⟩⟩
theorem o6:CallOK Tryz.prog O6:=altQ_ok (known_ok (thawG_ok (runQ_OK o5 mixQ libOK tabOK 20000)) (AllT.get all6)) o5
theorem all7:AllT (fun f l=>AllK (thawG (runQ O6 tab 20000)) f l) K7:=⟨trivial,trivial,⟨trivial,⟨trivial,⟨⟨k93,k99,k105,k111,k117,k123,k129,k135,k141,k147,k159,k198,k210,k216,trivial⟩,trivial,trivial⟩,trivial⟩,trivial⟩⟩
theorem o7:CallOK Tryz.prog O7:=altQ_ok (known_ok (thawG_ok (runQ_OK o6 mixQ libOK tabOK 20000)) (AllT.get all7)) o6
theorem run:(runQ O7 tab 20000 3 [] [.lf] .lf 0).map (·.1)=some (.d (.sc (.bool true))):=by kernel_rfl
theorem callQ:CallOK Tryz.prog (runQ O7 tab 20000):=runQ_OK o7 mixQ libOK tabOK 20000
end
end Go.Proofs.YtleacocdepjflaaGreat
namespace Go.Proofs.YtleacocdepjflaaGreat
open Go Go.Eng Go.ChangeShapes Go.WideShapes Go.ChangeAt Go.RowKit
theorem names_walk (w:World):Calls Tryz.prog 3 #[] w fun e w'=>e=.returned (.bool true)∧Below w.heap.size w w':=
 bool_callsO callQ run w ⟨fun _ h=>h.elim,trivial⟩
theorem own:ownKnob Tryz.prog.godebug=none:=by kernel_rfl
set_option maxRecDepth 100000 in
theorem names_lifted (os:Os) (started:os.Started) (H:Type) (enc:TypeId×Value→H) :
  ReturnsInHanded {} Tryz.checked os 3 .any (Rows.unwindNamesSpec.pre6 enc Tryz.prog Tryz.f3 Rows.unwindNamesRow.domain false) (Rows.unwindNamesSpec.post enc Tryz.prog Tryz.f3 false true false false):=by
 refine returnsInHanded_of_change (C:=Tryz.checked) own started (by kernel_rfl) Tryz.func3
  (ChangeSpec.witness6 (enc:=enc) (C:=Tryz.checked) false ⟨#[],#[],[]⟩ 3 (by kernel_rfl) (by kernel_rfl) (by kernel_rfl) (by kernel_rfl)) ?_
 intro W base args ds gs before _ hW _ _
 have hW':=hW
 obtain⟨p,q,hA0,hV,rfl,_,_⟩:=hW
 have hA:DataW.TrodAll enc Tryz.prog W 0 (fun _=>true) true Tryz.f3.params.toList args.toList ds p:=hA0
 rw[Tryz.params3] at hA
 obtain⟨rfl,rfl,rfl⟩:=trodAll_none hA
 obtain⟨rfl,rfl⟩:=trodVars_none hV
 clear hA0
 simp only[List.append_nil] at hW'
 refine (names_walk W).mono fun e W' ⟨he,hb⟩=>?_
 subst he
 exact⟨_,rfl,⟨_,_,_,[],_,[],hW',trodAll_mk1 (shut_bool Tryz.underlying4 _),trodAll_mk0,rfl,hb.frame _,fun h=>by cases h⟩⟩
theorem inst3:Tryz.f3.isInstance Tryz.pinned.checked.prog Rows.unwindNamesRow.origin Rows.unwindNamesRow.targs:=of_decide_eq_true (by kernel_rfl)
theorem named3:Tryz.pinned.checked.prog.funcNamed Rows.unwindNamesRow.func=some 3:=by kernel_rfl
theorem wrap3:Tryz.f3.isWrapper Tryz.pinned.checked.prog Rows.unwindNamesRow.wrapper Rows.unwindNamesRow.mainSum:=by unfold Func.isWrapper;first|(rw[if_pos (by decide +kernel)];kernel_rfl)|(rw[if_neg (by decide +kernel)];exact⟨rfl,rfl⟩)
theorem names_holds:Rows.UnwindNamesSaid:=
 OpenClaim.holds_of_wide 3 Tryz.f3 rfl rfl rfl rfl rfl rfl rfl ⟨rfl,rfl,rfl,rfl,rfl⟩ rfl rfl rfl rfl rfl named3 Tryz.func3 closed3 inst3 wrap3
  (fun os started H enc _=>names_lifted os started H enc)
#print axioms names_holds
end Go.Proofs.YtleacocdepjflaaGreat
