/- Functions that put off a call. -/
import Derived.Test.YtleacocdepjflaaGreatT21n
import Derived.Test.YtleacocdepjflaaGreatEngDf
namespace Go.Proofs.YtleacocdepjflaaGreat
open Go Go.Eng
set_option maxRecDepth 100000
noncomputable section
def d104:DFn:=⟨2,66,
(.region [⟨(some 4),.alloc [(.d (.sc (.int .u64 0))),(.own [] .full)],none,0,0⟩,
  ⟨(some 5),.alloc [(.own [] .full)],none,0,0⟩,
  ⟨(some 6),.alloc [(.d (.sc (.int .i64 0)))],none,0,0⟩] false),184,[6,4,5],12,
(.seq
 (.region [⟨(some 13),.call 185 [],none,0,0⟩,
   ⟨none,.store 2 (.t 4) (.t 13),none,0,0⟩] false)
 (.seq
  (.seq
   (.region [⟨(some 14),.load 2 true (.t 4),none,0,0⟩,
     ⟨(some 15),.mov (.t 1),none,0,0⟩,
     ⟨(some 16),.callF 142 [(.t 14),(.t 15)],none,0,0⟩,
     ⟨none,.store 1 (.t 6) (.t 16),none,0,0⟩] false)
   (.seq
    (.region [⟨(some 17),.load 1 false (.t 6),none,0,0⟩,
      ⟨(some 18),.bin .neq (.t 17) (.c (.d (.sc (.int .i64 0)))),none,0,0⟩] false)
    (.cond (.t 18)
     (.seq
      (.region [⟨(some 19),.load 2 true (.t 4),none,0,0⟩,
        ⟨(some 20),.load 1 false (.t 5),none,0,0⟩,
        ⟨(some 21),.load 1 false (.t 6),none,0,0⟩,
        ⟨none,.store 2 (.t 4) (.t 19),none,1,0⟩,
        ⟨none,.store 1 (.t 5) (.t 20),none,11,0⟩,
        ⟨none,.store 1 (.t 6) (.t 21),none,31,0⟩] true)
      .ret)
     .skip)))
  (.seq
   (.seq
    (.region [⟨(some 22),.mov (.t 0),none,0,0⟩,
      ⟨(some 23),.len (.t 22),none,0,0⟩,
      ⟨(some 24),.bin .gtr (.t 23) (.c (.d (.sc (.int .i64 32)))),none,0,0⟩] false)
    (.cond (.t 24)
     (.seq
      (.region [⟨(some 25),.load 2 true (.t 4),none,0,0⟩,
        ⟨(some 26),.load 1 false (.t 5),none,0,0⟩,
        ⟨none,.store 2 (.t 4) (.t 25),none,1,0⟩,
        ⟨none,.store 1 (.t 5) (.t 26),none,7,0⟩,
        ⟨none,.store 1 (.t 6) (.c (.d (.sc (.int .i64 4)))),none,15,0⟩] true)
      .ret)
     .skip))
   (.seq
    (.seq
     (.region [⟨(some 27),.mov (.t 0),none,0,0⟩,
       ⟨(some 28),.len (.t 27),none,0,0⟩,
       ⟨(some 29),.mov (.c (.d (.sc (.int .i64 0)))),none,0,0⟩] false)
     (.block 0
      (.loop
       (.seq
        (.region [⟨(some 30),.bin .lss (.t 29) (.t 28),none,0,0⟩] false)
        (.seq
         (.cond (.t 30)
          .skip
          (.exit 0))
         (.seq
          (.block 1
           (.seq
            (.region [⟨(some 31),.indexAddr 1 (.t 27) (.t 29),none,0,0⟩,
              ⟨(some 32),.load 1 false (.t 31),none,0,0⟩,
              ⟨(some 8),.mov (.t 32),none,0,0⟩] false)
            (.seq
             (.region [⟨(some 33),.mov (.t 8),none,0,0⟩,
               ⟨(some 34),.lenS (.t 33),none,0,0⟩,
               ⟨(some 35),.bin .gtr (.t 34) (.c (.d (.sc (.int .i64 64)))),none,0,0⟩] false)
             (.cond (.t 35)
              (.seq
               (.region [⟨(some 36),.load 2 true (.t 4),none,0,0⟩,
                 ⟨(some 37),.load 1 false (.t 5),none,0,0⟩,
                 ⟨none,.store 2 (.t 4) (.t 36),none,1,0⟩,
                 ⟨none,.store 1 (.t 5) (.t 37),none,7,0⟩,
                 ⟨none,.store 1 (.t 6) (.c (.d (.sc (.int .i64 2)))),none,15,0⟩] true)
               .ret)
              .skip))))
          (.region [⟨(some 38),.bin .add (.t 29) (.c (.d (.sc (.int .i64 1)))),none,0,0⟩,
            ⟨(some 29),.mov (.t 38),none,0,0⟩] false)))))))
    (.seq
     (.seq
      (.region [⟨(some 39),.mov (.t 0),none,0,0⟩,
        ⟨(some 40),.len (.t 39),none,0,0⟩,
        ⟨(some 41),.mov (.c (.d (.sc (.int .i64 0)))),none,0,0⟩] false)
      (.block 2
       (.loop
        (.seq
         (.region [⟨(some 42),.bin .lss (.t 41) (.t 40),none,0,0⟩] false)
         (.seq
          (.cond (.t 42)
           .skip
           (.exit 2))
          (.seq
           (.block 3
            (.seq
             (.region [⟨(some 43),.indexAddr 1 (.t 39) (.t 41),none,0,0⟩,
               ⟨(some 44),.load 1 false (.t 43),none,0,0⟩,
               ⟨(some 10),.mov (.t 44),none,0,0⟩] false)
             (.seq
              (.region [⟨(some 11),.mov (.c (.d (.sc (.int .u64 0)))),none,0,0⟩] false)
              (.seq
               (.seq
                (.region [⟨(some 46),.load 2 true (.t 4),none,0,0⟩,
                  ⟨(some 47),.mov (.t 10),none,0,0⟩,
                  ⟨(some 48),.s2b (.t 47),none,0,0⟩,
                  ⟨(some 49),.mov (.t 1),none,0,0⟩,
                  ⟨(some 50),.call 186 [(.t 46),(.t 48),(.t 49)],none,0,0⟩,
                  ⟨(some 45),.mov (.t 50),none,0,0⟩,
                  ⟨(some 51),.extract (.t 45) 0,none,0,0⟩,
                  ⟨(some 52),.extract (.t 45) 1,none,0,0⟩,
                  ⟨(some 53),.extract (.t 45) 2,none,0,0⟩,
                  ⟨none,.store 2 (.t 4) (.t 51),none,0,0⟩,
                  ⟨(some 11),.mov (.t 52),none,0,0⟩,
                  ⟨none,.store 1 (.t 6) (.t 53),none,0,0⟩] false)
                (.seq
                 (.region [⟨(some 54),.load 1 false (.t 6),none,0,0⟩,
                   ⟨(some 55),.bin .neq (.t 54) (.c (.d (.sc (.int .i64 0)))),none,0,0⟩] false)
                 (.cond (.t 55)
                  (.seq
                   (.region [⟨(some 56),.load 2 true (.t 4),none,0,0⟩,
                     ⟨(some 57),.load 1 false (.t 5),none,0,0⟩,
                     ⟨(some 58),.load 1 false (.t 6),none,0,0⟩,
                     ⟨none,.store 2 (.t 4) (.t 56),none,1,0⟩,
                     ⟨none,.store 1 (.t 5) (.t 57),none,11,0⟩,
                     ⟨none,.store 1 (.t 6) (.t 58),none,31,0⟩] true)
                   .ret)
                  .skip)))
               (.region [⟨(some 59),.load 1 false (.t 5),none,0,0⟩,
                 ⟨(some 60),.mov (.t 11),none,0,0⟩,
                 ⟨(some 61),.buildSlice 1 1 [(.sc (.int .u64 0))] [(0,(.t 60))],none,0,0⟩,
                 ⟨(some 62),.append 1 8 (.t 59) (.t 61),none,0,0⟩,
                 ⟨none,.store 1 (.t 5) (.t 62),none,0,0⟩] false)))))
           (.region [⟨(some 63),.bin .add (.t 41) (.c (.d (.sc (.int .i64 1)))),none,0,0⟩,
             ⟨(some 41),.mov (.t 63),none,0,0⟩] false)))))))
     (.seq
      (.region [⟨(some 64),.load 2 true (.t 4),none,0,0⟩,
        ⟨(some 65),.load 1 false (.t 5),none,0,0⟩,
        ⟨none,.store 2 (.t 4) (.t 64),none,1,0⟩,
        ⟨none,.store 1 (.t 5) (.t 65),none,7,0⟩,
        ⟨none,.store 1 (.t 6) (.c (.d (.sc (.int .i64 0)))),none,15,0⟩] true)
      .ret)))))),[.cell 4 2 true,.cell 5 1 false,.cell 6 1 false],false⟩
def c184 : AFn := ⟨3, 6, [],
 (.seq
  (.region [⟨(some 3),.load 1 false (.t 0),none,0,0⟩,
    ⟨(some 4),.bin .neq (.t 3) (.c (.d (.sc (.int .i64 0)))),none,0,0⟩] false)
  (.cond (.t 4)
   (.region [⟨(some 5),.build [(.d (.sc (.int .u64 0))),(.own [] .full)] [],none,0,0⟩,
     ⟨none,.store 2 (.t 1) (.t 5),none,0,0⟩,
     ⟨none,.store 1 (.t 2) (.c (.own [] .full)),none,0,0⟩] false)
   .skip)),true⟩
theorem mixQ:Tryz.prog.follows .mixedOrders=true:=by kernel_rfl
def none0:Go.Eng.Call:=fun _ _ _ _ _=>none
theorem none0_ok:CallOK Tryz.prog none0:=fun _ _ _ _ _ _ _ _ _ h=>by cases h
theorem okd104:dfnP Tryz.prog lib md 104=some d104:=by kernel_rfl
theorem okc184:fnP Tryz.prog lib md 184=some c184:=by kernel_rfl
def DF:Nat→Option DFn:=fun f=>match Nat.beq f 104 with|true=>some d104|false=>none
def CF:Nat→Option AFn:=fun f=>match Nat.beq f 184 with|true=>some c184|false=>none
def shD:Nat→Bool:=fun g=>match tab g with|some q=>q.sh|none=>false
def lib0:Go.Eng.Call:=deferF (runQ none0 tab 20000) shD (stepF (runQ none0 tab 20000) CF 20000) DF 20000
theorem lib0_ok:CallOK Tryz.prog lib0:=deferF_ok (runQ_OK none0_ok mixQ libOK tabOK 20000) mixQ libOK (fun f fn h=>by
  unfold CF at h
  split at h
  · rename_i hb
    have:=Nat.eq_of_beq_eq_true hb
    subst this
    injection h with h;subst h
    exact okc184
  · cases h) (fun f d h=>by
  unfold DF at h
  split at h
  · rename_i hb
    have:=Nat.eq_of_beq_eq_true hb
    subst this
    injection h with h;subst h
    exact okd104
  · cases h) 20000
end
end Go.Proofs.YtleacocdepjflaaGreat
