/- A function without parameters that answers true, run by the machine of pure data, as one that may be called. -/
import Derived.Test.YtlfhlggkbcncoaaSymK
import Derived.Test.YtlfhlggkbcncoaaEngMono
namespace Go.Sym
open Go Go.Eng
def runCal:Callee:=⟨[],[],[(false,[.bool])],[.bool],0,fun _=>some true⟩
end Go.Sym
