/- What the machine yields with some fuel, it yields with more. -/
import Derived.Test.YtlfhlggkbcncoaaEngA
namespace Go.Eng
open Go
def CallLe (a b:Call):Prop:=∀ f x m t n r,a f x m t n=some r→b f x m t n=some r
variable {call call':Call} {sh:Nat→Bool}
end Go.Eng
