/- A part of the proof: P21ne, P21nf, P21ng, P21nh. -/
import Derived.Test.YtleacocdepjflaaGreatD21n
namespace Go.Proofs.YtleacocdepjflaaGreat
open Go Go.Eng
set_option maxRecDepth 100000
noncomputable section
theorem k1:thawG (runQ O1 tab 20000) 55 e1.as [.lf] .lf 0=some (e1.v,[.lf],.lf,e1.n):=by kernel_rfl
theorem k75:thawG (runQ O2 tab 20000) 107 e75.as [.lf] .lf 0=some (e75.v,[.lf],.lf,e75.n):=by kernel_rfl
theorem k225:thawG (runQ O1 tab 20000) 50 e225.as [.lf] .lf 0=some (e225.v,[.lf],.lf,e225.n):=by kernel_rfl
end
end Go.Proofs.YtleacocdepjflaaGreat
namespace Go.Proofs.YtleacocdepjflaaGreat
open Go Go.Eng
set_option maxRecDepth 100000
noncomputable section
theorem k2:thawG (runQ O0 tab 20000) 98 e2.as [.lf] .lf 0=some (e2.v,[.lf],.lf,e2.n):=by kernel_rfl
theorem k3:thawG (runQ O1 tab 20000) 57 e3.as [.lf] .lf 0=some (e3.v,[.lf],.lf,e3.n):=by kernel_rfl
theorem k19:thawG (runQ O1 tab 20000) 57 e19.as [.lf] .lf 0=some (e19.v,[.lf],.lf,e19.n):=by kernel_rfl
theorem k169:thawG (runQ O1 tab 20000) 55 e169.as [.lf] .lf 0=some (e169.v,[.lf],.lf,e169.n):=by kernel_rfl
theorem k178:thawG (runQ O3 tab 20000) 26 e178.as [.lf] .lf 0=some (e178.v,[.lf],.lf,e178.n):=by kernel_rfl
theorem k189:thawG (runQ O3 tab 20000) 101 e189.as [.lf] .lf 0=some (e189.v,[.lf],.lf,e189.n):=by kernel_rfl
end
end Go.Proofs.YtleacocdepjflaaGreat
namespace Go.Proofs.YtleacocdepjflaaGreat
open Go Go.Eng
set_option maxRecDepth 100000
noncomputable section
theorem k4:thawG (runQ O0 tab 20000) 98 e4.as [.lf] .lf 0=some (e4.v,[.lf],.lf,e4.n):=by kernel_rfl
theorem k5:thawG (runQ O1 tab 20000) 57 e5.as [.lf] .lf 0=some (e5.v,[.lf],.lf,e5.n):=by kernel_rfl
theorem k8:thawG (runQ O0 tab 20000) 98 e8.as [.lf] .lf 0=some (e8.v,[.lf],.lf,e8.n):=by kernel_rfl
theorem k20:thawG (runQ O1 tab 20000) 57 e20.as [.lf] .lf 0=some (e20.v,[.lf],.lf,e20.n):=by kernel_rfl
theorem k29:thawG (runQ O4 tab 20000) 5 e29.as [.lf] .lf 0=some (e29.v,[.lf],.lf,e29.n):=by kernel_rfl
theorem k86:thawG (runQ O4 tab 20000) 58 e86.as [.lf] .lf 0=some (e86.v,[.lf],.lf,e86.n):=by kernel_rfl
theorem k104:thawG (runQ O5 tab 20000) 32 e104.as [.lf] .lf 0=some (e104.v,[.lf],.lf,e104.n):=by kernel_rfl
theorem k134:thawG (runQ O5 tab 20000) 32 e134.as [.lf] .lf 0=some (e134.v,[.lf],.lf,e134.n):=by kernel_rfl
theorem k160:thawG (runQ O2 tab 20000) 42 e160.as [.lf] .lf 0=some (e160.v,[.lf],.lf,e160.n):=by kernel_rfl
theorem k174:thawG (runQ O1 tab 20000) 55 e174.as [.lf] .lf 0=some (e174.v,[.lf],.lf,e174.n):=by kernel_rfl
theorem k186:thawG (runQ O2 tab 20000) 107 e186.as [.lf] .lf 0=some (e186.v,[.lf],.lf,e186.n):=by kernel_rfl
theorem k209:thawG (runQ O5 tab 20000) 32 e209.as [.lf] .lf 0=some (e209.v,[.lf],.lf,e209.n):=by kernel_rfl
theorem k221:thawG (runQ O5 tab 20000) 8 e221.as [.lf] .lf 0=some (e221.v,[.lf],.lf,e221.n):=by kernel_rfl
end
end Go.Proofs.YtleacocdepjflaaGreat
namespace Go.Proofs.YtleacocdepjflaaGreat
open Go Go.Eng
set_option maxRecDepth 100000
noncomputable section
theorem k6:thawG (runQ O0 tab 20000) 98 e6.as [.lf] .lf 0=some (e6.v,[.lf],.lf,e6.n):=by kernel_rfl
theorem k7:thawG (runQ O1 tab 20000) 57 e7.as [.lf] .lf 0=some (e7.v,[.lf],.lf,e7.n):=by kernel_rfl
theorem k9:thawG (runQ O1 tab 20000) 57 e9.as [.lf] .lf 0=some (e9.v,[.lf],.lf,e9.n):=by kernel_rfl
theorem k21:thawG (runQ O1 tab 20000) 57 e21.as [.lf] .lf 0=some (e21.v,[.lf],.lf,e21.n):=by kernel_rfl
theorem k22:thawG (runQ O1 tab 20000) 57 e22.as [.lf] .lf 0=some (e22.v,[.lf],.lf,e22.n):=by kernel_rfl
theorem k31:thawG (runQ O0 tab 20000) 191 e31.as [.lf] .lf 0=some (e31.v,[.lf],.lf,e31.n):=by kernel_rfl
theorem k78:thawG (runQ O1 tab 20000) 278 e78.as [.lf] .lf 0=some (e78.v,[.lf],.lf,e78.n):=by kernel_rfl
theorem k92:thawG (runQ O5 tab 20000) 32 e92.as [.lf] .lf 0=some (e92.v,[.lf],.lf,e92.n):=by kernel_rfl
theorem k98:thawG (runQ O5 tab 20000) 32 e98.as [.lf] .lf 0=some (e98.v,[.lf],.lf,e98.n):=by kernel_rfl
theorem k110:thawG (runQ O5 tab 20000) 32 e110.as [.lf] .lf 0=some (e110.v,[.lf],.lf,e110.n):=by kernel_rfl
theorem k116:thawG (runQ O5 tab 20000) 32 e116.as [.lf] .lf 0=some (e116.v,[.lf],.lf,e116.n):=by kernel_rfl
theorem k122:thawG (runQ O5 tab 20000) 32 e122.as [.lf] .lf 0=some (e122.v,[.lf],.lf,e122.n):=by kernel_rfl
theorem k128:thawG (runQ O5 tab 20000) 32 e128.as [.lf] .lf 0=some (e128.v,[.lf],.lf,e128.n):=by kernel_rfl
theorem k140:thawG (runQ O5 tab 20000) 32 e140.as [.lf] .lf 0=some (e140.v,[.lf],.lf,e140.n):=by kernel_rfl
theorem k146:thawG (runQ O5 tab 20000) 32 e146.as [.lf] .lf 0=some (e146.v,[.lf],.lf,e146.n):=by kernel_rfl
theorem k158:thawG (runQ O5 tab 20000) 32 e158.as [.lf] .lf 0=some (e158.v,[.lf],.lf,e158.n):=by kernel_rfl
theorem k207:thawG (runQ O3 tab 20000) 59 e207.as [.lf] .lf 0=some (e207.v,[.lf],.lf,e207.n):=by kernel_rfl
theorem k213:thawG (runQ O3 tab 20000) 59 e213.as [.lf] .lf 0=some (e213.v,[.lf],.lf,e213.n):=by kernel_rfl
theorem k219:thawG (runQ O3 tab 20000) 59 e219.as [.lf] .lf 0=some (e219.v,[.lf],.lf,e219.n):=by kernel_rfl
end
end Go.Proofs.YtleacocdepjflaaGreat
