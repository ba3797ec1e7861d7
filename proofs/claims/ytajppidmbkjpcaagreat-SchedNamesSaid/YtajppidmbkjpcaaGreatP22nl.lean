/- A part of the proof: P22ni, P22nj, P22nk, P22nl. -/
import Derived.Test.YtajppidmbkjpcaaGreatD22n
namespace Go.Proofs.YtajppidmbkjpcaaGreat
open Go Go.Eng
set_option maxRecDepth 100000
noncomputable section
theorem k2:thawG (runQ O0 tab 20000) 126 e2.as [.lf] .lf 0=some (e2.v,[.lf],.lf,e2.n):=by kernel_rfl
theorem k73:thawG (runQ O2 tab 20000) 79 e73.as [.lf] .lf 0=some (e73.v,[.lf],.lf,e73.n):=by kernel_rfl
theorem k148:thawG (runQ O1 tab 20000) 74 e148.as [.lf] .lf 0=some (e148.v,[.lf],.lf,e148.n):=by kernel_rfl
theorem k149:thawG (runQ O0 tab 20000) 126 e149.as [.lf] .lf 0=some (e149.v,[.lf],.lf,e149.n):=by kernel_rfl
theorem k150:thawG (runQ O1 tab 20000) 76 e150.as [.lf] .lf 0=some (e150.v,[.lf],.lf,e150.n):=by kernel_rfl
end
end Go.Proofs.YtajppidmbkjpcaaGreat
namespace Go.Proofs.YtajppidmbkjpcaaGreat
open Go Go.Eng
set_option maxRecDepth 100000
noncomputable section
theorem k1:thawG (runQ O1 tab 20000) 74 e1.as [.lf] .lf 0=some (e1.v,[.lf],.lf,e1.n):=by kernel_rfl
theorem k3:thawG (runQ O1 tab 20000) 76 e3.as [.lf] .lf 0=some (e3.v,[.lf],.lf,e3.n):=by kernel_rfl
theorem k4:thawG (runQ O0 tab 20000) 126 e4.as [.lf] .lf 0=some (e4.v,[.lf],.lf,e4.n):=by kernel_rfl
theorem k15:thawG (runQ O1 tab 20000) 76 e15.as [.lf] .lf 0=some (e15.v,[.lf],.lf,e15.n):=by kernel_rfl
theorem k19:thawG (runQ O1 tab 20000) 76 e19.as [.lf] .lf 0=some (e19.v,[.lf],.lf,e19.n):=by kernel_rfl
theorem k159:thawG (runQ O1 tab 20000) 76 e159.as [.lf] .lf 0=some (e159.v,[.lf],.lf,e159.n):=by kernel_rfl
end
end Go.Proofs.YtajppidmbkjpcaaGreat
namespace Go.Proofs.YtajppidmbkjpcaaGreat
open Go Go.Eng
set_option maxRecDepth 100000
noncomputable section
theorem k5:thawG (runQ O1 tab 20000) 76 e5.as [.lf] .lf 0=some (e5.v,[.lf],.lf,e5.n):=by kernel_rfl
theorem k7:thawG (runQ O1 tab 20000) 76 e7.as [.lf] .lf 0=some (e7.v,[.lf],.lf,e7.n):=by kernel_rfl
theorem k8:thawG (runQ O0 tab 20000) 126 e8.as [.lf] .lf 0=some (e8.v,[.lf],.lf,e8.n):=by kernel_rfl
theorem k20:thawG (runQ O1 tab 20000) 76 e20.as [.lf] .lf 0=some (e20.v,[.lf],.lf,e20.n):=by kernel_rfl
theorem k21:thawG (runQ O1 tab 20000) 76 e21.as [.lf] .lf 0=some (e21.v,[.lf],.lf,e21.n):=by kernel_rfl
theorem k35:thawG (runQ O4 tab 20000) 14 e35.as [.lf] .lf 0=some (e35.v,[.lf],.lf,e35.n):=by kernel_rfl
theorem k48:thawG (runQ O2 tab 20000) 79 e48.as [.lf] .lf 0=some (e48.v,[.lf],.lf,e48.n):=by kernel_rfl
theorem k68:thawG (runQ O2 tab 20000) 79 e68.as [.lf] .lf 0=some (e68.v,[.lf],.lf,e68.n):=by kernel_rfl
theorem k151:thawG (runQ O1 tab 20000) 76 e151.as [.lf] .lf 0=some (e151.v,[.lf],.lf,e151.n):=by kernel_rfl
theorem k152:thawG (runQ O1 tab 20000) 76 e152.as [.lf] .lf 0=some (e152.v,[.lf],.lf,e152.n):=by kernel_rfl
theorem k160:thawG (runQ O1 tab 20000) 76 e160.as [.lf] .lf 0=some (e160.v,[.lf],.lf,e160.n):=by kernel_rfl
theorem k161:thawG (runQ O1 tab 20000) 76 e161.as [.lf] .lf 0=some (e161.v,[.lf],.lf,e161.n):=by kernel_rfl
theorem k169:thawG (runQ O4 tab 20000) 12 e169.as [.lf] .lf 0=some (e169.v,[.lf],.lf,e169.n):=by kernel_rfl
theorem k170:thawG (runQ O5 tab 20000) 26 e170.as [.lf] .lf 0=some (e170.v,[.lf],.lf,e170.n):=by kernel_rfl
theorem k194:thawG (runQ O5 tab 20000) 56 e194.as [.lf] .lf 0=some (e194.v,[.lf],.lf,e194.n):=by kernel_rfl
theorem k228:thawG (runQ O5 tab 20000) 56 e228.as [.lf] .lf 0=some (e228.v,[.lf],.lf,e228.n):=by kernel_rfl
end
end Go.Proofs.YtajppidmbkjpcaaGreat
namespace Go.Proofs.YtajppidmbkjpcaaGreat
open Go Go.Eng
set_option maxRecDepth 100000
noncomputable section
theorem k6:thawG (runQ O0 tab 20000) 126 e6.as [.lf] .lf 0=some (e6.v,[.lf],.lf,e6.n):=by kernel_rfl
theorem k9:thawG (runQ O1 tab 20000) 76 e9.as [.lf] .lf 0=some (e9.v,[.lf],.lf,e9.n):=by kernel_rfl
theorem k22:thawG (runQ O1 tab 20000) 76 e22.as [.lf] .lf 0=some (e22.v,[.lf],.lf,e22.n):=by kernel_rfl
theorem k25:thawG (runQ O1 tab 20000) 76 e25.as [.lf] .lf 0=some (e25.v,[.lf],.lf,e25.n):=by kernel_rfl
theorem k29:thawG (runQ O4 tab 20000) 12 e29.as [.lf] .lf 0=some (e29.v,[.lf],.lf,e29.n):=by kernel_rfl
theorem k43:thawG (runQ O2 tab 20000) 79 e43.as [.lf] .lf 0=some (e43.v,[.lf],.lf,e43.n):=by kernel_rfl
theorem k53:thawG (runQ O2 tab 20000) 79 e53.as [.lf] .lf 0=some (e53.v,[.lf],.lf,e53.n):=by kernel_rfl
theorem k138:thawG (runQ O3 tab 20000) 49 e138.as [.lf] .lf 0=some (e138.v,[.lf],.lf,e138.n):=by kernel_rfl
theorem k153:thawG (runQ O1 tab 20000) 76 e153.as [.lf] .lf 0=some (e153.v,[.lf],.lf,e153.n):=by kernel_rfl
theorem k162:thawG (runQ O1 tab 20000) 76 e162.as [.lf] .lf 0=some (e162.v,[.lf],.lf,e162.n):=by kernel_rfl
theorem k181:thawG (runQ O5 tab 20000) 56 e181.as [.lf] .lf 0=some (e181.v,[.lf],.lf,e181.n):=by kernel_rfl
theorem k187:thawG (runQ O5 tab 20000) 56 e187.as [.lf] .lf 0=some (e187.v,[.lf],.lf,e187.n):=by kernel_rfl
theorem k201:thawG (runQ O5 tab 20000) 56 e201.as [.lf] .lf 0=some (e201.v,[.lf],.lf,e201.n):=by kernel_rfl
theorem k208:thawG (runQ O5 tab 20000) 56 e208.as [.lf] .lf 0=some (e208.v,[.lf],.lf,e208.n):=by kernel_rfl
theorem k214:thawG (runQ O5 tab 20000) 56 e214.as [.lf] .lf 0=some (e214.v,[.lf],.lf,e214.n):=by kernel_rfl
theorem k221:thawG (runQ O5 tab 20000) 56 e221.as [.lf] .lf 0=some (e221.v,[.lf],.lf,e221.n):=by kernel_rfl
theorem k235:thawG (runQ O5 tab 20000) 56 e235.as [.lf] .lf 0=some (e235.v,[.lf],.lf,e235.n):=by kernel_rfl
theorem k242:thawG (runQ O5 tab 20000) 56 e242.as [.lf] .lf 0=some (e242.v,[.lf],.lf,e242.n):=by kernel_rfl
theorem k249:thawG (runQ O5 tab 20000) 56 e249.as [.lf] .lf 0=some (e249.v,[.lf],.lf,e249.n):=by kernel_rfl
theorem k256:thawG (runQ O5 tab 20000) 56 e256.as [.lf] .lf 0=some (e256.v,[.lf],.lf,e256.n):=by kernel_rfl
end
end Go.Proofs.YtajppidmbkjpcaaGreat
