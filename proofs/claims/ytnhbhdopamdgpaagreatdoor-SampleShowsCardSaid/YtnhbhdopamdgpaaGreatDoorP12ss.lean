/- A part of the proof: P12sq, P12sr, P12ss. -/
import Derived.Test.YtnhbhdopamdgpaaGreatDoorD12s
namespace Go.Proofs.YtnhbhdopamdgpaaGreatDoor
open Go Go.Eng
set_option maxRecDepth 100000
noncomputable section
theorem k52:thawG (runQ O3 tab 20000) 47 e52.as [.lf] .lf 0=some (e52.v,[.lf],.lf,e52.n):=by kernel_rfl
theorem k54:thawG (runQ O3 tab 20000) 47 e54.as [.lf] .lf 0=some (e54.v,[.lf],.lf,e54.n):=by kernel_rfl
theorem k67:thawG (runQ O3 tab 20000) 47 e67.as [.lf] .lf 0=some (e67.v,[.lf],.lf,e67.n):=by kernel_rfl
theorem k79:thawG (runQ O3 tab 20000) 47 e79.as [.lf] .lf 0=some (e79.v,[.lf],.lf,e79.n):=by kernel_rfl
theorem k84:thawG (runQ O4 tab 20000) 9 e84.as [.lf] .lf 0=some (e84.v,[.lf],.lf,e84.n):=by kernel_rfl
theorem k93:thawG (runQ O3 tab 20000) 47 e93.as [.lf] .lf 0=some (e93.v,[.lf],.lf,e93.n):=by kernel_rfl
theorem k97:thawG (runQ O3 tab 20000) 47 e97.as [.lf] .lf 0=some (e97.v,[.lf],.lf,e97.n):=by kernel_rfl
theorem k105:thawG (runQ O3 tab 20000) 47 e105.as [.lf] .lf 0=some (e105.v,[.lf],.lf,e105.n):=by kernel_rfl
theorem k117:thawG (runQ O3 tab 20000) 47 e117.as [.lf] .lf 0=some (e117.v,[.lf],.lf,e117.n):=by kernel_rfl
theorem k130:thawG (runQ O3 tab 20000) 47 e130.as [.lf] .lf 0=some (e130.v,[.lf],.lf,e130.n):=by kernel_rfl
theorem k164:thawG (runQ O0 tab 20000) 22 e164.as [.lf] .lf 0=some (e164.v,[.lf],.lf,e164.n):=by kernel_rfl
end
end Go.Proofs.YtnhbhdopamdgpaaGreatDoor
namespace Go.Proofs.YtnhbhdopamdgpaaGreatDoor
open Go Go.Eng
set_option maxRecDepth 100000
noncomputable section
theorem k66:thawG (runQ O3 tab 20000) 47 e66.as [.lf] .lf 0=some (e66.v,[.lf],.lf,e66.n):=by kernel_rfl
theorem k83:thawG (runQ O3 tab 20000) 47 e83.as [.lf] .lf 0=some (e83.v,[.lf],.lf,e83.n):=by kernel_rfl
theorem k96:thawG (runQ O3 tab 20000) 47 e96.as [.lf] .lf 0=some (e96.v,[.lf],.lf,e96.n):=by kernel_rfl
theorem k106:thawG (runQ O3 tab 20000) 47 e106.as [.lf] .lf 0=some (e106.v,[.lf],.lf,e106.n):=by kernel_rfl
theorem k108:thawG (runQ O3 tab 20000) 47 e108.as [.lf] .lf 0=some (e108.v,[.lf],.lf,e108.n):=by kernel_rfl
theorem k109:thawG (runQ O3 tab 20000) 47 e109.as [.lf] .lf 0=some (e109.v,[.lf],.lf,e109.n):=by kernel_rfl
theorem k118:thawG (runQ O3 tab 20000) 47 e118.as [.lf] .lf 0=some (e118.v,[.lf],.lf,e118.n):=by kernel_rfl
theorem k120:thawG (runQ O3 tab 20000) 47 e120.as [.lf] .lf 0=some (e120.v,[.lf],.lf,e120.n):=by kernel_rfl
theorem k121:thawG (runQ O3 tab 20000) 47 e121.as [.lf] .lf 0=some (e121.v,[.lf],.lf,e121.n):=by kernel_rfl
theorem k131:thawG (runQ O3 tab 20000) 47 e131.as [.lf] .lf 0=some (e131.v,[.lf],.lf,e131.n):=by kernel_rfl
theorem k133:thawG (runQ O3 tab 20000) 47 e133.as [.lf] .lf 0=some (e133.v,[.lf],.lf,e133.n):=by kernel_rfl
theorem k134:thawG (runQ O3 tab 20000) 47 e134.as [.lf] .lf 0=some (e134.v,[.lf],.lf,e134.n):=by kernel_rfl
theorem k139:thawG (runQ O0 tab 20000) 11 e139.as [.lf] .lf 0=some (e139.v,[.lf],.lf,e139.n):=by kernel_rfl
theorem k140:thawG (runQ O0 tab 20000) 18 e140.as [.lf] .lf 0=some (e140.v,[.lf],.lf,e140.n):=by kernel_rfl
theorem k151:thawG (runQ O0 tab 20000) 11 e151.as [.lf] .lf 0=some (e151.v,[.lf],.lf,e151.n):=by kernel_rfl
theorem k159:thawG (runQ O0 tab 20000) 11 e159.as [.lf] .lf 0=some (e159.v,[.lf],.lf,e159.n):=by kernel_rfl
theorem k168:thawG (runQ O0 tab 20000) 11 e168.as [.lf] .lf 0=some (e168.v,[.lf],.lf,e168.n):=by kernel_rfl
theorem k169:thawG (runQ O0 tab 20000) 18 e169.as [.lf] .lf 0=some (e169.v,[.lf],.lf,e169.n):=by kernel_rfl
theorem k183:thawG (runQ O0 tab 20000) 11 e183.as [.lf] .lf 0=some (e183.v,[.lf],.lf,e183.n):=by kernel_rfl
end
end Go.Proofs.YtnhbhdopamdgpaaGreatDoor
namespace Go.Proofs.YtnhbhdopamdgpaaGreatDoor
open Go Go.Eng
set_option maxRecDepth 100000
noncomputable section
theorem k1:thawG (runQ O1 tab 20000) 95 e1.as [.lf] .lf 0=some (e1.v,[.lf],.lf,e1.n):=by kernel_rfl
theorem k2:thawG (runQ O1 tab 20000) 95 e2.as [.lf] .lf 0=some (e2.v,[.lf],.lf,e2.n):=by kernel_rfl
theorem k3:thawG (runQ O1 tab 20000) 95 e3.as [.lf] .lf 0=some (e3.v,[.lf],.lf,e3.n):=by kernel_rfl
theorem k4:thawG (runQ O1 tab 20000) 95 e4.as [.lf] .lf 0=some (e4.v,[.lf],.lf,e4.n):=by kernel_rfl
theorem k5:thawG (runQ O1 tab 20000) 95 e5.as [.lf] .lf 0=some (e5.v,[.lf],.lf,e5.n):=by kernel_rfl
theorem k6:thawG (runQ O1 tab 20000) 95 e6.as [.lf] .lf 0=some (e6.v,[.lf],.lf,e6.n):=by kernel_rfl
theorem k7:thawG (runQ O1 tab 20000) 95 e7.as [.lf] .lf 0=some (e7.v,[.lf],.lf,e7.n):=by kernel_rfl
theorem k8:thawG (runQ O1 tab 20000) 95 e8.as [.lf] .lf 0=some (e8.v,[.lf],.lf,e8.n):=by kernel_rfl
theorem k9:thawG (runQ O0 tab 20000) 153 e9.as [.lf] .lf 0=some (e9.v,[.lf],.lf,e9.n):=by kernel_rfl
theorem k10:thawG (runQ O0 tab 20000) 153 e10.as [.lf] .lf 0=some (e10.v,[.lf],.lf,e10.n):=by kernel_rfl
theorem k11:thawG (runQ O0 tab 20000) 153 e11.as [.lf] .lf 0=some (e11.v,[.lf],.lf,e11.n):=by kernel_rfl
theorem k12:thawG (runQ O0 tab 20000) 153 e12.as [.lf] .lf 0=some (e12.v,[.lf],.lf,e12.n):=by kernel_rfl
theorem k13:thawG (runQ O0 tab 20000) 153 e13.as [.lf] .lf 0=some (e13.v,[.lf],.lf,e13.n):=by kernel_rfl
theorem k14:thawG (runQ O0 tab 20000) 153 e14.as [.lf] .lf 0=some (e14.v,[.lf],.lf,e14.n):=by kernel_rfl
theorem k15:thawG (runQ O0 tab 20000) 153 e15.as [.lf] .lf 0=some (e15.v,[.lf],.lf,e15.n):=by kernel_rfl
theorem k16:thawG (runQ O0 tab 20000) 153 e16.as [.lf] .lf 0=some (e16.v,[.lf],.lf,e16.n):=by kernel_rfl
theorem k17:thawG (runQ O0 tab 20000) 153 e17.as [.lf] .lf 0=some (e17.v,[.lf],.lf,e17.n):=by kernel_rfl
theorem k19:thawG (runQ O0 tab 20000) 153 e19.as [.lf] .lf 0=some (e19.v,[.lf],.lf,e19.n):=by kernel_rfl
theorem k22:thawG (runQ O0 tab 20000) 153 e22.as [.lf] .lf 0=some (e22.v,[.lf],.lf,e22.n):=by kernel_rfl
theorem k23:thawG (runQ O0 tab 20000) 153 e23.as [.lf] .lf 0=some (e23.v,[.lf],.lf,e23.n):=by kernel_rfl
theorem k24:thawG (runQ O0 tab 20000) 153 e24.as [.lf] .lf 0=some (e24.v,[.lf],.lf,e24.n):=by kernel_rfl
theorem k25:thawG (runQ O0 tab 20000) 153 e25.as [.lf] .lf 0=some (e25.v,[.lf],.lf,e25.n):=by kernel_rfl
theorem k26:thawG (runQ O0 tab 20000) 153 e26.as [.lf] .lf 0=some (e26.v,[.lf],.lf,e26.n):=by kernel_rfl
theorem k27:thawG (runQ O0 tab 20000) 153 e27.as [.lf] .lf 0=some (e27.v,[.lf],.lf,e27.n):=by kernel_rfl
theorem k28:thawG (runQ O0 tab 20000) 153 e28.as [.lf] .lf 0=some (e28.v,[.lf],.lf,e28.n):=by kernel_rfl
theorem k29:thawG (runQ O0 tab 20000) 153 e29.as [.lf] .lf 0=some (e29.v,[.lf],.lf,e29.n):=by kernel_rfl
theorem k30:thawG (runQ O0 tab 20000) 153 e30.as [.lf] .lf 0=some (e30.v,[.lf],.lf,e30.n):=by kernel_rfl
theorem k31:thawG (runQ O0 tab 20000) 153 e31.as [.lf] .lf 0=some (e31.v,[.lf],.lf,e31.n):=by kernel_rfl
theorem k32:thawG (runQ O0 tab 20000) 153 e32.as [.lf] .lf 0=some (e32.v,[.lf],.lf,e32.n):=by kernel_rfl
theorem k34:thawG (runQ O0 tab 20000) 153 e34.as [.lf] .lf 0=some (e34.v,[.lf],.lf,e34.n):=by kernel_rfl
theorem k35:thawG (runQ O0 tab 20000) 153 e35.as [.lf] .lf 0=some (e35.v,[.lf],.lf,e35.n):=by kernel_rfl
theorem k36:thawG (runQ O0 tab 20000) 153 e36.as [.lf] .lf 0=some (e36.v,[.lf],.lf,e36.n):=by kernel_rfl
theorem k37:thawG (runQ O0 tab 20000) 153 e37.as [.lf] .lf 0=some (e37.v,[.lf],.lf,e37.n):=by kernel_rfl
theorem k39:thawG (runQ O1 tab 20000) 133 e39.as [.lf] .lf 0=some (e39.v,[.lf],.lf,e39.n):=by kernel_rfl
theorem k41:thawG (runQ O1 tab 20000) 133 e41.as [.lf] .lf 0=some (e41.v,[.lf],.lf,e41.n):=by kernel_rfl
theorem k45:thawG (runQ O1 tab 20000) 133 e45.as [.lf] .lf 0=some (e45.v,[.lf],.lf,e45.n):=by kernel_rfl
theorem k47:thawG (runQ O1 tab 20000) 133 e47.as [.lf] .lf 0=some (e47.v,[.lf],.lf,e47.n):=by kernel_rfl
theorem k49:thawG (runQ O1 tab 20000) 133 e49.as [.lf] .lf 0=some (e49.v,[.lf],.lf,e49.n):=by kernel_rfl
theorem k50:thawG (runQ O3 tab 20000) 47 e50.as [.lf] .lf 0=some (e50.v,[.lf],.lf,e50.n):=by kernel_rfl
theorem k51:thawG (runQ O1 tab 20000) 133 e51.as [.lf] .lf 0=some (e51.v,[.lf],.lf,e51.n):=by kernel_rfl
theorem k53:thawG (runQ O1 tab 20000) 133 e53.as [.lf] .lf 0=some (e53.v,[.lf],.lf,e53.n):=by kernel_rfl
theorem k56:thawG (runQ O0 tab 20000) 153 e56.as [.lf] .lf 0=some (e56.v,[.lf],.lf,e56.n):=by kernel_rfl
theorem k57:thawG (runQ O0 tab 20000) 153 e57.as [.lf] .lf 0=some (e57.v,[.lf],.lf,e57.n):=by kernel_rfl
theorem k65:thawG (runQ O3 tab 20000) 47 e65.as [.lf] .lf 0=some (e65.v,[.lf],.lf,e65.n):=by kernel_rfl
theorem k69:thawG (runQ O0 tab 20000) 94 e69.as [.lf] .lf 0=some (e69.v,[.lf],.lf,e69.n):=by kernel_rfl
theorem k70:thawG (runQ O1 tab 20000) 95 e70.as [.lf] .lf 0=some (e70.v,[.lf],.lf,e70.n):=by kernel_rfl
theorem k71:thawG (runQ O1 tab 20000) 95 e71.as [.lf] .lf 0=some (e71.v,[.lf],.lf,e71.n):=by kernel_rfl
theorem k73:thawG (runQ O0 tab 20000) 153 e73.as [.lf] .lf 0=some (e73.v,[.lf],.lf,e73.n):=by kernel_rfl
theorem k74:thawG (runQ O0 tab 20000) 153 e74.as [.lf] .lf 0=some (e74.v,[.lf],.lf,e74.n):=by kernel_rfl
theorem k75:thawG (runQ O0 tab 20000) 153 e75.as [.lf] .lf 0=some (e75.v,[.lf],.lf,e75.n):=by kernel_rfl
theorem k76:thawG (runQ O0 tab 20000) 153 e76.as [.lf] .lf 0=some (e76.v,[.lf],.lf,e76.n):=by kernel_rfl
theorem k78:thawG (runQ O1 tab 20000) 133 e78.as [.lf] .lf 0=some (e78.v,[.lf],.lf,e78.n):=by kernel_rfl
theorem k80:thawG (runQ O1 tab 20000) 133 e80.as [.lf] .lf 0=some (e80.v,[.lf],.lf,e80.n):=by kernel_rfl
theorem k82:thawG (runQ O1 tab 20000) 133 e82.as [.lf] .lf 0=some (e82.v,[.lf],.lf,e82.n):=by kernel_rfl
theorem k85:thawG (runQ O5 tab 20000) 12 e85.as [.lf] .lf 0=some (e85.v,[.lf],.lf,e85.n):=by kernel_rfl
theorem k86:thawG (runQ O0 tab 20000) 153 e86.as [.lf] .lf 0=some (e86.v,[.lf],.lf,e86.n):=by kernel_rfl
theorem k87:thawG (runQ O0 tab 20000) 153 e87.as [.lf] .lf 0=some (e87.v,[.lf],.lf,e87.n):=by kernel_rfl
theorem k95:thawG (runQ O3 tab 20000) 47 e95.as [.lf] .lf 0=some (e95.v,[.lf],.lf,e95.n):=by kernel_rfl
theorem k99:thawG (runQ O0 tab 20000) 153 e99.as [.lf] .lf 0=some (e99.v,[.lf],.lf,e99.n):=by kernel_rfl
theorem k101:thawG (runQ O1 tab 20000) 133 e101.as [.lf] .lf 0=some (e101.v,[.lf],.lf,e101.n):=by kernel_rfl
theorem k107:thawG (runQ O3 tab 20000) 47 e107.as [.lf] .lf 0=some (e107.v,[.lf],.lf,e107.n):=by kernel_rfl
theorem k111:thawG (runQ O0 tab 20000) 153 e111.as [.lf] .lf 0=some (e111.v,[.lf],.lf,e111.n):=by kernel_rfl
theorem k113:thawG (runQ O1 tab 20000) 133 e113.as [.lf] .lf 0=some (e113.v,[.lf],.lf,e113.n):=by kernel_rfl
theorem k119:thawG (runQ O3 tab 20000) 47 e119.as [.lf] .lf 0=some (e119.v,[.lf],.lf,e119.n):=by kernel_rfl
theorem k123:thawG (runQ O0 tab 20000) 153 e123.as [.lf] .lf 0=some (e123.v,[.lf],.lf,e123.n):=by kernel_rfl
theorem k124:thawG (runQ O0 tab 20000) 153 e124.as [.lf] .lf 0=some (e124.v,[.lf],.lf,e124.n):=by kernel_rfl
theorem k132:thawG (runQ O3 tab 20000) 47 e132.as [.lf] .lf 0=some (e132.v,[.lf],.lf,e132.n):=by kernel_rfl
theorem k142:thawG (runQ O0 tab 20000) 11 e142.as [.lf] .lf 0=some (e142.v,[.lf],.lf,e142.n):=by kernel_rfl
theorem k143:thawG (runQ O0 tab 20000) 11 e143.as [.lf] .lf 0=some (e143.v,[.lf],.lf,e143.n):=by kernel_rfl
theorem k145:thawG (runQ O0 tab 20000) 11 e145.as [.lf] .lf 0=some (e145.v,[.lf],.lf,e145.n):=by kernel_rfl
theorem k150:thawG (runQ O0 tab 20000) 11 e150.as [.lf] .lf 0=some (e150.v,[.lf],.lf,e150.n):=by kernel_rfl
theorem k152:thawG (runQ O0 tab 20000) 11 e152.as [.lf] .lf 0=some (e152.v,[.lf],.lf,e152.n):=by kernel_rfl
theorem k153:thawG (runQ O0 tab 20000) 11 e153.as [.lf] .lf 0=some (e153.v,[.lf],.lf,e153.n):=by kernel_rfl
theorem k154:thawG (runQ O0 tab 20000) 11 e154.as [.lf] .lf 0=some (e154.v,[.lf],.lf,e154.n):=by kernel_rfl
theorem k157:thawG (runQ O0 tab 20000) 11 e157.as [.lf] .lf 0=some (e157.v,[.lf],.lf,e157.n):=by kernel_rfl
theorem k158:thawG (runQ O0 tab 20000) 11 e158.as [.lf] .lf 0=some (e158.v,[.lf],.lf,e158.n):=by kernel_rfl
theorem k160:thawG (runQ O0 tab 20000) 11 e160.as [.lf] .lf 0=some (e160.v,[.lf],.lf,e160.n):=by kernel_rfl
theorem k161:thawG (runQ O0 tab 20000) 11 e161.as [.lf] .lf 0=some (e161.v,[.lf],.lf,e161.n):=by kernel_rfl
theorem k165:thawG (runQ O0 tab 20000) 11 e165.as [.lf] .lf 0=some (e165.v,[.lf],.lf,e165.n):=by kernel_rfl
theorem k166:thawG (runQ O0 tab 20000) 11 e166.as [.lf] .lf 0=some (e166.v,[.lf],.lf,e166.n):=by kernel_rfl
theorem k167:thawG (runQ O0 tab 20000) 11 e167.as [.lf] .lf 0=some (e167.v,[.lf],.lf,e167.n):=by kernel_rfl
theorem k170:thawG (runQ O0 tab 20000) 11 e170.as [.lf] .lf 0=some (e170.v,[.lf],.lf,e170.n):=by kernel_rfl
theorem k171:thawG (runQ O0 tab 20000) 22 e171.as [.lf] .lf 0=some (e171.v,[.lf],.lf,e171.n):=by kernel_rfl
theorem k173:thawG (runQ O0 tab 20000) 18 e173.as [.lf] .lf 0=some (e173.v,[.lf],.lf,e173.n):=by kernel_rfl
theorem k178:thawG (runQ O0 tab 20000) 22 e178.as [.lf] .lf 0=some (e178.v,[.lf],.lf,e178.n):=by kernel_rfl
theorem k179:thawG (runQ O0 tab 20000) 11 e179.as [.lf] .lf 0=some (e179.v,[.lf],.lf,e179.n):=by kernel_rfl
theorem k180:thawG (runQ O0 tab 20000) 11 e180.as [.lf] .lf 0=some (e180.v,[.lf],.lf,e180.n):=by kernel_rfl
theorem k181:thawG (runQ O0 tab 20000) 11 e181.as [.lf] .lf 0=some (e181.v,[.lf],.lf,e181.n):=by kernel_rfl
theorem k182:thawG (runQ O0 tab 20000) 11 e182.as [.lf] .lf 0=some (e182.v,[.lf],.lf,e182.n):=by kernel_rfl
theorem k184:thawG (runQ O0 tab 20000) 18 e184.as [.lf] .lf 0=some (e184.v,[.lf],.lf,e184.n):=by kernel_rfl
theorem k185:thawG (runQ O0 tab 20000) 22 e185.as [.lf] .lf 0=some (e185.v,[.lf],.lf,e185.n):=by kernel_rfl
theorem k188:thawG (runQ O0 tab 20000) 18 e188.as [.lf] .lf 0=some (e188.v,[.lf],.lf,e188.n):=by kernel_rfl
theorem k190:thawG (runQ O0 tab 20000) 22 e190.as [.lf] .lf 0=some (e190.v,[.lf],.lf,e190.n):=by kernel_rfl
theorem k194:thawG (runQ O0 tab 20000) 18 e194.as [.lf] .lf 0=some (e194.v,[.lf],.lf,e194.n):=by kernel_rfl
end
end Go.Proofs.YtnhbhdopamdgpaaGreatDoor
