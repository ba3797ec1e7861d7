/- A part of the proof: P21ni, P21nj, P21nk, P21nl. -/
import Derived.Test.YtleacocdepjflaaGreatD21n
namespace Go.Proofs.YtleacocdepjflaaGreat
open Go Go.Eng
set_option maxRecDepth 100000
noncomputable section
theorem k87:thawG (runQ O3 tab 20000) 59 e87.as [.lf] .lf 0=some (e87.v,[.lf],.lf,e87.n):=by kernel_rfl
theorem k95:thawG (runQ O3 tab 20000) 12 e95.as [.lf] .lf 0=some (e95.v,[.lf],.lf,e95.n):=by kernel_rfl
theorem k96:thawG (runQ O3 tab 20000) 59 e96.as [.lf] .lf 0=some (e96.v,[.lf],.lf,e96.n):=by kernel_rfl
theorem k102:thawG (runQ O3 tab 20000) 59 e102.as [.lf] .lf 0=some (e102.v,[.lf],.lf,e102.n):=by kernel_rfl
theorem k108:thawG (runQ O3 tab 20000) 59 e108.as [.lf] .lf 0=some (e108.v,[.lf],.lf,e108.n):=by kernel_rfl
theorem k114:thawG (runQ O3 tab 20000) 59 e114.as [.lf] .lf 0=some (e114.v,[.lf],.lf,e114.n):=by kernel_rfl
theorem k120:thawG (runQ O3 tab 20000) 59 e120.as [.lf] .lf 0=some (e120.v,[.lf],.lf,e120.n):=by kernel_rfl
theorem k126:thawG (runQ O3 tab 20000) 59 e126.as [.lf] .lf 0=some (e126.v,[.lf],.lf,e126.n):=by kernel_rfl
theorem k132:thawG (runQ O3 tab 20000) 59 e132.as [.lf] .lf 0=some (e132.v,[.lf],.lf,e132.n):=by kernel_rfl
theorem k138:thawG (runQ O3 tab 20000) 59 e138.as [.lf] .lf 0=some (e138.v,[.lf],.lf,e138.n):=by kernel_rfl
theorem k144:thawG (runQ O3 tab 20000) 59 e144.as [.lf] .lf 0=some (e144.v,[.lf],.lf,e144.n):=by kernel_rfl
theorem k151:thawG (runQ O3 tab 20000) 59 e151.as [.lf] .lf 0=some (e151.v,[.lf],.lf,e151.n):=by kernel_rfl
theorem k153:thawG (runQ O3 tab 20000) 59 e153.as [.lf] .lf 0=some (e153.v,[.lf],.lf,e153.n):=by kernel_rfl
theorem k155:thawG (runQ O5 tab 20000) 8 e155.as [.lf] .lf 0=some (e155.v,[.lf],.lf,e155.n):=by kernel_rfl
theorem k156:thawG (runQ O3 tab 20000) 59 e156.as [.lf] .lf 0=some (e156.v,[.lf],.lf,e156.n):=by kernel_rfl
theorem k163:thawG (runQ O3 tab 20000) 59 e163.as [.lf] .lf 0=some (e163.v,[.lf],.lf,e163.n):=by kernel_rfl
theorem k165:thawG (runQ O3 tab 20000) 59 e165.as [.lf] .lf 0=some (e165.v,[.lf],.lf,e165.n):=by kernel_rfl
theorem k167:thawG (runQ O5 tab 20000) 8 e167.as [.lf] .lf 0=some (e167.v,[.lf],.lf,e167.n):=by kernel_rfl
theorem k170:thawG (runQ O0 tab 20000) 98 e170.as [.lf] .lf 0=some (e170.v,[.lf],.lf,e170.n):=by kernel_rfl
theorem k172:thawG (runQ O0 tab 20000) 98 e172.as [.lf] .lf 0=some (e172.v,[.lf],.lf,e172.n):=by kernel_rfl
theorem k192:thawG (runQ O5 tab 20000) 8 e192.as [.lf] .lf 0=some (e192.v,[.lf],.lf,e192.n):=by kernel_rfl
theorem k205:thawG (runQ O2 tab 20000) 42 e205.as [.lf] .lf 0=some (e205.v,[.lf],.lf,e205.n):=by kernel_rfl
theorem k211:thawG (runQ O2 tab 20000) 42 e211.as [.lf] .lf 0=some (e211.v,[.lf],.lf,e211.n):=by kernel_rfl
theorem k217:thawG (runQ O2 tab 20000) 42 e217.as [.lf] .lf 0=some (e217.v,[.lf],.lf,e217.n):=by kernel_rfl
theorem k228:thawG (runQ O2 tab 20000) 107 e228.as [.lf] .lf 0=some (e228.v,[.lf],.lf,e228.n):=by kernel_rfl
end
end Go.Proofs.YtleacocdepjflaaGreat
namespace Go.Proofs.YtleacocdepjflaaGreat
open Go Go.Eng
set_option maxRecDepth 100000
noncomputable section
theorem k15:thawG (runQ O1 tab 20000) 57 e15.as [.lf] .lf 0=some (e15.v,[.lf],.lf,e15.n):=by kernel_rfl
theorem k17:thawG (runQ O1 tab 20000) 57 e17.as [.lf] .lf 0=some (e17.v,[.lf],.lf,e17.n):=by kernel_rfl
theorem k25:thawG (runQ O1 tab 20000) 57 e25.as [.lf] .lf 0=some (e25.v,[.lf],.lf,e25.n):=by kernel_rfl
theorem k26:thawG (runQ O1 tab 20000) 57 e26.as [.lf] .lf 0=some (e26.v,[.lf],.lf,e26.n):=by kernel_rfl
theorem k30:thawG (runQ O1 tab 20000) 50 e30.as [.lf] .lf 0=some (e30.v,[.lf],.lf,e30.n):=by kernel_rfl
theorem k88:thawG (runQ O4 tab 20000) 58 e88.as [.lf] .lf 0=some (e88.v,[.lf],.lf,e88.n):=by kernel_rfl
theorem k90:thawG (runQ O4 tab 20000) 58 e90.as [.lf] .lf 0=some (e90.v,[.lf],.lf,e90.n):=by kernel_rfl
theorem k91:thawG (runQ O4 tab 20000) 58 e91.as [.lf] .lf 0=some (e91.v,[.lf],.lf,e91.n):=by kernel_rfl
theorem k97:thawG (runQ O4 tab 20000) 58 e97.as [.lf] .lf 0=some (e97.v,[.lf],.lf,e97.n):=by kernel_rfl
theorem k101:thawG (runQ O3 tab 20000) 12 e101.as [.lf] .lf 0=some (e101.v,[.lf],.lf,e101.n):=by kernel_rfl
theorem k103:thawG (runQ O4 tab 20000) 58 e103.as [.lf] .lf 0=some (e103.v,[.lf],.lf,e103.n):=by kernel_rfl
theorem k107:thawG (runQ O3 tab 20000) 12 e107.as [.lf] .lf 0=some (e107.v,[.lf],.lf,e107.n):=by kernel_rfl
theorem k109:thawG (runQ O4 tab 20000) 58 e109.as [.lf] .lf 0=some (e109.v,[.lf],.lf,e109.n):=by kernel_rfl
theorem k113:thawG (runQ O3 tab 20000) 12 e113.as [.lf] .lf 0=some (e113.v,[.lf],.lf,e113.n):=by kernel_rfl
theorem k115:thawG (runQ O4 tab 20000) 58 e115.as [.lf] .lf 0=some (e115.v,[.lf],.lf,e115.n):=by kernel_rfl
theorem k119:thawG (runQ O3 tab 20000) 12 e119.as [.lf] .lf 0=some (e119.v,[.lf],.lf,e119.n):=by kernel_rfl
theorem k121:thawG (runQ O4 tab 20000) 58 e121.as [.lf] .lf 0=some (e121.v,[.lf],.lf,e121.n):=by kernel_rfl
theorem k125:thawG (runQ O3 tab 20000) 12 e125.as [.lf] .lf 0=some (e125.v,[.lf],.lf,e125.n):=by kernel_rfl
theorem k127:thawG (runQ O4 tab 20000) 58 e127.as [.lf] .lf 0=some (e127.v,[.lf],.lf,e127.n):=by kernel_rfl
theorem k131:thawG (runQ O3 tab 20000) 12 e131.as [.lf] .lf 0=some (e131.v,[.lf],.lf,e131.n):=by kernel_rfl
theorem k133:thawG (runQ O4 tab 20000) 58 e133.as [.lf] .lf 0=some (e133.v,[.lf],.lf,e133.n):=by kernel_rfl
theorem k137:thawG (runQ O3 tab 20000) 12 e137.as [.lf] .lf 0=some (e137.v,[.lf],.lf,e137.n):=by kernel_rfl
theorem k139:thawG (runQ O4 tab 20000) 58 e139.as [.lf] .lf 0=some (e139.v,[.lf],.lf,e139.n):=by kernel_rfl
theorem k143:thawG (runQ O3 tab 20000) 12 e143.as [.lf] .lf 0=some (e143.v,[.lf],.lf,e143.n):=by kernel_rfl
theorem k145:thawG (runQ O4 tab 20000) 58 e145.as [.lf] .lf 0=some (e145.v,[.lf],.lf,e145.n):=by kernel_rfl
theorem k149:thawG (runQ O3 tab 20000) 12 e149.as [.lf] .lf 0=some (e149.v,[.lf],.lf,e149.n):=by kernel_rfl
theorem k152:thawG (runQ O4 tab 20000) 58 e152.as [.lf] .lf 0=some (e152.v,[.lf],.lf,e152.n):=by kernel_rfl
theorem k161:thawG (runQ O3 tab 20000) 12 e161.as [.lf] .lf 0=some (e161.v,[.lf],.lf,e161.n):=by kernel_rfl
theorem k171:thawG (runQ O1 tab 20000) 57 e171.as [.lf] .lf 0=some (e171.v,[.lf],.lf,e171.n):=by kernel_rfl
theorem k173:thawG (runQ O1 tab 20000) 57 e173.as [.lf] .lf 0=some (e173.v,[.lf],.lf,e173.n):=by kernel_rfl
theorem k175:thawG (runQ O1 tab 20000) 57 e175.as [.lf] .lf 0=some (e175.v,[.lf],.lf,e175.n):=by kernel_rfl
theorem k176:thawG (runQ O1 tab 20000) 57 e176.as [.lf] .lf 0=some (e176.v,[.lf],.lf,e176.n):=by kernel_rfl
theorem k190:thawG (runQ O3 tab 20000) 59 e190.as [.lf] .lf 0=some (e190.v,[.lf],.lf,e190.n):=by kernel_rfl
theorem k195:thawG (runQ O3 tab 20000) 59 e195.as [.lf] .lf 0=some (e195.v,[.lf],.lf,e195.n):=by kernel_rfl
theorem k201:thawG (runQ O3 tab 20000) 59 e201.as [.lf] .lf 0=some (e201.v,[.lf],.lf,e201.n):=by kernel_rfl
theorem k230:thawG (runQ O3 tab 20000) 101 e230.as [.lf] .lf 0=some (e230.v,[.lf],.lf,e230.n):=by kernel_rfl
end
end Go.Proofs.YtleacocdepjflaaGreat
namespace Go.Proofs.YtleacocdepjflaaGreat
open Go Go.Eng
set_option maxRecDepth 100000
noncomputable section
theorem k0:thawG (runQ O0 tab 20000) 90 e0.as [.lf] .lf 0=some (e0.v,[.lf],.lf,e0.n):=by kernel_rfl
theorem k10:thawG (runQ O0 tab 20000) 98 e10.as [.lf] .lf 0=some (e10.v,[.lf],.lf,e10.n):=by kernel_rfl
theorem k11:thawG (runQ O1 tab 20000) 57 e11.as [.lf] .lf 0=some (e11.v,[.lf],.lf,e11.n):=by kernel_rfl
theorem k12:thawG (runQ O0 tab 20000) 98 e12.as [.lf] .lf 0=some (e12.v,[.lf],.lf,e12.n):=by kernel_rfl
theorem k13:thawG (runQ O1 tab 20000) 57 e13.as [.lf] .lf 0=some (e13.v,[.lf],.lf,e13.n):=by kernel_rfl
theorem k14:thawG (runQ O0 tab 20000) 98 e14.as [.lf] .lf 0=some (e14.v,[.lf],.lf,e14.n):=by kernel_rfl
theorem k16:thawG (runQ O0 tab 20000) 98 e16.as [.lf] .lf 0=some (e16.v,[.lf],.lf,e16.n):=by kernel_rfl
theorem k23:thawG (runQ O1 tab 20000) 57 e23.as [.lf] .lf 0=some (e23.v,[.lf],.lf,e23.n):=by kernel_rfl
theorem k24:thawG (runQ O1 tab 20000) 57 e24.as [.lf] .lf 0=some (e24.v,[.lf],.lf,e24.n):=by kernel_rfl
theorem k32:thawG (runQ O1 tab 20000) 132 e32.as [.lf] .lf 0=some (e32.v,[.lf],.lf,e32.n):=by kernel_rfl
theorem k33:thawG (runQ O1 tab 20000) 132 e33.as [.lf] .lf 0=some (e33.v,[.lf],.lf,e33.n):=by kernel_rfl
theorem k34:thawG (runQ O1 tab 20000) 132 e34.as [.lf] .lf 0=some (e34.v,[.lf],.lf,e34.n):=by kernel_rfl
theorem k35:thawG (runQ O1 tab 20000) 132 e35.as [.lf] .lf 0=some (e35.v,[.lf],.lf,e35.n):=by kernel_rfl
theorem k36:thawG (runQ O1 tab 20000) 132 e36.as [.lf] .lf 0=some (e36.v,[.lf],.lf,e36.n):=by kernel_rfl
theorem k37:thawG (runQ O1 tab 20000) 132 e37.as [.lf] .lf 0=some (e37.v,[.lf],.lf,e37.n):=by kernel_rfl
theorem k38:thawG (runQ O1 tab 20000) 132 e38.as [.lf] .lf 0=some (e38.v,[.lf],.lf,e38.n):=by kernel_rfl
theorem k39:thawG (runQ O1 tab 20000) 132 e39.as [.lf] .lf 0=some (e39.v,[.lf],.lf,e39.n):=by kernel_rfl
theorem k40:thawG (runQ O0 tab 20000) 298 e40.as [.lf] .lf 0=some (e40.v,[.lf],.lf,e40.n):=by kernel_rfl
theorem k41:thawG (runQ O0 tab 20000) 298 e41.as [.lf] .lf 0=some (e41.v,[.lf],.lf,e41.n):=by kernel_rfl
theorem k42:thawG (runQ O0 tab 20000) 298 e42.as [.lf] .lf 0=some (e42.v,[.lf],.lf,e42.n):=by kernel_rfl
theorem k43:thawG (runQ O0 tab 20000) 298 e43.as [.lf] .lf 0=some (e43.v,[.lf],.lf,e43.n):=by kernel_rfl
theorem k44:thawG (runQ O0 tab 20000) 298 e44.as [.lf] .lf 0=some (e44.v,[.lf],.lf,e44.n):=by kernel_rfl
theorem k45:thawG (runQ O0 tab 20000) 298 e45.as [.lf] .lf 0=some (e45.v,[.lf],.lf,e45.n):=by kernel_rfl
theorem k46:thawG (runQ O0 tab 20000) 298 e46.as [.lf] .lf 0=some (e46.v,[.lf],.lf,e46.n):=by kernel_rfl
theorem k47:thawG (runQ O0 tab 20000) 298 e47.as [.lf] .lf 0=some (e47.v,[.lf],.lf,e47.n):=by kernel_rfl
theorem k48:thawG (runQ O0 tab 20000) 298 e48.as [.lf] .lf 0=some (e48.v,[.lf],.lf,e48.n):=by kernel_rfl
theorem k49:thawG (runQ O0 tab 20000) 298 e49.as [.lf] .lf 0=some (e49.v,[.lf],.lf,e49.n):=by kernel_rfl
theorem k50:thawG (runQ O0 tab 20000) 298 e50.as [.lf] .lf 0=some (e50.v,[.lf],.lf,e50.n):=by kernel_rfl
theorem k51:thawG (runQ O0 tab 20000) 298 e51.as [.lf] .lf 0=some (e51.v,[.lf],.lf,e51.n):=by kernel_rfl
theorem k52:thawG (runQ O0 tab 20000) 298 e52.as [.lf] .lf 0=some (e52.v,[.lf],.lf,e52.n):=by kernel_rfl
theorem k53:thawG (runQ O0 tab 20000) 298 e53.as [.lf] .lf 0=some (e53.v,[.lf],.lf,e53.n):=by kernel_rfl
theorem k54:thawG (runQ O0 tab 20000) 298 e54.as [.lf] .lf 0=some (e54.v,[.lf],.lf,e54.n):=by kernel_rfl
theorem k55:thawG (runQ O0 tab 20000) 298 e55.as [.lf] .lf 0=some (e55.v,[.lf],.lf,e55.n):=by kernel_rfl
theorem k56:thawG (runQ O0 tab 20000) 298 e56.as [.lf] .lf 0=some (e56.v,[.lf],.lf,e56.n):=by kernel_rfl
theorem k57:thawG (runQ O0 tab 20000) 298 e57.as [.lf] .lf 0=some (e57.v,[.lf],.lf,e57.n):=by kernel_rfl
theorem k58:thawG (runQ O0 tab 20000) 298 e58.as [.lf] .lf 0=some (e58.v,[.lf],.lf,e58.n):=by kernel_rfl
theorem k59:thawG (runQ O0 tab 20000) 298 e59.as [.lf] .lf 0=some (e59.v,[.lf],.lf,e59.n):=by kernel_rfl
theorem k60:thawG (runQ O0 tab 20000) 298 e60.as [.lf] .lf 0=some (e60.v,[.lf],.lf,e60.n):=by kernel_rfl
theorem k61:thawG (runQ O0 tab 20000) 298 e61.as [.lf] .lf 0=some (e61.v,[.lf],.lf,e61.n):=by kernel_rfl
theorem k62:thawG (runQ O0 tab 20000) 298 e62.as [.lf] .lf 0=some (e62.v,[.lf],.lf,e62.n):=by kernel_rfl
theorem k63:thawG (runQ O0 tab 20000) 298 e63.as [.lf] .lf 0=some (e63.v,[.lf],.lf,e63.n):=by kernel_rfl
theorem k64:thawG (runQ O0 tab 20000) 298 e64.as [.lf] .lf 0=some (e64.v,[.lf],.lf,e64.n):=by kernel_rfl
theorem k65:thawG (runQ O0 tab 20000) 298 e65.as [.lf] .lf 0=some (e65.v,[.lf],.lf,e65.n):=by kernel_rfl
theorem k66:thawG (runQ O0 tab 20000) 298 e66.as [.lf] .lf 0=some (e66.v,[.lf],.lf,e66.n):=by kernel_rfl
theorem k67:thawG (runQ O0 tab 20000) 298 e67.as [.lf] .lf 0=some (e67.v,[.lf],.lf,e67.n):=by kernel_rfl
theorem k68:thawG (runQ O0 tab 20000) 298 e68.as [.lf] .lf 0=some (e68.v,[.lf],.lf,e68.n):=by kernel_rfl
theorem k69:thawG (runQ O0 tab 20000) 298 e69.as [.lf] .lf 0=some (e69.v,[.lf],.lf,e69.n):=by kernel_rfl
theorem k70:thawG (runQ O0 tab 20000) 298 e70.as [.lf] .lf 0=some (e70.v,[.lf],.lf,e70.n):=by kernel_rfl
theorem k71:thawG (runQ O0 tab 20000) 298 e71.as [.lf] .lf 0=some (e71.v,[.lf],.lf,e71.n):=by kernel_rfl
theorem k72:thawG (runQ O0 tab 20000) 298 e72.as [.lf] .lf 0=some (e72.v,[.lf],.lf,e72.n):=by kernel_rfl
theorem k73:thawG (runQ O0 tab 20000) 298 e73.as [.lf] .lf 0=some (e73.v,[.lf],.lf,e73.n):=by kernel_rfl
theorem k74:thawG (runQ O0 tab 20000) 298 e74.as [.lf] .lf 0=some (e74.v,[.lf],.lf,e74.n):=by kernel_rfl
theorem k76:thawG (runQ O1 tab 20000) 278 e76.as [.lf] .lf 0=some (e76.v,[.lf],.lf,e76.n):=by kernel_rfl
theorem k79:thawG (runQ O1 tab 20000) 278 e79.as [.lf] .lf 0=some (e79.v,[.lf],.lf,e79.n):=by kernel_rfl
theorem k80:thawG (runQ O1 tab 20000) 278 e80.as [.lf] .lf 0=some (e80.v,[.lf],.lf,e80.n):=by kernel_rfl
theorem k81:thawG (runQ O1 tab 20000) 278 e81.as [.lf] .lf 0=some (e81.v,[.lf],.lf,e81.n):=by kernel_rfl
theorem k82:thawG (runQ O1 tab 20000) 278 e82.as [.lf] .lf 0=some (e82.v,[.lf],.lf,e82.n):=by kernel_rfl
theorem k83:thawG (runQ O1 tab 20000) 278 e83.as [.lf] .lf 0=some (e83.v,[.lf],.lf,e83.n):=by kernel_rfl
theorem k85:thawG (runQ O0 tab 20000) 102 e85.as [.lf] .lf 0=some (e85.v,[.lf],.lf,e85.n):=by kernel_rfl
theorem k93:thawG (runQ O6 tab 20000) 8 e93.as [.lf] .lf 0=some (e93.v,[.lf],.lf,e93.n):=by kernel_rfl
theorem k94:thawG (runQ O2 tab 20000) 42 e94.as [.lf] .lf 0=some (e94.v,[.lf],.lf,e94.n):=by kernel_rfl
theorem k99:thawG (runQ O6 tab 20000) 8 e99.as [.lf] .lf 0=some (e99.v,[.lf],.lf,e99.n):=by kernel_rfl
theorem k100:thawG (runQ O2 tab 20000) 42 e100.as [.lf] .lf 0=some (e100.v,[.lf],.lf,e100.n):=by kernel_rfl
theorem k105:thawG (runQ O6 tab 20000) 8 e105.as [.lf] .lf 0=some (e105.v,[.lf],.lf,e105.n):=by kernel_rfl
theorem k106:thawG (runQ O2 tab 20000) 42 e106.as [.lf] .lf 0=some (e106.v,[.lf],.lf,e106.n):=by kernel_rfl
theorem k111:thawG (runQ O6 tab 20000) 8 e111.as [.lf] .lf 0=some (e111.v,[.lf],.lf,e111.n):=by kernel_rfl
theorem k112:thawG (runQ O2 tab 20000) 42 e112.as [.lf] .lf 0=some (e112.v,[.lf],.lf,e112.n):=by kernel_rfl
theorem k117:thawG (runQ O6 tab 20000) 8 e117.as [.lf] .lf 0=some (e117.v,[.lf],.lf,e117.n):=by kernel_rfl
theorem k118:thawG (runQ O2 tab 20000) 42 e118.as [.lf] .lf 0=some (e118.v,[.lf],.lf,e118.n):=by kernel_rfl
theorem k123:thawG (runQ O6 tab 20000) 8 e123.as [.lf] .lf 0=some (e123.v,[.lf],.lf,e123.n):=by kernel_rfl
theorem k124:thawG (runQ O2 tab 20000) 42 e124.as [.lf] .lf 0=some (e124.v,[.lf],.lf,e124.n):=by kernel_rfl
theorem k129:thawG (runQ O6 tab 20000) 8 e129.as [.lf] .lf 0=some (e129.v,[.lf],.lf,e129.n):=by kernel_rfl
theorem k130:thawG (runQ O2 tab 20000) 42 e130.as [.lf] .lf 0=some (e130.v,[.lf],.lf,e130.n):=by kernel_rfl
theorem k135:thawG (runQ O6 tab 20000) 8 e135.as [.lf] .lf 0=some (e135.v,[.lf],.lf,e135.n):=by kernel_rfl
theorem k136:thawG (runQ O2 tab 20000) 42 e136.as [.lf] .lf 0=some (e136.v,[.lf],.lf,e136.n):=by kernel_rfl
theorem k141:thawG (runQ O6 tab 20000) 8 e141.as [.lf] .lf 0=some (e141.v,[.lf],.lf,e141.n):=by kernel_rfl
theorem k142:thawG (runQ O2 tab 20000) 42 e142.as [.lf] .lf 0=some (e142.v,[.lf],.lf,e142.n):=by kernel_rfl
theorem k147:thawG (runQ O6 tab 20000) 8 e147.as [.lf] .lf 0=some (e147.v,[.lf],.lf,e147.n):=by kernel_rfl
theorem k148:thawG (runQ O2 tab 20000) 42 e148.as [.lf] .lf 0=some (e148.v,[.lf],.lf,e148.n):=by kernel_rfl
theorem k150:thawG (runQ O0 tab 20000) 102 e150.as [.lf] .lf 0=some (e150.v,[.lf],.lf,e150.n):=by kernel_rfl
theorem k154:thawG (runQ O4 tab 20000) 58 e154.as [.lf] .lf 0=some (e154.v,[.lf],.lf,e154.n):=by kernel_rfl
theorem k157:thawG (runQ O4 tab 20000) 58 e157.as [.lf] .lf 0=some (e157.v,[.lf],.lf,e157.n):=by kernel_rfl
theorem k159:thawG (runQ O6 tab 20000) 8 e159.as [.lf] .lf 0=some (e159.v,[.lf],.lf,e159.n):=by kernel_rfl
theorem k162:thawG (runQ O0 tab 20000) 102 e162.as [.lf] .lf 0=some (e162.v,[.lf],.lf,e162.n):=by kernel_rfl
theorem k164:thawG (runQ O4 tab 20000) 58 e164.as [.lf] .lf 0=some (e164.v,[.lf],.lf,e164.n):=by kernel_rfl
theorem k166:thawG (runQ O4 tab 20000) 58 e166.as [.lf] .lf 0=some (e166.v,[.lf],.lf,e166.n):=by kernel_rfl
theorem k179:thawG (runQ O1 tab 20000) 50 e179.as [.lf] .lf 0=some (e179.v,[.lf],.lf,e179.n):=by kernel_rfl
theorem k180:thawG (runQ O0 tab 20000) 191 e180.as [.lf] .lf 0=some (e180.v,[.lf],.lf,e180.n):=by kernel_rfl
theorem k181:thawG (runQ O1 tab 20000) 132 e181.as [.lf] .lf 0=some (e181.v,[.lf],.lf,e181.n):=by kernel_rfl
theorem k182:thawG (runQ O1 tab 20000) 132 e182.as [.lf] .lf 0=some (e182.v,[.lf],.lf,e182.n):=by kernel_rfl
theorem k183:thawG (runQ O0 tab 20000) 298 e183.as [.lf] .lf 0=some (e183.v,[.lf],.lf,e183.n):=by kernel_rfl
theorem k184:thawG (runQ O0 tab 20000) 298 e184.as [.lf] .lf 0=some (e184.v,[.lf],.lf,e184.n):=by kernel_rfl
theorem k185:thawG (runQ O0 tab 20000) 298 e185.as [.lf] .lf 0=some (e185.v,[.lf],.lf,e185.n):=by kernel_rfl
theorem k187:thawG (runQ O1 tab 20000) 278 e187.as [.lf] .lf 0=some (e187.v,[.lf],.lf,e187.n):=by kernel_rfl
theorem k188:thawG (runQ O1 tab 20000) 278 e188.as [.lf] .lf 0=some (e188.v,[.lf],.lf,e188.n):=by kernel_rfl
theorem k191:thawG (runQ O4 tab 20000) 58 e191.as [.lf] .lf 0=some (e191.v,[.lf],.lf,e191.n):=by kernel_rfl
theorem k193:thawG (runQ O2 tab 20000) 42 e193.as [.lf] .lf 0=some (e193.v,[.lf],.lf,e193.n):=by kernel_rfl
theorem k194:thawG (runQ O3 tab 20000) 12 e194.as [.lf] .lf 0=some (e194.v,[.lf],.lf,e194.n):=by kernel_rfl
theorem k196:thawG (runQ O4 tab 20000) 58 e196.as [.lf] .lf 0=some (e196.v,[.lf],.lf,e196.n):=by kernel_rfl
theorem k197:thawG (runQ O5 tab 20000) 32 e197.as [.lf] .lf 0=some (e197.v,[.lf],.lf,e197.n):=by kernel_rfl
theorem k198:thawG (runQ O6 tab 20000) 8 e198.as [.lf] .lf 0=some (e198.v,[.lf],.lf,e198.n):=by kernel_rfl
theorem k199:thawG (runQ O2 tab 20000) 42 e199.as [.lf] .lf 0=some (e199.v,[.lf],.lf,e199.n):=by kernel_rfl
theorem k200:thawG (runQ O3 tab 20000) 12 e200.as [.lf] .lf 0=some (e200.v,[.lf],.lf,e200.n):=by kernel_rfl
theorem k202:thawG (runQ O4 tab 20000) 58 e202.as [.lf] .lf 0=some (e202.v,[.lf],.lf,e202.n):=by kernel_rfl
theorem k204:thawG (runQ O1 tab 20000) 50 e204.as [.lf] .lf 0=some (e204.v,[.lf],.lf,e204.n):=by kernel_rfl
theorem k206:thawG (runQ O3 tab 20000) 12 e206.as [.lf] .lf 0=some (e206.v,[.lf],.lf,e206.n):=by kernel_rfl
theorem k208:thawG (runQ O4 tab 20000) 58 e208.as [.lf] .lf 0=some (e208.v,[.lf],.lf,e208.n):=by kernel_rfl
theorem k210:thawG (runQ O6 tab 20000) 8 e210.as [.lf] .lf 0=some (e210.v,[.lf],.lf,e210.n):=by kernel_rfl
theorem k212:thawG (runQ O3 tab 20000) 12 e212.as [.lf] .lf 0=some (e212.v,[.lf],.lf,e212.n):=by kernel_rfl
theorem k214:thawG (runQ O4 tab 20000) 58 e214.as [.lf] .lf 0=some (e214.v,[.lf],.lf,e214.n):=by kernel_rfl
theorem k215:thawG (runQ O5 tab 20000) 32 e215.as [.lf] .lf 0=some (e215.v,[.lf],.lf,e215.n):=by kernel_rfl
theorem k216:thawG (runQ O6 tab 20000) 8 e216.as [.lf] .lf 0=some (e216.v,[.lf],.lf,e216.n):=by kernel_rfl
theorem k218:thawG (runQ O3 tab 20000) 12 e218.as [.lf] .lf 0=some (e218.v,[.lf],.lf,e218.n):=by kernel_rfl
theorem k220:thawG (runQ O4 tab 20000) 58 e220.as [.lf] .lf 0=some (e220.v,[.lf],.lf,e220.n):=by kernel_rfl
theorem k222:thawG (runQ O3 tab 20000) 12 e222.as [.lf] .lf 0=some (e222.v,[.lf],.lf,e222.n):=by kernel_rfl
theorem k223:thawG (runQ O4 tab 20000) 58 e223.as [.lf] .lf 0=some (e223.v,[.lf],.lf,e223.n):=by kernel_rfl
theorem k226:thawG (runQ O0 tab 20000) 191 e226.as [.lf] .lf 0=some (e226.v,[.lf],.lf,e226.n):=by kernel_rfl
theorem k227:thawG (runQ O1 tab 20000) 132 e227.as [.lf] .lf 0=some (e227.v,[.lf],.lf,e227.n):=by kernel_rfl
theorem k231:thawG (runQ O3 tab 20000) 59 e231.as [.lf] .lf 0=some (e231.v,[.lf],.lf,e231.n):=by kernel_rfl
theorem k232:thawG (runQ O4 tab 20000) 58 e232.as [.lf] .lf 0=some (e232.v,[.lf],.lf,e232.n):=by kernel_rfl
theorem k233:thawG (runQ O5 tab 20000) 8 e233.as [.lf] .lf 0=some (e233.v,[.lf],.lf,e233.n):=by kernel_rfl
theorem k234:thawG (runQ O4 tab 20000) 58 e234.as [.lf] .lf 0=some (e234.v,[.lf],.lf,e234.n):=by kernel_rfl
theorem k236:thawG (runQ O4 tab 20000) 58 e236.as [.lf] .lf 0=some (e236.v,[.lf],.lf,e236.n):=by kernel_rfl
theorem k237:thawG (runQ O3 tab 20000) 59 e237.as [.lf] .lf 0=some (e237.v,[.lf],.lf,e237.n):=by kernel_rfl
theorem k238:thawG (runQ O3 tab 20000) 59 e238.as [.lf] .lf 0=some (e238.v,[.lf],.lf,e238.n):=by kernel_rfl
theorem k239:thawG (runQ O4 tab 20000) 58 e239.as [.lf] .lf 0=some (e239.v,[.lf],.lf,e239.n):=by kernel_rfl
theorem k240:thawG (runQ O3 tab 20000) 59 e240.as [.lf] .lf 0=some (e240.v,[.lf],.lf,e240.n):=by kernel_rfl
end
end Go.Proofs.YtleacocdepjflaaGreat
namespace Go.Proofs.YtleacocdepjflaaGreat
open Go Go.Eng
set_option maxRecDepth 100000
noncomputable section
theorem k89:thawG (runQ O5 tab 20000) 8 e89.as [.lf] .lf 0=some (e89.v,[.lf],.lf,e89.n):=by kernel_rfl
theorem k168:thawG (runQ O0 tab 20000) 90 e168.as [.lf] .lf 0=some (e168.v,[.lf],.lf,e168.n):=by kernel_rfl
theorem k224:thawG (runQ O0 tab 20000) 90 e224.as [.lf] .lf 0=some (e224.v,[.lf],.lf,e224.n):=by kernel_rfl
theorem k235:thawG (runQ O5 tab 20000) 8 e235.as [.lf] .lf 0=some (e235.v,[.lf],.lf,e235.n):=by kernel_rfl
end
end Go.Proofs.YtleacocdepjflaaGreat
