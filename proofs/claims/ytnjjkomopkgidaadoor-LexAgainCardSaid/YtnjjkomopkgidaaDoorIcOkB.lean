/-
  WHAT THE TABLE HOLDS IS WHAT THE PROGRAM's FUNCTIONS COME TO, printed by a program of this session's own.
-/
import Derived.Test.YtnjjkomopkgidaaDoorIcB
import Derived.Test.YtnjjkomopkgidaaDoorMacC
import Derived.Test.YtnjjkomopkgidaaDoorProg
import Derived.KernelRfl
namespace Go.Proofs.YtnjjkomopkgidaaDoor.Av
set_option maxRecDepth 1000000
open Go
theorem ok53 : FOk Tryd.prog 53 sh53 := fokM (by kernel_rfl : Tryd.prog.funcs[53]? = some Tryd.f53) (by kernel_rfl) (by kernel_rfl)
theorem ok54 : FOk Tryd.prog 54 sh54 := fokM (by kernel_rfl : Tryd.prog.funcs[54]? = some Tryd.f54) (by kernel_rfl) (by kernel_rfl)
theorem ok55 : FOk Tryd.prog 55 sh55 := fokM (by kernel_rfl : Tryd.prog.funcs[55]? = some Tryd.f55) (by kernel_rfl) (by kernel_rfl)
theorem ok56 : FOk Tryd.prog 56 sh56 := fokM (by kernel_rfl : Tryd.prog.funcs[56]? = some Tryd.f56) (by kernel_rfl) (by kernel_rfl)
theorem ok58 : FOk Tryd.prog 58 sh58 := fokM (by kernel_rfl : Tryd.prog.funcs[58]? = some Tryd.f58) (by kernel_rfl) (by kernel_rfl)
theorem ok59 : FOk Tryd.prog 59 sh59 := fokM (by kernel_rfl : Tryd.prog.funcs[59]? = some Tryd.f59) (by kernel_rfl) (by kernel_rfl)
theorem ok60 : FOk Tryd.prog 60 sh60 := fokM (by kernel_rfl : Tryd.prog.funcs[60]? = some Tryd.f60) (by kernel_rfl) (by kernel_rfl)
theorem ok61 : FOk Tryd.prog 61 sh61 := fokM (by kernel_rfl : Tryd.prog.funcs[61]? = some Tryd.f61) (by kernel_rfl) (by kernel_rfl)
theorem ok62 : FOk Tryd.prog 62 sh62 := fokM (by kernel_rfl : Tryd.prog.funcs[62]? = some Tryd.f62) (by kernel_rfl) (by kernel_rfl)
theorem ok63 : FOk Tryd.prog 63 sh63 := fokM (by kernel_rfl : Tryd.prog.funcs[63]? = some Tryd.f63) (by kernel_rfl) (by kernel_rfl)
theorem ok64 : FOk Tryd.prog 64 sh64 := fokM (by kernel_rfl : Tryd.prog.funcs[64]? = some Tryd.f64) (by kernel_rfl) (by kernel_rfl)
theorem ok65 : FOk Tryd.prog 65 sh65 := fokM (by kernel_rfl : Tryd.prog.funcs[65]? = some Tryd.f65) (by kernel_rfl) (by kernel_rfl)
theorem ok66 : FOk Tryd.prog 66 sh66 := fokM (by kernel_rfl : Tryd.prog.funcs[66]? = some Tryd.f66) (by kernel_rfl) (by kernel_rfl)
theorem ok67 : FOk Tryd.prog 67 sh67 := fokM (by kernel_rfl : Tryd.prog.funcs[67]? = some Tryd.f67) (by kernel_rfl) (by kernel_rfl)
theorem ok68 : FOk Tryd.prog 68 sh68 := fokM (by kernel_rfl : Tryd.prog.funcs[68]? = some Tryd.f68) (by kernel_rfl) (by kernel_rfl)
theorem ok69 : FOk Tryd.prog 69 sh69 := fokM (by kernel_rfl : Tryd.prog.funcs[69]? = some Tryd.f69) (by kernel_rfl) (by kernel_rfl)
theorem ok70 : FOk Tryd.prog 70 sh70 := fokM (by kernel_rfl : Tryd.prog.funcs[70]? = some Tryd.f70) (by kernel_rfl) (by kernel_rfl)
theorem ok71 : FOk Tryd.prog 71 sh71 := fokM (by kernel_rfl : Tryd.prog.funcs[71]? = some Tryd.f71) (by kernel_rfl) (by kernel_rfl)
theorem ok72 : FOk Tryd.prog 72 sh72 := fokM (by kernel_rfl : Tryd.prog.funcs[72]? = some Tryd.f72) (by kernel_rfl) (by kernel_rfl)
theorem ok73 : FOk Tryd.prog 73 sh73 := fokM (by kernel_rfl : Tryd.prog.funcs[73]? = some Tryd.f73) (by kernel_rfl) (by kernel_rfl)
theorem ok74 : FOk Tryd.prog 74 sh74 := fokM (by kernel_rfl : Tryd.prog.funcs[74]? = some Tryd.f74) (by kernel_rfl) (by kernel_rfl)
theorem ok75 : FOk Tryd.prog 75 sh75 := fokM (by kernel_rfl : Tryd.prog.funcs[75]? = some Tryd.f75) (by kernel_rfl) (by kernel_rfl)
theorem ok76 : FOk Tryd.prog 76 sh76 := fokM (by kernel_rfl : Tryd.prog.funcs[76]? = some Tryd.f76) (by kernel_rfl) (by kernel_rfl)
theorem ok77 : FOk Tryd.prog 77 sh77 := fokM (by kernel_rfl : Tryd.prog.funcs[77]? = some Tryd.f77) (by kernel_rfl) (by kernel_rfl)
theorem ok78 : FOk Tryd.prog 78 sh78 := fokM (by kernel_rfl : Tryd.prog.funcs[78]? = some Tryd.f78) (by kernel_rfl) (by kernel_rfl)
theorem ok79 : FOk Tryd.prog 79 sh79 := fokM (by kernel_rfl : Tryd.prog.funcs[79]? = some Tryd.f79) (by kernel_rfl) (by kernel_rfl)
theorem ok80 : FOk Tryd.prog 80 sh80 := fokM (by kernel_rfl : Tryd.prog.funcs[80]? = some Tryd.f80) (by kernel_rfl) (by kernel_rfl)
theorem ok81 : FOk Tryd.prog 81 sh81 := ⟨Tryd.f81, Extern.BytealgIndexByte.indexByte, by kernel_rfl, by kernel_rfl, by kernel_rfl, by kernel_rfl, by rfl, rfl, rfl⟩
theorem ok82 : FOk Tryd.prog 82 sh82 := fokM (by kernel_rfl : Tryd.prog.funcs[82]? = some Tryd.f82) (by kernel_rfl) (by kernel_rfl)
theorem ok83 : FOk Tryd.prog 83 sh83 := fokM (by kernel_rfl : Tryd.prog.funcs[83]? = some Tryd.f83) (by kernel_rfl) (by kernel_rfl)
theorem ok84 : FOk Tryd.prog 84 sh84 := fokM (by kernel_rfl : Tryd.prog.funcs[84]? = some Tryd.f84) (by kernel_rfl) (by kernel_rfl)
theorem ok85 : FOk Tryd.prog 85 sh85 := fokM (by kernel_rfl : Tryd.prog.funcs[85]? = some Tryd.f85) (by kernel_rfl) (by kernel_rfl)
end Go.Proofs.YtnjjkomopkgidaaDoor.Av
