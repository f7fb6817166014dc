/-
  WHAT THE TABLE HOLDS IS WHAT THE PROGRAM's FUNCTIONS COME TO, printed by a program of this session's own.
-/
import Derived.Test.YtjdbcfnlehedmaaGreatDoorIrB
import Derived.Test.YtjdbcfnlehedmaaGreatDoorAvTable
import Derived.Test.YtjdbcfnlehedmaaGreatDoorProg
import Derived.KernelRfl
namespace Go.Proofs.YtjdbcfnlehedmaaGreatDoor.Av
set_option maxRecDepth 1000000
open Go
theorem ok41 : FOk Tryz.prog 41 sh41 := ⟨Tryz.f41, ir41, by kernel_rfl, by kernel_rfl, by kernel_rfl, by kernel_rfl, by kernel_rfl⟩
theorem ok42 : FOk Tryz.prog 42 sh42 := ⟨Tryz.f42, ir42, by kernel_rfl, by kernel_rfl, by kernel_rfl, by kernel_rfl, by kernel_rfl⟩
theorem ok43 : FOk Tryz.prog 43 sh43 := ⟨Tryz.f43, ir43, by kernel_rfl, by kernel_rfl, by kernel_rfl, by kernel_rfl, by kernel_rfl⟩
theorem ok44 : FOk Tryz.prog 44 sh44 := ⟨Tryz.f44, ir44, by kernel_rfl, by kernel_rfl, by kernel_rfl, by kernel_rfl, by kernel_rfl⟩
theorem ok45 : FOk Tryz.prog 45 sh45 := ⟨Tryz.f45, ir45, by kernel_rfl, by kernel_rfl, by kernel_rfl, by kernel_rfl, by kernel_rfl⟩
theorem ok46 : FOk Tryz.prog 46 sh46 := ⟨Tryz.f46, ir46, by kernel_rfl, by kernel_rfl, by kernel_rfl, by kernel_rfl, by kernel_rfl⟩
theorem ok47 : FOk Tryz.prog 47 sh47 := ⟨Tryz.f47, ir47, by kernel_rfl, by kernel_rfl, by kernel_rfl, by kernel_rfl, by kernel_rfl⟩
theorem ok48 : FOk Tryz.prog 48 sh48 := ⟨Tryz.f48, ir48, by kernel_rfl, by kernel_rfl, by kernel_rfl, by kernel_rfl, by kernel_rfl⟩
theorem ok49 : FOk Tryz.prog 49 sh49 := ⟨Tryz.f49, ir49, by kernel_rfl, by kernel_rfl, by kernel_rfl, by kernel_rfl, by kernel_rfl⟩
theorem ok50 : FOk Tryz.prog 50 sh50 := ⟨Tryz.f50, ir50, by kernel_rfl, by kernel_rfl, by kernel_rfl, by kernel_rfl, by kernel_rfl⟩
theorem ok51 : FOk Tryz.prog 51 sh51 := ⟨Tryz.f51, ir51, by kernel_rfl, by kernel_rfl, by kernel_rfl, by kernel_rfl, by kernel_rfl⟩
theorem ok52 : FOk Tryz.prog 52 sh52 := ⟨Tryz.f52, ir52, by kernel_rfl, by kernel_rfl, by kernel_rfl, by kernel_rfl, by kernel_rfl⟩
theorem ok53 : FOk Tryz.prog 53 sh53 := ⟨Tryz.f53, ir53, by kernel_rfl, by kernel_rfl, by kernel_rfl, by kernel_rfl, by kernel_rfl⟩
theorem ok54 : FOk Tryz.prog 54 sh54 := ⟨Tryz.f54, ir54, by kernel_rfl, by kernel_rfl, by kernel_rfl, by kernel_rfl, by kernel_rfl⟩
theorem ok55 : FOk Tryz.prog 55 sh55 := ⟨Tryz.f55, ir55, by kernel_rfl, by kernel_rfl, by kernel_rfl, by kernel_rfl, by kernel_rfl⟩
theorem ok56 : FOk Tryz.prog 56 sh56 := ⟨Tryz.f56, ir56, by kernel_rfl, by kernel_rfl, by kernel_rfl, by kernel_rfl, by kernel_rfl⟩
theorem ok57 : FOk Tryz.prog 57 sh57 := ⟨Tryz.f57, ir57, by kernel_rfl, by kernel_rfl, by kernel_rfl, by kernel_rfl, by kernel_rfl⟩
theorem ok58 : FOk Tryz.prog 58 sh58 := ⟨Tryz.f58, ir58, by kernel_rfl, by kernel_rfl, by kernel_rfl, by kernel_rfl, by kernel_rfl⟩
theorem ok59 : FOk Tryz.prog 59 sh59 := ⟨Tryz.f59, ir59, by kernel_rfl, by kernel_rfl, by kernel_rfl, by kernel_rfl, by kernel_rfl⟩
theorem ok60 : FOk Tryz.prog 60 sh60 := ⟨Tryz.f60, ir60, by kernel_rfl, by kernel_rfl, by kernel_rfl, by kernel_rfl, by kernel_rfl⟩
theorem ok61 : FOk Tryz.prog 61 sh61 := ⟨Tryz.f61, ir61, by kernel_rfl, by kernel_rfl, by kernel_rfl, by kernel_rfl, by kernel_rfl⟩
theorem ok62 : FOk Tryz.prog 62 sh62 := ⟨Tryz.f62, ir62, by kernel_rfl, by kernel_rfl, by kernel_rfl, by kernel_rfl, by kernel_rfl⟩
theorem ok63 : FOk Tryz.prog 63 sh63 := ⟨Tryz.f63, ir63, by kernel_rfl, by kernel_rfl, by kernel_rfl, by kernel_rfl, by kernel_rfl⟩
theorem ok64 : FOk Tryz.prog 64 sh64 := ⟨Tryz.f64, ir64, by kernel_rfl, by kernel_rfl, by kernel_rfl, by kernel_rfl, by kernel_rfl⟩
theorem ok65 : FOk Tryz.prog 65 sh65 := ⟨Tryz.f65, ir65, by kernel_rfl, by kernel_rfl, by kernel_rfl, by kernel_rfl, by kernel_rfl⟩
theorem ok66 : FOk Tryz.prog 66 sh66 := ⟨Tryz.f66, ir66, by kernel_rfl, by kernel_rfl, by kernel_rfl, by kernel_rfl, by kernel_rfl⟩
theorem ok67 : FOk Tryz.prog 67 sh67 := ⟨Tryz.f67, ir67, by kernel_rfl, by kernel_rfl, by kernel_rfl, by kernel_rfl, by kernel_rfl⟩
theorem ok68 : FOk Tryz.prog 68 sh68 := ⟨Tryz.f68, ir68, by kernel_rfl, by kernel_rfl, by kernel_rfl, by kernel_rfl, by kernel_rfl⟩
theorem ok69 : FOk Tryz.prog 69 sh69 := ⟨Tryz.f69, ir69, by kernel_rfl, by kernel_rfl, by kernel_rfl, by kernel_rfl, by kernel_rfl⟩
theorem ok70 : FOk Tryz.prog 70 sh70 := ⟨Tryz.f70, ir70, by kernel_rfl, by kernel_rfl, by kernel_rfl, by kernel_rfl, by kernel_rfl⟩
theorem ok71 : FOk Tryz.prog 71 sh71 := ⟨Tryz.f71, ir71, by kernel_rfl, by kernel_rfl, by kernel_rfl, by kernel_rfl, by kernel_rfl⟩
theorem ok72 : FOk Tryz.prog 72 sh72 := ⟨Tryz.f72, ir72, by kernel_rfl, by kernel_rfl, by kernel_rfl, by kernel_rfl, by kernel_rfl⟩
theorem ok73 : FOk Tryz.prog 73 sh73 := ⟨Tryz.f73, ir73, by kernel_rfl, by kernel_rfl, by kernel_rfl, by kernel_rfl, by kernel_rfl⟩
theorem ok74 : FOk Tryz.prog 74 sh74 := ⟨Tryz.f74, ir74, by kernel_rfl, by kernel_rfl, by kernel_rfl, by kernel_rfl, by kernel_rfl⟩
theorem ok75 : FOk Tryz.prog 75 sh75 := ⟨Tryz.f75, ir75, by kernel_rfl, by kernel_rfl, by kernel_rfl, by kernel_rfl, by kernel_rfl⟩
theorem ok76 : FOk Tryz.prog 76 sh76 := ⟨Tryz.f76, ir76, by kernel_rfl, by kernel_rfl, by kernel_rfl, by kernel_rfl, by kernel_rfl⟩
theorem ok77 : FOk Tryz.prog 77 sh77 := ⟨Tryz.f77, ir77, by kernel_rfl, by kernel_rfl, by kernel_rfl, by kernel_rfl, by kernel_rfl⟩
theorem ok78 : FOk Tryz.prog 78 sh78 := ⟨Tryz.f78, ir78, by kernel_rfl, by kernel_rfl, by kernel_rfl, by kernel_rfl, by kernel_rfl⟩
theorem ok79 : FOk Tryz.prog 79 sh79 := ⟨Tryz.f79, ir79, by kernel_rfl, by kernel_rfl, by kernel_rfl, by kernel_rfl, by kernel_rfl⟩
theorem ok80 : FOk Tryz.prog 80 sh80 := ⟨Tryz.f80, ir80, by kernel_rfl, by kernel_rfl, by kernel_rfl, by kernel_rfl, by kernel_rfl⟩
theorem ok81 : FOk Tryz.prog 81 sh81 := ⟨Tryz.f81, ir81, by kernel_rfl, by kernel_rfl, by kernel_rfl, by kernel_rfl, by kernel_rfl⟩
theorem ok82 : FOk Tryz.prog 82 sh82 := ⟨Tryz.f82, ir82, by kernel_rfl, by kernel_rfl, by kernel_rfl, by kernel_rfl, by kernel_rfl⟩
theorem ok83 : FOk Tryz.prog 83 sh83 := ⟨Tryz.f83, ir83, by kernel_rfl, by kernel_rfl, by kernel_rfl, by kernel_rfl, by kernel_rfl⟩
theorem ok84 : FOk Tryz.prog 84 sh84 := ⟨Tryz.f84, ir84, by kernel_rfl, by kernel_rfl, by kernel_rfl, by kernel_rfl, by kernel_rfl⟩
theorem ok85 : FOk Tryz.prog 85 sh85 := ⟨Tryz.f85, ir85, by kernel_rfl, by kernel_rfl, by kernel_rfl, by kernel_rfl, by kernel_rfl⟩
theorem ok86 : FOk Tryz.prog 86 sh86 := ⟨Tryz.f86, ir86, by kernel_rfl, by kernel_rfl, by kernel_rfl, by kernel_rfl, by kernel_rfl⟩
theorem ok87 : FOk Tryz.prog 87 sh87 := ⟨Tryz.f87, ir87, by kernel_rfl, by kernel_rfl, by kernel_rfl, by kernel_rfl, by kernel_rfl⟩
theorem ok88 : FOk Tryz.prog 88 sh88 := ⟨Tryz.f88, ir88, by kernel_rfl, by kernel_rfl, by kernel_rfl, by kernel_rfl, by kernel_rfl⟩
theorem ok89 : FOk Tryz.prog 89 sh89 := ⟨Tryz.f89, ir89, by kernel_rfl, by kernel_rfl, by kernel_rfl, by kernel_rfl, by kernel_rfl⟩
theorem ok90 : FOk Tryz.prog 90 sh90 := ⟨Tryz.f90, ir90, by kernel_rfl, by kernel_rfl, by kernel_rfl, by kernel_rfl, by kernel_rfl⟩
theorem ok91 : FOk Tryz.prog 91 sh91 := ⟨Tryz.f91, ir91, by kernel_rfl, by kernel_rfl, by kernel_rfl, by kernel_rfl, by kernel_rfl⟩
theorem ok92 : FOk Tryz.prog 92 sh92 := ⟨Tryz.f92, ir92, by kernel_rfl, by kernel_rfl, by kernel_rfl, by kernel_rfl, by kernel_rfl⟩
theorem ok93 : FOk Tryz.prog 93 sh93 := ⟨Tryz.f93, ir93, by kernel_rfl, by kernel_rfl, by kernel_rfl, by kernel_rfl, by kernel_rfl⟩
theorem ok94 : FOk Tryz.prog 94 sh94 := ⟨Tryz.f94, ir94, by kernel_rfl, by kernel_rfl, by kernel_rfl, by kernel_rfl, by kernel_rfl⟩
theorem ok95 : FOk Tryz.prog 95 sh95 := ⟨Tryz.f95, ir95, by kernel_rfl, by kernel_rfl, by kernel_rfl, by kernel_rfl, by kernel_rfl⟩
theorem ok96 : FOk Tryz.prog 96 sh96 := ⟨Tryz.f96, ir96, by kernel_rfl, by kernel_rfl, by kernel_rfl, by kernel_rfl, by kernel_rfl⟩
theorem ok97 : FOk Tryz.prog 97 sh97 := ⟨Tryz.f97, ir97, by kernel_rfl, by kernel_rfl, by kernel_rfl, by kernel_rfl, by kernel_rfl⟩
theorem ok98 : FOk Tryz.prog 98 sh98 := ⟨Tryz.f98, ir98, by kernel_rfl, by kernel_rfl, by kernel_rfl, by kernel_rfl, by kernel_rfl⟩
theorem ok99 : FOk Tryz.prog 99 sh99 := ⟨Tryz.f99, ir99, by kernel_rfl, by kernel_rfl, by kernel_rfl, by kernel_rfl, by kernel_rfl⟩
theorem ok100 : FOk Tryz.prog 100 sh100 := ⟨Tryz.f100, ir100, by kernel_rfl, by kernel_rfl, by kernel_rfl, by kernel_rfl, by kernel_rfl⟩
end Go.Proofs.YtjdbcfnlehedmaaGreatDoor.Av
