/-
  WHAT THE TABLE HOLDS IS WHAT THE PROGRAM's FUNCTIONS COME TO, printed by a program of this session's own.
-/
import Derived.Test.YtjdbcfnlehedmaaGreatDoorIrC
import Derived.Test.YtjdbcfnlehedmaaGreatDoorAvTable
import Derived.Test.YtjdbcfnlehedmaaGreatDoorProg
import Derived.KernelRfl
namespace Go.Proofs.YtjdbcfnlehedmaaGreatDoor.Av
set_option maxRecDepth 1000000
open Go
theorem ok101 : FOk Tryz.prog 101 sh101 := ⟨Tryz.f101, ir101, by kernel_rfl, by kernel_rfl, by kernel_rfl, by kernel_rfl, by kernel_rfl⟩
theorem ok102 : FOk Tryz.prog 102 sh102 := ⟨Tryz.f102, ir102, by kernel_rfl, by kernel_rfl, by kernel_rfl, by kernel_rfl, by kernel_rfl⟩
theorem ok103 : FOk Tryz.prog 103 sh103 := ⟨Tryz.f103, ir103, by kernel_rfl, by kernel_rfl, by kernel_rfl, by kernel_rfl, by kernel_rfl⟩
theorem ok104 : FOk Tryz.prog 104 sh104 := ⟨Tryz.f104, ir104, by kernel_rfl, by kernel_rfl, by kernel_rfl, by kernel_rfl, by kernel_rfl⟩
theorem ok105 : FOk Tryz.prog 105 sh105 := ⟨Tryz.f105, ir105, by kernel_rfl, by kernel_rfl, by kernel_rfl, by kernel_rfl, by kernel_rfl⟩
theorem ok106 : FOk Tryz.prog 106 sh106 := ⟨Tryz.f106, ir106, by kernel_rfl, by kernel_rfl, by kernel_rfl, by kernel_rfl, by kernel_rfl⟩
theorem ok107 : FOk Tryz.prog 107 sh107 := ⟨Tryz.f107, ir107, by kernel_rfl, by kernel_rfl, by kernel_rfl, by kernel_rfl, by kernel_rfl⟩
theorem ok108 : FOk Tryz.prog 108 sh108 := ⟨Tryz.f108, ir108, by kernel_rfl, by kernel_rfl, by kernel_rfl, by kernel_rfl, by kernel_rfl⟩
theorem ok109 : FOk Tryz.prog 109 sh109 := ⟨Tryz.f109, ir109, by kernel_rfl, by kernel_rfl, by kernel_rfl, by kernel_rfl, by kernel_rfl⟩
theorem ok110 : FOk Tryz.prog 110 sh110 := ⟨Tryz.f110, ir110, by kernel_rfl, by kernel_rfl, by kernel_rfl, by kernel_rfl, by kernel_rfl⟩
theorem ok111 : FOk Tryz.prog 111 sh111 := ⟨Tryz.f111, ir111, by kernel_rfl, by kernel_rfl, by kernel_rfl, by kernel_rfl, by kernel_rfl⟩
theorem ok112 : FOk Tryz.prog 112 sh112 := ⟨Tryz.f112, ir112, by kernel_rfl, by kernel_rfl, by kernel_rfl, by kernel_rfl, by kernel_rfl⟩
theorem ok113 : FOk Tryz.prog 113 sh113 := ⟨Tryz.f113, ir113, by kernel_rfl, by kernel_rfl, by kernel_rfl, by kernel_rfl, by kernel_rfl⟩
theorem ok114 : FOk Tryz.prog 114 sh114 := ⟨Tryz.f114, ir114, by kernel_rfl, by kernel_rfl, by kernel_rfl, by kernel_rfl, by kernel_rfl⟩
theorem ok115 : FOk Tryz.prog 115 sh115 := ⟨Tryz.f115, ir115, by kernel_rfl, by kernel_rfl, by kernel_rfl, by kernel_rfl, by kernel_rfl⟩
theorem ok116 : FOk Tryz.prog 116 sh116 := ⟨Tryz.f116, ir116, by kernel_rfl, by kernel_rfl, by kernel_rfl, by kernel_rfl, by kernel_rfl⟩
theorem ok117 : FOk Tryz.prog 117 sh117 := ⟨Tryz.f117, ir117, by kernel_rfl, by kernel_rfl, by kernel_rfl, by kernel_rfl, by kernel_rfl⟩
theorem ok118 : FOk Tryz.prog 118 sh118 := ⟨Tryz.f118, ir118, by kernel_rfl, by kernel_rfl, by kernel_rfl, by kernel_rfl, by kernel_rfl⟩
theorem ok119 : FOk Tryz.prog 119 sh119 := ⟨Tryz.f119, ir119, by kernel_rfl, by kernel_rfl, by kernel_rfl, by kernel_rfl, by kernel_rfl⟩
theorem ok120 : FOk Tryz.prog 120 sh120 := ⟨Tryz.f120, ir120, by kernel_rfl, by kernel_rfl, by kernel_rfl, by kernel_rfl, by kernel_rfl⟩
theorem ok121 : FOk Tryz.prog 121 sh121 := ⟨Tryz.f121, ir121, by kernel_rfl, by kernel_rfl, by kernel_rfl, by kernel_rfl, by kernel_rfl⟩
theorem ok122 : FOk Tryz.prog 122 sh122 := ⟨Tryz.f122, ir122, by kernel_rfl, by kernel_rfl, by kernel_rfl, by kernel_rfl, by kernel_rfl⟩
theorem ok124 : FOk Tryz.prog 124 sh124 := ⟨Tryz.f124, ir124, by kernel_rfl, by kernel_rfl, by kernel_rfl, by kernel_rfl, by kernel_rfl⟩
theorem ok125 : FOk Tryz.prog 125 sh125 := ⟨Tryz.f125, ir125, by kernel_rfl, by kernel_rfl, by kernel_rfl, by kernel_rfl, by kernel_rfl⟩
theorem ok126 : FOk Tryz.prog 126 sh126 := ⟨Tryz.f126, ir126, by kernel_rfl, by kernel_rfl, by kernel_rfl, by kernel_rfl, by kernel_rfl⟩
theorem ok127 : FOk Tryz.prog 127 sh127 := ⟨Tryz.f127, ir127, by kernel_rfl, by kernel_rfl, by kernel_rfl, by kernel_rfl, by kernel_rfl⟩
theorem ok128 : FOk Tryz.prog 128 sh128 := ⟨Tryz.f128, ir128, by kernel_rfl, by kernel_rfl, by kernel_rfl, by kernel_rfl, by kernel_rfl⟩
theorem ok129 : FOk Tryz.prog 129 sh129 := ⟨Tryz.f129, ir129, by kernel_rfl, by kernel_rfl, by kernel_rfl, by kernel_rfl, by kernel_rfl⟩
theorem ok130 : FOk Tryz.prog 130 sh130 := ⟨Tryz.f130, ir130, by kernel_rfl, by kernel_rfl, by kernel_rfl, by kernel_rfl, by kernel_rfl⟩
end Go.Proofs.YtjdbcfnlehedmaaGreatDoor.Av
