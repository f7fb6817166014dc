/-
  WHAT THE TABLE HOLDS IS WHAT THE PROGRAM's FUNCTIONS COME TO, printed by a program of this session's own.
-/
import Derived.Test.YtjdbcfnlehedmaaGreatDoorIrD
import Derived.Test.YtjdbcfnlehedmaaGreatDoorAvTable
import Derived.Test.YtjdbcfnlehedmaaGreatDoorProg
import Derived.KernelRfl
namespace Go.Proofs.YtjdbcfnlehedmaaGreatDoor.Av
set_option maxRecDepth 1000000
open Go
theorem ok131 : FOk Tryz.prog 131 sh131 := ⟨Tryz.f131, ir131, by kernel_rfl, by kernel_rfl, by kernel_rfl, by kernel_rfl, by kernel_rfl⟩
theorem ok132 : FOk Tryz.prog 132 sh132 := ⟨Tryz.f132, ir132, by kernel_rfl, by kernel_rfl, by kernel_rfl, by kernel_rfl, by kernel_rfl⟩
theorem ok133 : FOk Tryz.prog 133 sh133 := ⟨Tryz.f133, ir133, by kernel_rfl, by kernel_rfl, by kernel_rfl, by kernel_rfl, by kernel_rfl⟩
theorem ok134 : FOk Tryz.prog 134 sh134 := ⟨Tryz.f134, ir134, by kernel_rfl, by kernel_rfl, by kernel_rfl, by kernel_rfl, by kernel_rfl⟩
theorem ok135 : FOk Tryz.prog 135 sh135 := ⟨Tryz.f135, ir135, by kernel_rfl, by kernel_rfl, by kernel_rfl, by kernel_rfl, by kernel_rfl⟩
theorem ok136 : FOk Tryz.prog 136 sh136 := ⟨Tryz.f136, ir136, by kernel_rfl, by kernel_rfl, by kernel_rfl, by kernel_rfl, by kernel_rfl⟩
theorem ok137 : FOk Tryz.prog 137 sh137 := ⟨Tryz.f137, ir137, by kernel_rfl, by kernel_rfl, by kernel_rfl, by kernel_rfl, by kernel_rfl⟩
theorem ok138 : FOk Tryz.prog 138 sh138 := ⟨Tryz.f138, ir138, by kernel_rfl, by kernel_rfl, by kernel_rfl, by kernel_rfl, by kernel_rfl⟩
theorem ok139 : FOk Tryz.prog 139 sh139 := ⟨Tryz.f139, ir139, by kernel_rfl, by kernel_rfl, by kernel_rfl, by kernel_rfl, by kernel_rfl⟩
theorem ok140 : FOk Tryz.prog 140 sh140 := ⟨Tryz.f140, ir140, by kernel_rfl, by kernel_rfl, by kernel_rfl, by kernel_rfl, by kernel_rfl⟩
theorem ok141 : FOk Tryz.prog 141 sh141 := ⟨Tryz.f141, ir141, by kernel_rfl, by kernel_rfl, by kernel_rfl, by kernel_rfl, by kernel_rfl⟩
theorem ok142 : FOk Tryz.prog 142 sh142 := ⟨Tryz.f142, ir142, by kernel_rfl, by kernel_rfl, by kernel_rfl, by kernel_rfl, by kernel_rfl⟩
theorem ok143 : FOk Tryz.prog 143 sh143 := ⟨Tryz.f143, ir143, by kernel_rfl, by kernel_rfl, by kernel_rfl, by kernel_rfl, by kernel_rfl⟩
theorem ok144 : FOk Tryz.prog 144 sh144 := ⟨Tryz.f144, ir144, by kernel_rfl, by kernel_rfl, by kernel_rfl, by kernel_rfl, by kernel_rfl⟩
theorem ok145 : FOk Tryz.prog 145 sh145 := ⟨Tryz.f145, ir145, by kernel_rfl, by kernel_rfl, by kernel_rfl, by kernel_rfl, by kernel_rfl⟩
theorem ok146 : FOk Tryz.prog 146 sh146 := ⟨Tryz.f146, ir146, by kernel_rfl, by kernel_rfl, by kernel_rfl, by kernel_rfl, by kernel_rfl⟩
theorem ok147 : FOk Tryz.prog 147 sh147 := ⟨Tryz.f147, ir147, by kernel_rfl, by kernel_rfl, by kernel_rfl, by kernel_rfl, by kernel_rfl⟩
theorem ok148 : FOk Tryz.prog 148 sh148 := ⟨Tryz.f148, ir148, by kernel_rfl, by kernel_rfl, by kernel_rfl, by kernel_rfl, by kernel_rfl⟩
theorem ok149 : FOk Tryz.prog 149 sh149 := ⟨Tryz.f149, ir149, by kernel_rfl, by kernel_rfl, by kernel_rfl, by kernel_rfl, by kernel_rfl⟩
theorem ok150 : FOk Tryz.prog 150 sh150 := ⟨Tryz.f150, Extern.BytealgIndexByte.indexByte, by kernel_rfl, by kernel_rfl, by kernel_rfl, by kernel_rfl, by rfl, rfl, rfl⟩
theorem ok151 : FOk Tryz.prog 151 sh151 := ⟨Tryz.f151, ir151, by kernel_rfl, by kernel_rfl, by kernel_rfl, by kernel_rfl, by kernel_rfl⟩
theorem ok152 : FOk Tryz.prog 152 sh152 := ⟨Tryz.f152, ir152, by kernel_rfl, by kernel_rfl, by kernel_rfl, by kernel_rfl, by kernel_rfl⟩
theorem ok153 : FOk Tryz.prog 153 sh153 := ⟨Tryz.f153, ir153, by kernel_rfl, by kernel_rfl, by kernel_rfl, by kernel_rfl, by kernel_rfl⟩
theorem ok154 : FOk Tryz.prog 154 sh154 := ⟨Tryz.f154, ir154, by kernel_rfl, by kernel_rfl, by kernel_rfl, by kernel_rfl, by kernel_rfl⟩
theorem ok155 : FOk Tryz.prog 155 sh155 := ⟨Tryz.f155, ir155, by kernel_rfl, by kernel_rfl, by kernel_rfl, by kernel_rfl, by kernel_rfl⟩
theorem ok156 : FOk Tryz.prog 156 sh156 := ⟨Tryz.f156, ir156, by kernel_rfl, by kernel_rfl, by kernel_rfl, by kernel_rfl, by kernel_rfl⟩
end Go.Proofs.YtjdbcfnlehedmaaGreatDoor.Av
