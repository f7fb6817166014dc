/-
  WHAT THE TABLE HOLDS IS WHAT THE PROGRAM's FUNCTIONS COME TO, printed by a program of this session's own.
-/
import Derived.Test.YtnjjkomopkgidaaGreatDoorIcC
import Derived.Test.YtnjjkomopkgidaaGreatDoorMacC
import Derived.Test.YtnjjkomopkgidaaGreatDoorProg
import Derived.KernelRfl
namespace Go.Proofs.YtnjjkomopkgidaaGreatDoor.Av
set_option maxRecDepth 1000000
open Go
theorem ok164 : FOk Tryz.prog 164 sh164 := fokM (by kernel_rfl : Tryz.prog.funcs[164]? = some Tryz.f164) (by kernel_rfl) (by kernel_rfl)
theorem ok165 : FOk Tryz.prog 165 sh165 := fokM (by kernel_rfl : Tryz.prog.funcs[165]? = some Tryz.f165) (by kernel_rfl) (by kernel_rfl)
theorem ok166 : FOk Tryz.prog 166 sh166 := fokM (by kernel_rfl : Tryz.prog.funcs[166]? = some Tryz.f166) (by kernel_rfl) (by kernel_rfl)
theorem ok167 : FOk Tryz.prog 167 sh167 := fokM (by kernel_rfl : Tryz.prog.funcs[167]? = some Tryz.f167) (by kernel_rfl) (by kernel_rfl)
theorem ok168 : FOk Tryz.prog 168 sh168 := fokM (by kernel_rfl : Tryz.prog.funcs[168]? = some Tryz.f168) (by kernel_rfl) (by kernel_rfl)
theorem ok169 : FOk Tryz.prog 169 sh169 := fokM (by kernel_rfl : Tryz.prog.funcs[169]? = some Tryz.f169) (by kernel_rfl) (by kernel_rfl)
theorem ok170 : FOk Tryz.prog 170 sh170 := fokM (by kernel_rfl : Tryz.prog.funcs[170]? = some Tryz.f170) (by kernel_rfl) (by kernel_rfl)
theorem ok171 : FOk Tryz.prog 171 sh171 := fokM (by kernel_rfl : Tryz.prog.funcs[171]? = some Tryz.f171) (by kernel_rfl) (by kernel_rfl)
theorem ok172 : FOk Tryz.prog 172 sh172 := fokM (by kernel_rfl : Tryz.prog.funcs[172]? = some Tryz.f172) (by kernel_rfl) (by kernel_rfl)
theorem ok173 : FOk Tryz.prog 173 sh173 := fokM (by kernel_rfl : Tryz.prog.funcs[173]? = some Tryz.f173) (by kernel_rfl) (by kernel_rfl)
theorem ok174 : FOk Tryz.prog 174 sh174 := fokM (by kernel_rfl : Tryz.prog.funcs[174]? = some Tryz.f174) (by kernel_rfl) (by kernel_rfl)
theorem ok175 : FOk Tryz.prog 175 sh175 := fokM (by kernel_rfl : Tryz.prog.funcs[175]? = some Tryz.f175) (by kernel_rfl) (by kernel_rfl)
theorem ok176 : FOk Tryz.prog 176 sh176 := fokM (by kernel_rfl : Tryz.prog.funcs[176]? = some Tryz.f176) (by kernel_rfl) (by kernel_rfl)
theorem ok177 : FOk Tryz.prog 177 sh177 := fokM (by kernel_rfl : Tryz.prog.funcs[177]? = some Tryz.f177) (by kernel_rfl) (by kernel_rfl)
theorem ok178 : FOk Tryz.prog 178 sh178 := fokM (by kernel_rfl : Tryz.prog.funcs[178]? = some Tryz.f178) (by kernel_rfl) (by kernel_rfl)
theorem ok180 : FOk Tryz.prog 180 sh180 := fokM (by kernel_rfl : Tryz.prog.funcs[180]? = some Tryz.f180) (by kernel_rfl) (by kernel_rfl)
theorem ok181 : FOk Tryz.prog 181 sh181 := fokM (by kernel_rfl : Tryz.prog.funcs[181]? = some Tryz.f181) (by kernel_rfl) (by kernel_rfl)
theorem ok182 : FOk Tryz.prog 182 sh182 := fokM (by kernel_rfl : Tryz.prog.funcs[182]? = some Tryz.f182) (by kernel_rfl) (by kernel_rfl)
theorem ok183 : FOk Tryz.prog 183 sh183 := fokM (by kernel_rfl : Tryz.prog.funcs[183]? = some Tryz.f183) (by kernel_rfl) (by kernel_rfl)
theorem ok184 : FOk Tryz.prog 184 sh184 := fokM (by kernel_rfl : Tryz.prog.funcs[184]? = some Tryz.f184) (by kernel_rfl) (by kernel_rfl)
theorem ok185 : FOk Tryz.prog 185 sh185 := fokM (by kernel_rfl : Tryz.prog.funcs[185]? = some Tryz.f185) (by kernel_rfl) (by kernel_rfl)
theorem ok186 : FOk Tryz.prog 186 sh186 := fokM (by kernel_rfl : Tryz.prog.funcs[186]? = some Tryz.f186) (by kernel_rfl) (by kernel_rfl)
theorem ok187 : FOk Tryz.prog 187 sh187 := fokM (by kernel_rfl : Tryz.prog.funcs[187]? = some Tryz.f187) (by kernel_rfl) (by kernel_rfl)
theorem ok188 : FOk Tryz.prog 188 sh188 := fokM (by kernel_rfl : Tryz.prog.funcs[188]? = some Tryz.f188) (by kernel_rfl) (by kernel_rfl)
theorem ok189 : FOk Tryz.prog 189 sh189 := fokM (by kernel_rfl : Tryz.prog.funcs[189]? = some Tryz.f189) (by kernel_rfl) (by kernel_rfl)
theorem ok190 : FOk Tryz.prog 190 sh190 := fokM (by kernel_rfl : Tryz.prog.funcs[190]? = some Tryz.f190) (by kernel_rfl) (by kernel_rfl)
theorem ok191 : FOk Tryz.prog 191 sh191 := fokM (by kernel_rfl : Tryz.prog.funcs[191]? = some Tryz.f191) (by kernel_rfl) (by kernel_rfl)
theorem ok192 : FOk Tryz.prog 192 sh192 := fokM (by kernel_rfl : Tryz.prog.funcs[192]? = some Tryz.f192) (by kernel_rfl) (by kernel_rfl)
theorem ok193 : FOk Tryz.prog 193 sh193 := fokM (by kernel_rfl : Tryz.prog.funcs[193]? = some Tryz.f193) (by kernel_rfl) (by kernel_rfl)
theorem ok194 : FOk Tryz.prog 194 sh194 := fokM (by kernel_rfl : Tryz.prog.funcs[194]? = some Tryz.f194) (by kernel_rfl) (by kernel_rfl)
theorem ok195 : FOk Tryz.prog 195 sh195 := fokM (by kernel_rfl : Tryz.prog.funcs[195]? = some Tryz.f195) (by kernel_rfl) (by kernel_rfl)
theorem ok196 : FOk Tryz.prog 196 sh196 := fokM (by kernel_rfl : Tryz.prog.funcs[196]? = some Tryz.f196) (by kernel_rfl) (by kernel_rfl)
theorem ok197 : FOk Tryz.prog 197 sh197 := ⟨Tryz.f197, Extern.BytealgIndexByte.indexByte, by kernel_rfl, by kernel_rfl, by kernel_rfl, by kernel_rfl, by rfl, rfl, rfl⟩
theorem ok198 : FOk Tryz.prog 198 sh198 := fokM (by kernel_rfl : Tryz.prog.funcs[198]? = some Tryz.f198) (by kernel_rfl) (by kernel_rfl)
theorem ok199 : FOk Tryz.prog 199 sh199 := fokM (by kernel_rfl : Tryz.prog.funcs[199]? = some Tryz.f199) (by kernel_rfl) (by kernel_rfl)
theorem ok200 : FOk Tryz.prog 200 sh200 := fokM (by kernel_rfl : Tryz.prog.funcs[200]? = some Tryz.f200) (by kernel_rfl) (by kernel_rfl)
end Go.Proofs.YtnjjkomopkgidaaGreatDoor.Av
