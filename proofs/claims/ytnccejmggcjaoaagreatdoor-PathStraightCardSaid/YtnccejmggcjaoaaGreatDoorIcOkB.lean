/-
  WHAT THE TABLE HOLDS IS WHAT THE PROGRAM's FUNCTIONS COME TO, printed by a program of this session's own.
-/
import Derived.Test.YtnccejmggcjaoaaGreatDoorIcB
import Derived.Test.YtnccejmggcjaoaaGreatDoorMacC
import Derived.Test.YtnccejmggcjaoaaGreatDoorProg
import Derived.KernelRfl
namespace Go.Proofs.YtnccejmggcjaoaaGreatDoor.Av
set_option maxRecDepth 1000000
open Go
theorem ok197 : FOk Tryz.prog 197 sh197 := fokM (by kernel_rfl : Tryz.prog.funcs[197]? = some Tryz.f197) (by kernel_rfl) (by kernel_rfl)
theorem ok202 : FOk Tryz.prog 202 sh202 := fokM (by kernel_rfl : Tryz.prog.funcs[202]? = some Tryz.f202) (by kernel_rfl) (by kernel_rfl)
theorem ok203 : FOk Tryz.prog 203 sh203 := fokM (by kernel_rfl : Tryz.prog.funcs[203]? = some Tryz.f203) (by kernel_rfl) (by kernel_rfl)
theorem ok206 : FOk Tryz.prog 206 sh206 := fokM (by kernel_rfl : Tryz.prog.funcs[206]? = some Tryz.f206) (by kernel_rfl) (by kernel_rfl)
theorem ok207 : FOk Tryz.prog 207 sh207 := fokM (by kernel_rfl : Tryz.prog.funcs[207]? = some Tryz.f207) (by kernel_rfl) (by kernel_rfl)
theorem ok209 : FOk Tryz.prog 209 sh209 := fokM (by kernel_rfl : Tryz.prog.funcs[209]? = some Tryz.f209) (by kernel_rfl) (by kernel_rfl)
theorem ok210 : FOk Tryz.prog 210 sh210 := fokM (by kernel_rfl : Tryz.prog.funcs[210]? = some Tryz.f210) (by kernel_rfl) (by kernel_rfl)
theorem ok211 : FOk Tryz.prog 211 sh211 := fokM (by kernel_rfl : Tryz.prog.funcs[211]? = some Tryz.f211) (by kernel_rfl) (by kernel_rfl)
theorem ok212 : FOk Tryz.prog 212 sh212 := fokM (by kernel_rfl : Tryz.prog.funcs[212]? = some Tryz.f212) (by kernel_rfl) (by kernel_rfl)
theorem ok213 : FOk Tryz.prog 213 sh213 := fokM (by kernel_rfl : Tryz.prog.funcs[213]? = some Tryz.f213) (by kernel_rfl) (by kernel_rfl)
theorem ok214 : FOk Tryz.prog 214 sh214 := fokM (by kernel_rfl : Tryz.prog.funcs[214]? = some Tryz.f214) (by kernel_rfl) (by kernel_rfl)
theorem ok223 : FOk Tryz.prog 223 sh223 := fokM (by kernel_rfl : Tryz.prog.funcs[223]? = some Tryz.f223) (by kernel_rfl) (by kernel_rfl)
theorem ok224 : FOk Tryz.prog 224 sh224 := fokM (by kernel_rfl : Tryz.prog.funcs[224]? = some Tryz.f224) (by kernel_rfl) (by kernel_rfl)
theorem ok225 : FOk Tryz.prog 225 sh225 := fokM (by kernel_rfl : Tryz.prog.funcs[225]? = some Tryz.f225) (by kernel_rfl) (by kernel_rfl)
theorem ok226 : FOk Tryz.prog 226 sh226 := fokM (by kernel_rfl : Tryz.prog.funcs[226]? = some Tryz.f226) (by kernel_rfl) (by kernel_rfl)
theorem ok227 : FOk Tryz.prog 227 sh227 := fokM (by kernel_rfl : Tryz.prog.funcs[227]? = some Tryz.f227) (by kernel_rfl) (by kernel_rfl)
theorem ok229 : FOk Tryz.prog 229 sh229 := fokM (by kernel_rfl : Tryz.prog.funcs[229]? = some Tryz.f229) (by kernel_rfl) (by kernel_rfl)
theorem ok230 : FOk Tryz.prog 230 sh230 := fokM (by kernel_rfl : Tryz.prog.funcs[230]? = some Tryz.f230) (by kernel_rfl) (by kernel_rfl)
theorem ok231 : FOk Tryz.prog 231 sh231 := fokM (by kernel_rfl : Tryz.prog.funcs[231]? = some Tryz.f231) (by kernel_rfl) (by kernel_rfl)
theorem ok234 : FOk Tryz.prog 234 sh234 := fokM (by kernel_rfl : Tryz.prog.funcs[234]? = some Tryz.f234) (by kernel_rfl) (by kernel_rfl)
theorem ok235 : FOk Tryz.prog 235 sh235 := fokM (by kernel_rfl : Tryz.prog.funcs[235]? = some Tryz.f235) (by kernel_rfl) (by kernel_rfl)
theorem ok237 : FOk Tryz.prog 237 sh237 := fokM (by kernel_rfl : Tryz.prog.funcs[237]? = some Tryz.f237) (by kernel_rfl) (by kernel_rfl)
theorem ok238 : FOk Tryz.prog 238 sh238 := fokM (by kernel_rfl : Tryz.prog.funcs[238]? = some Tryz.f238) (by kernel_rfl) (by kernel_rfl)
theorem ok239 : FOk Tryz.prog 239 sh239 := fokM (by kernel_rfl : Tryz.prog.funcs[239]? = some Tryz.f239) (by kernel_rfl) (by kernel_rfl)
theorem ok240 : FOk Tryz.prog 240 sh240 := fokM (by kernel_rfl : Tryz.prog.funcs[240]? = some Tryz.f240) (by kernel_rfl) (by kernel_rfl)
theorem ok241 : FOk Tryz.prog 241 sh241 := fokM (by kernel_rfl : Tryz.prog.funcs[241]? = some Tryz.f241) (by kernel_rfl) (by kernel_rfl)
theorem ok242 : FOk Tryz.prog 242 sh242 := fokM (by kernel_rfl : Tryz.prog.funcs[242]? = some Tryz.f242) (by kernel_rfl) (by kernel_rfl)
theorem ok243 : FOk Tryz.prog 243 sh243 := fokM (by kernel_rfl : Tryz.prog.funcs[243]? = some Tryz.f243) (by kernel_rfl) (by kernel_rfl)
theorem ok244 : FOk Tryz.prog 244 sh244 := fokM (by kernel_rfl : Tryz.prog.funcs[244]? = some Tryz.f244) (by kernel_rfl) (by kernel_rfl)
theorem ok245 : FOk Tryz.prog 245 sh245 := fokM (by kernel_rfl : Tryz.prog.funcs[245]? = some Tryz.f245) (by kernel_rfl) (by kernel_rfl)
theorem ok248 : FOk Tryz.prog 248 sh248 := fokM (by kernel_rfl : Tryz.prog.funcs[248]? = some Tryz.f248) (by kernel_rfl) (by kernel_rfl)
theorem ok250 : FOk Tryz.prog 250 sh250 := fokM (by kernel_rfl : Tryz.prog.funcs[250]? = some Tryz.f250) (by kernel_rfl) (by kernel_rfl)
theorem ok251 : FOk Tryz.prog 251 sh251 := fokM (by kernel_rfl : Tryz.prog.funcs[251]? = some Tryz.f251) (by kernel_rfl) (by kernel_rfl)
theorem ok252 : FOk Tryz.prog 252 sh252 := fokM (by kernel_rfl : Tryz.prog.funcs[252]? = some Tryz.f252) (by kernel_rfl) (by kernel_rfl)
theorem ok255 : FOk Tryz.prog 255 sh255 := fokM (by kernel_rfl : Tryz.prog.funcs[255]? = some Tryz.f255) (by kernel_rfl) (by kernel_rfl)
theorem ok256 : FOk Tryz.prog 256 sh256 := fokM (by kernel_rfl : Tryz.prog.funcs[256]? = some Tryz.f256) (by kernel_rfl) (by kernel_rfl)
theorem ok257 : FOk Tryz.prog 257 sh257 := fokM (by kernel_rfl : Tryz.prog.funcs[257]? = some Tryz.f257) (by kernel_rfl) (by kernel_rfl)
theorem ok259 : FOk Tryz.prog 259 sh259 := fokM (by kernel_rfl : Tryz.prog.funcs[259]? = some Tryz.f259) (by kernel_rfl) (by kernel_rfl)
theorem ok260 : FOk Tryz.prog 260 sh260 := fokM (by kernel_rfl : Tryz.prog.funcs[260]? = some Tryz.f260) (by kernel_rfl) (by kernel_rfl)
theorem ok262 : FOk Tryz.prog 262 sh262 := fokM (by kernel_rfl : Tryz.prog.funcs[262]? = some Tryz.f262) (by kernel_rfl) (by kernel_rfl)
theorem ok264 : FOk Tryz.prog 264 sh264 := fokM (by kernel_rfl : Tryz.prog.funcs[264]? = some Tryz.f264) (by kernel_rfl) (by kernel_rfl)
theorem ok268 : FOk Tryz.prog 268 sh268 := fokM (by kernel_rfl : Tryz.prog.funcs[268]? = some Tryz.f268) (by kernel_rfl) (by kernel_rfl)
theorem ok275 : FOk Tryz.prog 275 sh275 := fokM (by kernel_rfl : Tryz.prog.funcs[275]? = some Tryz.f275) (by kernel_rfl) (by kernel_rfl)
theorem ok276 : FOk Tryz.prog 276 sh276 := fokM (by kernel_rfl : Tryz.prog.funcs[276]? = some Tryz.f276) (by kernel_rfl) (by kernel_rfl)
theorem ok279 : FOk Tryz.prog 279 sh279 := fokM (by kernel_rfl : Tryz.prog.funcs[279]? = some Tryz.f279) (by kernel_rfl) (by kernel_rfl)
theorem ok285 : FOk Tryz.prog 285 sh285 := fokM (by kernel_rfl : Tryz.prog.funcs[285]? = some Tryz.f285) (by kernel_rfl) (by kernel_rfl)
theorem ok288 : FOk Tryz.prog 288 sh288 := ⟨Tryz.f288, Extern.BytealgIndexByte.indexByte, by kernel_rfl, by kernel_rfl, by kernel_rfl, by kernel_rfl, by rfl, rfl, rfl⟩
theorem ok291 : FOk Tryz.prog 291 sh291 := fokM (by kernel_rfl : Tryz.prog.funcs[291]? = some Tryz.f291) (by kernel_rfl) (by kernel_rfl)
end Go.Proofs.YtnccejmggcjaoaaGreatDoor.Av
