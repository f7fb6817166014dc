/-
  WHAT THE TABLE HOLDS IS WHAT THE PROGRAM's FUNCTIONS COME TO, printed by a program of this session's own.
-/
import Derived.Test.YtjdbcfnlehedmaaGreatDoorIrA
import Derived.Test.YtjdbcfnlehedmaaGreatDoorAvTable
import Derived.Test.YtjdbcfnlehedmaaGreatDoorProg
import Derived.KernelRfl
namespace Go.Proofs.YtjdbcfnlehedmaaGreatDoor.Av
set_option maxRecDepth 1000000
open Go
theorem ok3 : FOk Tryz.prog 3 sh3 := ⟨Tryz.f3, ir3, by kernel_rfl, by kernel_rfl, by kernel_rfl, by kernel_rfl, by kernel_rfl⟩
theorem ok4 : FOk Tryz.prog 4 sh4 := ⟨Tryz.f4, ir4, by kernel_rfl, by kernel_rfl, by kernel_rfl, by kernel_rfl, by kernel_rfl⟩
theorem ok5 : FOk Tryz.prog 5 sh5 := ⟨Tryz.f5, ir5, by kernel_rfl, by kernel_rfl, by kernel_rfl, by kernel_rfl, by kernel_rfl⟩
theorem ok6 : FOk Tryz.prog 6 sh6 := ⟨Tryz.f6, ir6, by kernel_rfl, by kernel_rfl, by kernel_rfl, by kernel_rfl, by kernel_rfl⟩
theorem ok7 : FOk Tryz.prog 7 sh7 := ⟨Tryz.f7, ir7, by kernel_rfl, by kernel_rfl, by kernel_rfl, by kernel_rfl, by kernel_rfl⟩
theorem ok8 : FOk Tryz.prog 8 sh8 := ⟨Tryz.f8, ir8, by kernel_rfl, by kernel_rfl, by kernel_rfl, by kernel_rfl, by kernel_rfl⟩
theorem ok9 : FOk Tryz.prog 9 sh9 := ⟨Tryz.f9, ir9, by kernel_rfl, by kernel_rfl, by kernel_rfl, by kernel_rfl, by kernel_rfl⟩
theorem ok10 : FOk Tryz.prog 10 sh10 := ⟨Tryz.f10, ir10, by kernel_rfl, by kernel_rfl, by kernel_rfl, by kernel_rfl, by kernel_rfl⟩
theorem ok11 : FOk Tryz.prog 11 sh11 := ⟨Tryz.f11, ir11, by kernel_rfl, by kernel_rfl, by kernel_rfl, by kernel_rfl, by kernel_rfl⟩
theorem ok12 : FOk Tryz.prog 12 sh12 := ⟨Tryz.f12, ir12, by kernel_rfl, by kernel_rfl, by kernel_rfl, by kernel_rfl, by kernel_rfl⟩
theorem ok13 : FOk Tryz.prog 13 sh13 := ⟨Tryz.f13, ir13, by kernel_rfl, by kernel_rfl, by kernel_rfl, by kernel_rfl, by kernel_rfl⟩
theorem ok14 : FOk Tryz.prog 14 sh14 := ⟨Tryz.f14, ir14, by kernel_rfl, by kernel_rfl, by kernel_rfl, by kernel_rfl, by kernel_rfl⟩
theorem ok15 : FOk Tryz.prog 15 sh15 := ⟨Tryz.f15, ir15, by kernel_rfl, by kernel_rfl, by kernel_rfl, by kernel_rfl, by kernel_rfl⟩
theorem ok16 : FOk Tryz.prog 16 sh16 := ⟨Tryz.f16, ir16, by kernel_rfl, by kernel_rfl, by kernel_rfl, by kernel_rfl, by kernel_rfl⟩
theorem ok17 : FOk Tryz.prog 17 sh17 := ⟨Tryz.f17, ir17, by kernel_rfl, by kernel_rfl, by kernel_rfl, by kernel_rfl, by kernel_rfl⟩
theorem ok18 : FOk Tryz.prog 18 sh18 := ⟨Tryz.f18, ir18.2, by kernel_rfl, by kernel_rfl, by kernel_rfl, by kernel_rfl⟩
theorem ok19 : FOk Tryz.prog 19 sh19 := ⟨Tryz.f19, ir19, by kernel_rfl, by kernel_rfl, by kernel_rfl, by kernel_rfl, by kernel_rfl⟩
theorem ok20 : FOk Tryz.prog 20 sh20 := ⟨Tryz.f20, ir20, by kernel_rfl, by kernel_rfl, by kernel_rfl, by kernel_rfl, by kernel_rfl⟩
theorem ok21 : FOk Tryz.prog 21 sh21 := ⟨Tryz.f21, ir21, by kernel_rfl, by kernel_rfl, by kernel_rfl, by kernel_rfl, by kernel_rfl⟩
theorem ok22 : FOk Tryz.prog 22 sh22 := ⟨Tryz.f22, ir22, by kernel_rfl, by kernel_rfl, by kernel_rfl, by kernel_rfl, by kernel_rfl⟩
theorem ok23 : FOk Tryz.prog 23 sh23 := ⟨Tryz.f23, ir23, by kernel_rfl, by kernel_rfl, by kernel_rfl, by kernel_rfl, by kernel_rfl⟩
theorem ok24 : FOk Tryz.prog 24 sh24 := ⟨Tryz.f24, ir24, by kernel_rfl, by kernel_rfl, by kernel_rfl, by kernel_rfl, by kernel_rfl⟩
theorem ok25 : FOk Tryz.prog 25 sh25 := ⟨Tryz.f25, ir25, by kernel_rfl, by kernel_rfl, by kernel_rfl, by kernel_rfl, by kernel_rfl⟩
theorem ok26 : FOk Tryz.prog 26 sh26 := ⟨Tryz.f26, ir26, by kernel_rfl, by kernel_rfl, by kernel_rfl, by kernel_rfl, by kernel_rfl⟩
theorem ok27 : FOk Tryz.prog 27 sh27 := ⟨Tryz.f27, ir27, by kernel_rfl, by kernel_rfl, by kernel_rfl, by kernel_rfl, by kernel_rfl⟩
theorem ok28 : FOk Tryz.prog 28 sh28 := ⟨Tryz.f28, ir28, by kernel_rfl, by kernel_rfl, by kernel_rfl, by kernel_rfl, by kernel_rfl⟩
theorem ok29 : FOk Tryz.prog 29 sh29 := ⟨Tryz.f29, ir29, by kernel_rfl, by kernel_rfl, by kernel_rfl, by kernel_rfl, by kernel_rfl⟩
theorem ok30 : FOk Tryz.prog 30 sh30 := ⟨Tryz.f30, ir30, by kernel_rfl, by kernel_rfl, by kernel_rfl, by kernel_rfl, by kernel_rfl⟩
theorem ok31 : FOk Tryz.prog 31 sh31 := ⟨Tryz.f31, ir31, by kernel_rfl, by kernel_rfl, by kernel_rfl, by kernel_rfl, by kernel_rfl⟩
theorem ok32 : FOk Tryz.prog 32 sh32 := ⟨Tryz.f32, ir32.2, by kernel_rfl, by kernel_rfl, by kernel_rfl, by kernel_rfl⟩
theorem ok33 : FOk Tryz.prog 33 sh33 := ⟨Tryz.f33, ir33, by kernel_rfl, by kernel_rfl, by kernel_rfl, by kernel_rfl, by kernel_rfl⟩
theorem ok34 : FOk Tryz.prog 34 sh34 := ⟨Tryz.f34, ir34, by kernel_rfl, by kernel_rfl, by kernel_rfl, by kernel_rfl, by kernel_rfl⟩
theorem ok35 : FOk Tryz.prog 35 sh35 := ⟨Tryz.f35, ir35, by kernel_rfl, by kernel_rfl, by kernel_rfl, by kernel_rfl, by kernel_rfl⟩
theorem ok36 : FOk Tryz.prog 36 sh36 := ⟨Tryz.f36, ir36, by kernel_rfl, by kernel_rfl, by kernel_rfl, by kernel_rfl, by kernel_rfl⟩
theorem ok37 : FOk Tryz.prog 37 sh37 := ⟨Tryz.f37, ir37, by kernel_rfl, by kernel_rfl, by kernel_rfl, by kernel_rfl, by kernel_rfl⟩
theorem ok38 : FOk Tryz.prog 38 sh38 := ⟨Tryz.f38, ir38, by kernel_rfl, by kernel_rfl, by kernel_rfl, by kernel_rfl, by kernel_rfl⟩
theorem ok39 : FOk Tryz.prog 39 sh39 := ⟨Tryz.f39, ir39, by kernel_rfl, by kernel_rfl, by kernel_rfl, by kernel_rfl, by kernel_rfl⟩
theorem ok40 : FOk Tryz.prog 40 sh40 := ⟨Tryz.f40, ir40, by kernel_rfl, by kernel_rfl, by kernel_rfl, by kernel_rfl, by kernel_rfl⟩
end Go.Proofs.YtjdbcfnlehedmaaGreatDoor.Av
