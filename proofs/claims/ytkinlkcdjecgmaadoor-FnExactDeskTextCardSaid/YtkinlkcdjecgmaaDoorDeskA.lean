/- FACTS OF THE SEAT's PROGRAM that AX asks: its plain types; its functions' looks; the two library functions that are answered by the kit's contracts. Printed by program. -/
import Derived.Test.YtkinlkcdjecgmaaDoorAxc
import Derived.Test.YtkinlkcdjecgmaaDoorProg
namespace Go.AX
open Go Go.Proofs
set_option maxRecDepth 100000
theorem ti2 : ti Tryd.prog 2 = some ⟨.int .i64, 1, 8, some [.int .i64 0]⟩ := by kernel_rfl
theorem ti3 : ti Tryd.prog 3 = some ⟨.int .i64, 1, 8, some [.int .i64 0]⟩ := by kernel_rfl
theorem ti4 : ti Tryd.prog 4 = some ⟨.bool, 1, 1, some [.bool false]⟩ := by kernel_rfl
theorem ti5 : ti Tryd.prog 5 = some ⟨.int .u8, 1, 1, some [.int .u8 0]⟩ := by kernel_rfl
theorem ti9 : ti Tryd.prog 9 = some ⟨.str, 1, 16, some [.str ⟨#[]⟩]⟩ := by kernel_rfl
theorem ti21 : ti Tryd.prog 21 = some ⟨.int .i32, 1, 4, some [.int .i32 0]⟩ := by kernel_rfl
theorem ti22 : ti Tryd.prog 22 = some ⟨.struct [(0, 1, 2), (1, 1, 2), (2, 1, 2), (3, 1, 2)] true, 4, 32, some [.int .i64 0, .int .i64 0, .int .i64 0, .int .i64 0]⟩ := by kernel_rfl
theorem ti23 : ti Tryd.prog 23 = some ⟨.struct [(0, 1, 2), (1, 1, 2), (2, 1, 2), (3, 1, 2)] true, 4, 32, some [.int .i64 0, .int .i64 0, .int .i64 0, .int .i64 0]⟩ := by kernel_rfl
theorem ti24 : ti Tryd.prog 24 = some ⟨.slice 2, 1, 24, some [.nil]⟩ := by kernel_rfl
theorem ti25 : ti Tryd.prog 25 = some ⟨.struct [(0, 1, 0), (1, 1, 0)] true, 2, 48, some [.nil, .nil]⟩ := by kernel_rfl
theorem ti26 : ti Tryd.prog 26 = some ⟨.struct [(0, 1, 0), (1, 1, 0)] true, 2, 48, some [.nil, .nil]⟩ := by kernel_rfl
theorem ti27 : ti Tryd.prog 27 = some ⟨.struct [(0, 1, 2), (1, 1, 2)] true, 2, 16, some [.int .i64 0, .int .i64 0]⟩ := by kernel_rfl
theorem ti28 : ti Tryd.prog 28 = some ⟨.struct [(0, 1, 2), (1, 1, 2)] true, 2, 16, some [.int .i64 0, .int .i64 0]⟩ := by kernel_rfl
theorem ti29 : ti Tryd.prog 29 = some ⟨.slice 26, 1, 24, some [.nil]⟩ := by kernel_rfl
theorem ti30 : ti Tryd.prog 30 = some ⟨.struct [(0, 4, 0), (4, 2, 0), (6, 2, 0), (8, 1, 2), (9, 1, 0)] true, 10, 128, some [.int .i64 0, .int .i64 0, .int .i64 0, .int .i64 0, .nil, .nil, .int .i64 0, .int .i64 0, .int .i64 0, .nil]⟩ := by kernel_rfl
theorem ti31 : ti Tryd.prog 31 = some ⟨.struct [(0, 4, 0), (4, 2, 0), (6, 2, 0), (8, 1, 2), (9, 1, 0)] true, 10, 128, some [.int .i64 0, .int .i64 0, .int .i64 0, .int .i64 0, .nil, .nil, .int .i64 0, .int .i64 0, .int .i64 0, .nil]⟩ := by kernel_rfl
theorem ti34 : ti Tryd.prog 34 = some ⟨.struct [(0, 1, 2), (1, 1, 2), (2, 1, 2), (3, 1, 2)] true, 4, 32, some [.int .i64 0, .int .i64 0, .int .i64 0, .int .i64 0]⟩ := by kernel_rfl
theorem ti35 : ti Tryd.prog 35 = some ⟨.struct [(0, 1, 0), (1, 1, 0)] true, 2, 48, some [.nil, .nil]⟩ := by kernel_rfl
theorem ti36 : ti Tryd.prog 36 = some ⟨.struct [(0, 1, 2), (1, 1, 2)] true, 2, 16, some [.int .i64 0, .int .i64 0]⟩ := by kernel_rfl
theorem ti37 : ti Tryd.prog 37 = some ⟨.slice 35, 1, 24, some [.nil]⟩ := by kernel_rfl
theorem ti38 : ti Tryd.prog 38 = some ⟨.struct [(0, 4, 0), (4, 2, 0), (6, 2, 0), (8, 1, 2), (9, 1, 0)] true, 10, 128, some [.int .i64 0, .int .i64 0, .int .i64 0, .int .i64 0, .nil, .nil, .int .i64 0, .int .i64 0, .int .i64 0, .nil]⟩ := by kernel_rfl
theorem ti39 : ti Tryd.prog 39 = some ⟨.struct [(0, 4, 0), (4, 2, 0), (6, 2, 0), (8, 1, 2), (9, 1, 0)] true, 10, 128, some [.int .i64 0, .int .i64 0, .int .i64 0, .int .i64 0, .nil, .nil, .int .i64 0, .int .i64 0, .int .i64 0, .nil]⟩ := by kernel_rfl
theorem ti55 : ti Tryd.prog 55 = some ⟨.slice 9, 1, 24, some [.nil]⟩ := by kernel_rfl
theorem ti68 : ti Tryd.prog 68 = some ⟨.slice 5, 1, 24, some [.nil]⟩ := by kernel_rfl
theorem ti85 : ti Tryd.prog 85 = some ⟨.slice 24, 1, 24, some [.nil]⟩ := by kernel_rfl
theorem ti86 : ti Tryd.prog 86 = some ⟨.ptr 5, 1, 8, some [.nip]⟩ := by kernel_rfl
theorem ti89 : ti Tryd.prog 89 = some ⟨.int .u64, 1, 8, some [.int .u64 0]⟩ := by kernel_rfl
theorem ti100 : ti Tryd.prog 100 = some ⟨.int .u32, 1, 4, some [.int .u32 0]⟩ := by kernel_rfl
theorem ti103 : ti Tryd.prog 103 = some ⟨.int .u64, 1, 8, some [.int .u64 0]⟩ := by kernel_rfl
theorem ok55 : fnOk Tryd.prog Tryd.f55 = true := by kernel_rfl
theorem ok12 : fnOk Tryd.prog Tryd.f12 = true := by kernel_rfl
theorem ok32 : fnOk Tryd.prog Tryd.f32 = true := by kernel_rfl
theorem ok34 : fnOk Tryd.prog Tryd.f34 = true := by kernel_rfl
theorem ok35 : fnOk Tryd.prog Tryd.f35 = true := by kernel_rfl
theorem ok38 : fnOk Tryd.prog Tryd.f38 = true := by kernel_rfl
theorem ok36 : fnOk Tryd.prog Tryd.f36 = true := by kernel_rfl
theorem ok54 : fnOk Tryd.prog Tryd.f54 = true := by kernel_rfl
theorem ok53 : fnOk Tryd.prog Tryd.f53 = true := by kernel_rfl
theorem ok33 : fnOk Tryd.prog Tryd.f33 = true := by kernel_rfl
theorem ok11 : fnOk Tryd.prog Tryd.f11 = true := by kernel_rfl
theorem ok37 : fnOk Tryd.prog Tryd.f37 = true := by kernel_rfl
theorem ok13 : fnOk Tryd.prog Tryd.f13 = true := by kernel_rfl
theorem ok14 : fnOk Tryd.prog Tryd.f14 = true := by kernel_rfl
theorem ok56 : fnOk Tryd.prog Tryd.f56 = true := by kernel_rfl
theorem ok39 : fnOk Tryd.prog Tryd.f39 = true := by kernel_rfl
theorem ok57 : fnOk Tryd.prog Tryd.f57 = true := by kernel_rfl
theorem ok40 : fnOk Tryd.prog Tryd.f40 = true := by kernel_rfl
theorem ok15 : fnOk Tryd.prog Tryd.f15 = true := by kernel_rfl
theorem ok16 : fnOk Tryd.prog Tryd.f16 = true := by kernel_rfl
theorem ok5 : fnOk Tryd.prog Tryd.f5 = true := by kernel_rfl
theorem ok58 : fnOk Tryd.prog Tryd.f58 = true := by kernel_rfl
theorem ok42 : fnOk Tryd.prog Tryd.f42 = true := by kernel_rfl
theorem ok59 : fnOk Tryd.prog Tryd.f59 = true := by kernel_rfl
theorem ok60 : fnOk Tryd.prog Tryd.f60 = true := by kernel_rfl
theorem ok43 : fnOk Tryd.prog Tryd.f43 = true := by kernel_rfl
theorem ok44 : fnOk Tryd.prog Tryd.f44 = true := by kernel_rfl
theorem ok45 : fnOk Tryd.prog Tryd.f45 = true := by kernel_rfl
theorem ok21 : fnOk Tryd.prog Tryd.f21 = true := by kernel_rfl
theorem ok25 : fnOk Tryd.prog Tryd.f25 = true := by kernel_rfl
theorem ok22 : fnOk Tryd.prog Tryd.f22 = true := by kernel_rfl
theorem ok46 : fnOk Tryd.prog Tryd.f46 = true := by kernel_rfl
theorem ok23 : fnOk Tryd.prog Tryd.f23 = true := by kernel_rfl
theorem ok47 : fnOk Tryd.prog Tryd.f47 = true := by kernel_rfl
theorem ok24 : fnOk Tryd.prog Tryd.f24 = true := by kernel_rfl
theorem ok7 : fnOk Tryd.prog Tryd.f7 = true := by kernel_rfl
theorem ok48 : fnOk Tryd.prog Tryd.f48 = true := by kernel_rfl
theorem ok31 : fnOk Tryd.prog Tryd.f31 = true := by kernel_rfl
theorem ok9 : fnOk Tryd.prog Tryd.f9 = true := by kernel_rfl
theorem ok10 : fnOk Tryd.prog Tryd.f10 = true := by kernel_rfl
theorem ok4 : fnOk Tryd.prog Tryd.f4 = true := by kernel_rfl
theorem ok17 : fnOk Tryd.prog Tryd.f17 = true := by kernel_rfl
theorem ok41 : fnOk Tryd.prog Tryd.f41 = true := by kernel_rfl
theorem ok18 : fnOk Tryd.prog Tryd.f18 = true := by kernel_rfl
theorem ok19 : fnOk Tryd.prog Tryd.f19 = true := by kernel_rfl
theorem ok20 : fnOk Tryd.prog Tryd.f20 = true := by kernel_rfl
theorem ok6 : fnOk Tryd.prog Tryd.f6 = true := by kernel_rfl
theorem ok27 : fnOk Tryd.prog Tryd.f27 = true := by kernel_rfl
theorem ok52 : fnOk Tryd.prog Tryd.f52 = true := by kernel_rfl
theorem ok28 : fnOk Tryd.prog Tryd.f28 = true := by kernel_rfl
theorem ok29 : fnOk Tryd.prog Tryd.f29 = true := by kernel_rfl
theorem ok30 : fnOk Tryd.prog Tryd.f30 = true := by kernel_rfl
theorem ok8 : fnOk Tryd.prog Tryd.f8 = true := by kernel_rfl
theorem ok3 : fnOk Tryd.prog Tryd.f3 = true := by kernel_rfl
instance primD : Prim := ⟨fun f xs => if f = 26 then joinAns xs else if f = 61 then itoaAns xs else none, fun k => if k = 300700008 then [3] else []⟩
end Go.AX
