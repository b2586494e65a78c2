/-
  Closed facts on the types of this seat's program, printed by a program (tab.py).
-/
import Derived.Test.YtfnfbdccmggfoaaGreatDoorPg17
import Derived.Test.YtfnfbdccmggfoaaGreatDoorChecked
import Derived.KernelRfl
namespace Go.Proofs.YtfnfbdccmggfoaaGreatDoor
open Go.Proofs.YtfnfbdccmggfoaaGreatDoor.Pg
theorem sh3 : shapeOf Tryz.prog 3 = .one := by kernel_rfl
theorem sz3 : szOf Tryz.prog 3 = some 1 := by kernel_rfl
theorem ik3 : intKindOf Tryz.prog 3 = some .i64 := by kernel_rfl
theorem es3 : elemSz Tryz.prog 3 = none := by kernel_rfl
theorem zo3 : zeroOf Tryz.prog 3 = some [.int .i64 0] := by kernel_rfl
theorem us3 : (Tryz.prog.underlying 3).isSome = true := by kernel_rfl
theorem sh4 : shapeOf Tryz.prog 4 = .one := by kernel_rfl
theorem sz4 : szOf Tryz.prog 4 = some 1 := by kernel_rfl
theorem es4 : elemSz Tryz.prog 4 = none := by kernel_rfl
theorem zo4 : zeroOf Tryz.prog 4 = some [.bool false] := by kernel_rfl
theorem bt4 : boolT Tryz.prog 4 = true := by kernel_rfl
theorem sh21 : shapeOf Tryz.prog 21 = .one := by kernel_rfl
theorem sz21 : szOf Tryz.prog 21 = some 1 := by kernel_rfl
theorem ik21 : intKindOf Tryz.prog 21 = some .i32 := by kernel_rfl
theorem es21 : elemSz Tryz.prog 21 = none := by kernel_rfl
theorem zo21 : zeroOf Tryz.prog 21 = some [.int .i32 0] := by kernel_rfl
theorem us21 : (Tryz.prog.underlying 21).isSome = true := by kernel_rfl
theorem sh22 : shapeOf Tryz.prog 22 = .one := by kernel_rfl
theorem sz22 : szOf Tryz.prog 22 = some 1 := by kernel_rfl
theorem es22 : elemSz Tryz.prog 22 = some 1 := by kernel_rfl
theorem sl22 : sliceOf Tryz.prog 22 = some (3, 1, 8, [.int .i64 0]) := by kernel_rfl
theorem zo22 : zeroOf Tryz.prog 22 = some [.slice none 0 0] := by kernel_rfl
theorem sh24 : shapeOf Tryz.prog 24 = .many 3 := by kernel_rfl
theorem sz24 : szOf Tryz.prog 24 = some 3 := by kernel_rfl
theorem es24 : elemSz Tryz.prog 24 = none := by kernel_rfl
theorem fo24_0 : fOff Tryz.prog 24 0 = some 0 := by kernel_rfl
theorem fs24_0 : fSh Tryz.prog 24 0 = some (0, .one) := by kernel_rfl
theorem fo24_1 : fOff Tryz.prog 24 1 = some 1 := by kernel_rfl
theorem fs24_1 : fSh Tryz.prog 24 1 = some (1, .one) := by kernel_rfl
theorem fo24_2 : fOff Tryz.prog 24 2 = some 2 := by kernel_rfl
theorem fs24_2 : fSh Tryz.prog 24 2 = some (2, .one) := by kernel_rfl
theorem so24 : aggOf Tryz.prog 24 = some ([.int .i64 0, .int .i64 0, .bool false], [(0, 1), (1, 1), (2, 1)]) := by kernel_rfl
theorem zo24 : zeroOf Tryz.prog 24 = some [.int .i64 0, .int .i64 0, .bool false] := by kernel_rfl
theorem sh30 : shapeOf Tryz.prog 30 = .one := by kernel_rfl
theorem sz30 : szOf Tryz.prog 30 = some 1 := by kernel_rfl
theorem es30 : elemSz Tryz.prog 30 = none := by kernel_rfl
theorem zo30 : zeroOf Tryz.prog 30 = some [.pointer none] := by kernel_rfl
theorem pt30 : ptrT Tryz.prog 30 = true := by kernel_rfl
theorem sh31 : shapeOf Tryz.prog 31 = .one := by kernel_rfl
theorem sz31 : szOf Tryz.prog 31 = some 1 := by kernel_rfl
theorem ik31 : intKindOf Tryz.prog 31 = some .i64 := by kernel_rfl
theorem es31 : elemSz Tryz.prog 31 = none := by kernel_rfl
theorem zo31 : zeroOf Tryz.prog 31 = some [.int .i64 0] := by kernel_rfl
theorem us31 : (Tryz.prog.underlying 31).isSome = true := by kernel_rfl
theorem sh34 : shapeOf Tryz.prog 34 = .one := by kernel_rfl
theorem sz34 : szOf Tryz.prog 34 = some 1 := by kernel_rfl
theorem es34 : elemSz Tryz.prog 34 = some 6 := by kernel_rfl
theorem sl34 : sliceOf Tryz.prog 34 = some (79, 6, 128, [.int .i64 0, .slice none 0 0, .slice none 0 0, .slice none 0 0, .slice none 0 0, .slice none 0 0]) := by kernel_rfl
theorem zo34 : zeroOf Tryz.prog 34 = some [.slice none 0 0] := by kernel_rfl
theorem sh35 : shapeOf Tryz.prog 35 = .one := by kernel_rfl
theorem sz35 : szOf Tryz.prog 35 = some 1 := by kernel_rfl
theorem es35 : elemSz Tryz.prog 35 = some 4 := by kernel_rfl
theorem sl35 : sliceOf Tryz.prog 35 = some (82, 4, 32, [.int .i64 0, .int .i64 0, .int .i64 0, .int .i64 0]) := by kernel_rfl
theorem zo35 : zeroOf Tryz.prog 35 = some [.slice none 0 0] := by kernel_rfl
theorem sh36 : shapeOf Tryz.prog 36 = .one := by kernel_rfl
theorem sz36 : szOf Tryz.prog 36 = some 1 := by kernel_rfl
theorem es36 : elemSz Tryz.prog 36 = some 1 := by kernel_rfl
theorem sl36 : sliceOf Tryz.prog 36 = some (9, 1, 16, [.string ⟨#[]⟩]) := by kernel_rfl
theorem zo36 : zeroOf Tryz.prog 36 = some [.slice none 0 0] := by kernel_rfl
theorem sh38 : shapeOf Tryz.prog 38 = .many 5 := by kernel_rfl
theorem sz38 : szOf Tryz.prog 38 = some 5 := by kernel_rfl
theorem es38 : elemSz Tryz.prog 38 = none := by kernel_rfl
theorem fo38_0 : fOff Tryz.prog 38 0 = some 0 := by kernel_rfl
theorem fs38_0 : fSh Tryz.prog 38 0 = some (0, .one) := by kernel_rfl
theorem fo38_1 : fOff Tryz.prog 38 1 = some 1 := by kernel_rfl
theorem fs38_1 : fSh Tryz.prog 38 1 = some (1, .one) := by kernel_rfl
theorem fo38_2 : fOff Tryz.prog 38 2 = some 2 := by kernel_rfl
theorem fs38_2 : fSh Tryz.prog 38 2 = some (2, .one) := by kernel_rfl
theorem fo38_3 : fOff Tryz.prog 38 3 = some 3 := by kernel_rfl
theorem fs38_3 : fSh Tryz.prog 38 3 = some (3, .one) := by kernel_rfl
theorem fo38_4 : fOff Tryz.prog 38 4 = some 4 := by kernel_rfl
theorem fs38_4 : fSh Tryz.prog 38 4 = some (4, .one) := by kernel_rfl
theorem so38 : aggOf Tryz.prog 38 = some ([.slice none 0 0, .slice none 0 0, .slice none 0 0, .int .i64 0, .int .i64 0], [(0, 1), (1, 1), (2, 1), (3, 1), (4, 1)]) := by kernel_rfl
theorem zo38 : zeroOf Tryz.prog 38 = some [.slice none 0 0, .slice none 0 0, .slice none 0 0, .int .i64 0, .int .i64 0] := by kernel_rfl
theorem sh39 : shapeOf Tryz.prog 39 = .one := by kernel_rfl
theorem sz39 : szOf Tryz.prog 39 = some 1 := by kernel_rfl
theorem es39 : elemSz Tryz.prog 39 = some 1 := by kernel_rfl
theorem sl39 : sliceOf Tryz.prog 39 = some (21, 1, 4, [.int .i32 0]) := by kernel_rfl
theorem zo39 : zeroOf Tryz.prog 39 = some [.slice none 0 0] := by kernel_rfl
theorem sh40 : shapeOf Tryz.prog 40 = .one := by kernel_rfl
theorem sz40 : szOf Tryz.prog 40 = some 1 := by kernel_rfl
theorem es40 : elemSz Tryz.prog 40 = some 3 := by kernel_rfl
theorem sl40 : sliceOf Tryz.prog 40 = some (71, 3, 24, [.int .i64 0, .int .i64 0, .int .i64 0]) := by kernel_rfl
theorem zo40 : zeroOf Tryz.prog 40 = some [.slice none 0 0] := by kernel_rfl
theorem sh41 : shapeOf Tryz.prog 41 = .one := by kernel_rfl
theorem sz41 : szOf Tryz.prog 41 = some 1 := by kernel_rfl
theorem es41 : elemSz Tryz.prog 41 = some 2 := by kernel_rfl
theorem sl41 : sliceOf Tryz.prog 41 = some (68, 2, 16, [.int .i64 0, .int .i64 0]) := by kernel_rfl
theorem zo41 : zeroOf Tryz.prog 41 = some [.slice none 0 0] := by kernel_rfl
theorem sh43 : shapeOf Tryz.prog 43 = .many 8 := by kernel_rfl
theorem sz43 : szOf Tryz.prog 43 = some 8 := by kernel_rfl
theorem es43 : elemSz Tryz.prog 43 = none := by kernel_rfl
theorem fo43_0 : fOff Tryz.prog 43 0 = some 0 := by kernel_rfl
theorem fs43_0 : fSh Tryz.prog 43 0 = some (0, .one) := by kernel_rfl
theorem fo43_1 : fOff Tryz.prog 43 1 = some 1 := by kernel_rfl
theorem fs43_1 : fSh Tryz.prog 43 1 = some (1, .one) := by kernel_rfl
theorem fo43_2 : fOff Tryz.prog 43 2 = some 2 := by kernel_rfl
theorem fs43_2 : fSh Tryz.prog 43 2 = some (2, .one) := by kernel_rfl
theorem fo43_3 : fOff Tryz.prog 43 3 = some 3 := by kernel_rfl
theorem fs43_3 : fSh Tryz.prog 43 3 = some (3, .one) := by kernel_rfl
theorem fo43_4 : fOff Tryz.prog 43 4 = some 4 := by kernel_rfl
theorem fs43_4 : fSh Tryz.prog 43 4 = some (4, .one) := by kernel_rfl
theorem fo43_5 : fOff Tryz.prog 43 5 = some 5 := by kernel_rfl
theorem fs43_5 : fSh Tryz.prog 43 5 = some (5, .one) := by kernel_rfl
theorem fo43_6 : fOff Tryz.prog 43 6 = some 6 := by kernel_rfl
theorem fs43_6 : fSh Tryz.prog 43 6 = some (6, .one) := by kernel_rfl
theorem fo43_7 : fOff Tryz.prog 43 7 = some 7 := by kernel_rfl
theorem fs43_7 : fSh Tryz.prog 43 7 = some (7, .one) := by kernel_rfl
theorem so43 : aggOf Tryz.prog 43 = some ([.slice none 0 0, .slice none 0 0, .slice none 0 0, .int .i64 0, .int .i64 0, .int .i64 0, .int .i64 0, .bool false], [(0, 1), (1, 1), (2, 1), (3, 1), (4, 1), (5, 1), (6, 1), (7, 1)]) := by kernel_rfl
theorem zo43 : zeroOf Tryz.prog 43 = some [.slice none 0 0, .slice none 0 0, .slice none 0 0, .int .i64 0, .int .i64 0, .int .i64 0, .int .i64 0, .bool false] := by kernel_rfl
theorem sh44 : shapeOf Tryz.prog 44 = .one := by kernel_rfl
theorem sz44 : szOf Tryz.prog 44 = some 1 := by kernel_rfl
theorem es44 : elemSz Tryz.prog 44 = some 9 := by kernel_rfl
theorem sl44 : sliceOf Tryz.prog 44 = some (92, 9, 104, [.int .i64 0, .int .i64 0, .int .i64 0, .slice none 0 0, .int .i64 0, .int .i64 0, .int .i64 0, .bool false, .slice none 0 0]) := by kernel_rfl
theorem zo44 : zeroOf Tryz.prog 44 = some [.slice none 0 0] := by kernel_rfl
theorem sh46 : shapeOf Tryz.prog 46 = .one := by kernel_rfl
theorem sz46 : szOf Tryz.prog 46 = some 1 := by kernel_rfl
theorem es46 : elemSz Tryz.prog 46 = some 6 := by kernel_rfl
theorem sl46 : sliceOf Tryz.prog 46 = some (97, 6, 48, [.int .i64 0, .int .i64 0, .int .i64 0, .int .i64 0, .int .i64 0, .int .i64 0]) := by kernel_rfl
theorem zo46 : zeroOf Tryz.prog 46 = some [.slice none 0 0] := by kernel_rfl
theorem sh48 : shapeOf Tryz.prog 48 = .one := by kernel_rfl
theorem sz48 : szOf Tryz.prog 48 = some 1 := by kernel_rfl
theorem es48 : elemSz Tryz.prog 48 = some 2 := by kernel_rfl
theorem sl48 : sliceOf Tryz.prog 48 = some (87, 2, 16, [.int .i64 0, .int .i64 0]) := by kernel_rfl
theorem zo48 : zeroOf Tryz.prog 48 = some [.slice none 0 0] := by kernel_rfl
theorem sh62 : shapeOf Tryz.prog 62 = .one := by kernel_rfl
theorem sz62 : szOf Tryz.prog 62 = some 1 := by kernel_rfl
theorem es62 : elemSz Tryz.prog 62 = none := by kernel_rfl
theorem zo62 : zeroOf Tryz.prog 62 = some [.pointer none] := by kernel_rfl
theorem pt62 : ptrT Tryz.prog 62 = true := by kernel_rfl
theorem sh87 : shapeOf Tryz.prog 87 = .many 2 := by kernel_rfl
theorem sz87 : szOf Tryz.prog 87 = some 2 := by kernel_rfl
theorem es87 : elemSz Tryz.prog 87 = none := by kernel_rfl
theorem fo87_0 : fOff Tryz.prog 87 0 = some 0 := by kernel_rfl
theorem fs87_0 : fSh Tryz.prog 87 0 = some (0, .one) := by kernel_rfl
theorem fo87_1 : fOff Tryz.prog 87 1 = some 1 := by kernel_rfl
theorem fs87_1 : fSh Tryz.prog 87 1 = some (1, .one) := by kernel_rfl
theorem so87 : aggOf Tryz.prog 87 = some ([.int .i64 0, .int .i64 0], [(0, 1), (1, 1)]) := by kernel_rfl
theorem zo87 : zeroOf Tryz.prog 87 = some [.int .i64 0, .int .i64 0] := by kernel_rfl
theorem eq87 : eqInts Tryz.prog 87 = some 2 := by kernel_rfl
theorem sh89 : shapeOf Tryz.prog 89 = .many 19 := by kernel_rfl
theorem sz89 : szOf Tryz.prog 89 = some 19 := by kernel_rfl
theorem es89 : elemSz Tryz.prog 89 = none := by kernel_rfl
theorem fo89_0 : fOff Tryz.prog 89 0 = some 0 := by kernel_rfl
theorem fs89_0 : fSh Tryz.prog 89 0 = some (0, .many 5) := by kernel_rfl
theorem fo89_1 : fOff Tryz.prog 89 1 = some 5 := by kernel_rfl
theorem fs89_1 : fSh Tryz.prog 89 1 = some (5, .many 8) := by kernel_rfl
theorem fo89_2 : fOff Tryz.prog 89 2 = some 13 := by kernel_rfl
theorem fs89_2 : fSh Tryz.prog 89 2 = some (13, .one) := by kernel_rfl
theorem fo89_3 : fOff Tryz.prog 89 3 = some 14 := by kernel_rfl
theorem fs89_3 : fSh Tryz.prog 89 3 = some (14, .one) := by kernel_rfl
theorem fo89_4 : fOff Tryz.prog 89 4 = some 15 := by kernel_rfl
theorem fs89_4 : fSh Tryz.prog 89 4 = some (15, .one) := by kernel_rfl
theorem fo89_5 : fOff Tryz.prog 89 5 = some 16 := by kernel_rfl
theorem fs89_5 : fSh Tryz.prog 89 5 = some (16, .one) := by kernel_rfl
theorem fo89_6 : fOff Tryz.prog 89 6 = some 17 := by kernel_rfl
theorem fs89_6 : fSh Tryz.prog 89 6 = some (17, .one) := by kernel_rfl
theorem fo89_7 : fOff Tryz.prog 89 7 = some 18 := by kernel_rfl
theorem fs89_7 : fSh Tryz.prog 89 7 = some (18, .one) := by kernel_rfl
theorem so89 : aggOf Tryz.prog 89 = some ([.slice none 0 0, .slice none 0 0, .slice none 0 0, .int .i64 0, .int .i64 0, .slice none 0 0, .slice none 0 0, .slice none 0 0, .int .i64 0, .int .i64 0, .int .i64 0, .int .i64 0, .bool false, .pointer none, .slice none 0 0, .slice none 0 0, .slice none 0 0, .slice none 0 0, .bool false], [(0, 5), (5, 8), (13, 1), (14, 1), (15, 1), (16, 1), (17, 1), (18, 1)]) := by kernel_rfl
theorem zo89 : zeroOf Tryz.prog 89 = some [.slice none 0 0, .slice none 0 0, .slice none 0 0, .int .i64 0, .int .i64 0, .slice none 0 0, .slice none 0 0, .slice none 0 0, .int .i64 0, .int .i64 0, .int .i64 0, .int .i64 0, .bool false, .pointer none, .slice none 0 0, .slice none 0 0, .slice none 0 0, .slice none 0 0, .bool false] := by kernel_rfl
theorem sh92 : shapeOf Tryz.prog 92 = .many 9 := by kernel_rfl
theorem sz92 : szOf Tryz.prog 92 = some 9 := by kernel_rfl
theorem es92 : elemSz Tryz.prog 92 = none := by kernel_rfl
theorem fo92_0 : fOff Tryz.prog 92 0 = some 0 := by kernel_rfl
theorem fs92_0 : fSh Tryz.prog 92 0 = some (0, .one) := by kernel_rfl
theorem fo92_1 : fOff Tryz.prog 92 1 = some 1 := by kernel_rfl
theorem fs92_1 : fSh Tryz.prog 92 1 = some (1, .one) := by kernel_rfl
theorem fo92_2 : fOff Tryz.prog 92 2 = some 2 := by kernel_rfl
theorem fs92_2 : fSh Tryz.prog 92 2 = some (2, .one) := by kernel_rfl
theorem fo92_3 : fOff Tryz.prog 92 3 = some 3 := by kernel_rfl
theorem fs92_3 : fSh Tryz.prog 92 3 = some (3, .one) := by kernel_rfl
theorem fo92_4 : fOff Tryz.prog 92 4 = some 4 := by kernel_rfl
theorem fs92_4 : fSh Tryz.prog 92 4 = some (4, .one) := by kernel_rfl
theorem fo92_5 : fOff Tryz.prog 92 5 = some 5 := by kernel_rfl
theorem fs92_5 : fSh Tryz.prog 92 5 = some (5, .one) := by kernel_rfl
theorem fo92_6 : fOff Tryz.prog 92 6 = some 6 := by kernel_rfl
theorem fs92_6 : fSh Tryz.prog 92 6 = some (6, .one) := by kernel_rfl
theorem fo92_7 : fOff Tryz.prog 92 7 = some 7 := by kernel_rfl
theorem fs92_7 : fSh Tryz.prog 92 7 = some (7, .one) := by kernel_rfl
theorem fo92_8 : fOff Tryz.prog 92 8 = some 8 := by kernel_rfl
theorem fs92_8 : fSh Tryz.prog 92 8 = some (8, .one) := by kernel_rfl
theorem so92 : aggOf Tryz.prog 92 = some ([.int .i64 0, .int .i64 0, .int .i64 0, .slice none 0 0, .int .i64 0, .int .i64 0, .int .i64 0, .bool false, .slice none 0 0], [(0, 1), (1, 1), (2, 1), (3, 1), (4, 1), (5, 1), (6, 1), (7, 1), (8, 1)]) := by kernel_rfl
theorem zo92 : zeroOf Tryz.prog 92 = some [.int .i64 0, .int .i64 0, .int .i64 0, .slice none 0 0, .int .i64 0, .int .i64 0, .int .i64 0, .bool false, .slice none 0 0] := by kernel_rfl
/-- All of them under one name. -/
def tabs := PLift.up (And.intro (And.intro (And.intro (And.intro (And.intro (And.intro (And.intro sh3 sz3) (And.intro ik3 (And.intro es3 zo3))) (And.intro (And.intro us3 (And.intro sh4 sz4)) (And.intro es4 (And.intro zo4 bt4)))) (And.intro (And.intro (And.intro sh21 (And.intro sz21 ik21)) (And.intro es21 (And.intro zo21 us21))) (And.intro (And.intro sh22 (And.intro sz22 es22)) (And.intro sl22 (And.intro zo22 sh24))))) (And.intro (And.intro (And.intro (And.intro sz24 es24) (And.intro fo24_0 (And.intro fs24_0 fo24_1))) (And.intro (And.intro fs24_1 (And.intro fo24_2 fs24_2)) (And.intro so24 (And.intro zo24 sh30)))) (And.intro (And.intro (And.intro sz30 (And.intro es30 zo30)) (And.intro pt30 (And.intro sh31 sz31))) (And.intro (And.intro ik31 (And.intro es31 zo31)) (And.intro us31 (And.intro sh34 sz34)))))) (And.intro (And.intro (And.intro (And.intro (And.intro es34 sl34) (And.intro zo34 (And.intro sh35 sz35))) (And.intro (And.intro es35 (And.intro sl35 zo35)) (And.intro sh36 (And.intro sz36 es36)))) (And.intro (And.intro (And.intro sl36 (And.intro zo36 sh38)) (And.intro sz38 (And.intro es38 fo38_0))) (And.intro (And.intro fs38_0 (And.intro fo38_1 fs38_1)) (And.intro fo38_2 (And.intro fs38_2 fo38_3))))) (And.intro (And.intro (And.intro (And.intro fs38_3 fo38_4) (And.intro fs38_4 (And.intro so38 zo38))) (And.intro (And.intro sh39 (And.intro sz39 es39)) (And.intro sl39 (And.intro zo39 sh40)))) (And.intro (And.intro (And.intro sz40 (And.intro es40 sl40)) (And.intro zo40 (And.intro sh41 sz41))) (And.intro (And.intro es41 (And.intro sl41 zo41)) (And.intro sh43 (And.intro sz43 es43))))))) (And.intro (And.intro (And.intro (And.intro (And.intro (And.intro fo43_0 fs43_0) (And.intro fo43_1 (And.intro fs43_1 fo43_2))) (And.intro (And.intro fs43_2 (And.intro fo43_3 fs43_3)) (And.intro fo43_4 (And.intro fs43_4 fo43_5)))) (And.intro (And.intro (And.intro fs43_5 (And.intro fo43_6 fs43_6)) (And.intro fo43_7 (And.intro fs43_7 so43))) (And.intro (And.intro zo43 (And.intro sh44 sz44)) (And.intro es44 (And.intro sl44 zo44))))) (And.intro (And.intro (And.intro (And.intro sh46 sz46) (And.intro es46 (And.intro sl46 zo46))) (And.intro (And.intro sh48 (And.intro sz48 es48)) (And.intro sl48 (And.intro zo48 sh62)))) (And.intro (And.intro (And.intro sz62 (And.intro es62 zo62)) (And.intro pt62 (And.intro sh87 sz87))) (And.intro (And.intro es87 (And.intro fo87_0 fs87_0)) (And.intro fo87_1 (And.intro fs87_1 so87)))))) (And.intro (And.intro (And.intro (And.intro (And.intro zo87 eq87) (And.intro sh89 (And.intro sz89 es89))) (And.intro (And.intro fo89_0 (And.intro fs89_0 fo89_1)) (And.intro fs89_1 (And.intro fo89_2 fs89_2)))) (And.intro (And.intro (And.intro fo89_3 (And.intro fs89_3 fo89_4)) (And.intro fs89_4 (And.intro fo89_5 fs89_5))) (And.intro (And.intro fo89_6 (And.intro fs89_6 fo89_7)) (And.intro fs89_7 (And.intro so89 zo89))))) (And.intro (And.intro (And.intro (And.intro sh92 sz92) (And.intro es92 (And.intro fo92_0 fs92_0))) (And.intro (And.intro fo92_1 (And.intro fs92_1 fo92_2)) (And.intro fs92_2 (And.intro fo92_3 fs92_3)))) (And.intro (And.intro (And.intro fo92_4 (And.intro fs92_4 fo92_5)) (And.intro fs92_5 (And.intro fo92_6 fs92_6))) (And.intro (And.intro fo92_7 (And.intro fs92_7 fo92_8)) (And.intro fs92_8 (And.intro so92 zo92))))))))
end Go.Proofs.YtfnfbdccmggfoaaGreatDoor
