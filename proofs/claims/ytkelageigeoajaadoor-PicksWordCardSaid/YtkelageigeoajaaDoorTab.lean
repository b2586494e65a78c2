/-
  Closed facts on the types of this seat's program, printed by a program (tab.py).
-/
import Derived.Test.YtkelageigeoajaaDoorPg17
import Derived.Test.YtkelageigeoajaaDoorChecked
import Derived.KernelRfl
namespace Go.Proofs.YtkelageigeoajaaDoor
open Go.Proofs.YtkelageigeoajaaDoor.Pg
theorem sh2 : shapeOf Tryd.prog 2 = .one := by kernel_rfl
theorem sz2 : szOf Tryd.prog 2 = some 1 := by kernel_rfl
theorem ik2 : intKindOf Tryd.prog 2 = some .i64 := by kernel_rfl
theorem es2 : elemSz Tryd.prog 2 = none := by kernel_rfl
theorem zo2 : zeroOf Tryd.prog 2 = some [.int .i64 0] := by kernel_rfl
theorem us2 : (Tryd.prog.underlying 2).isSome = true := by kernel_rfl
theorem sh3 : shapeOf Tryd.prog 3 = .one := by kernel_rfl
theorem sz3 : szOf Tryd.prog 3 = some 1 := by kernel_rfl
theorem ik3 : intKindOf Tryd.prog 3 = some .i64 := by kernel_rfl
theorem es3 : elemSz Tryd.prog 3 = none := by kernel_rfl
theorem zo3 : zeroOf Tryd.prog 3 = some [.int .i64 0] := by kernel_rfl
theorem us3 : (Tryd.prog.underlying 3).isSome = true := by kernel_rfl
theorem sh4 : shapeOf Tryd.prog 4 = .one := by kernel_rfl
theorem sz4 : szOf Tryd.prog 4 = some 1 := by kernel_rfl
theorem es4 : elemSz Tryd.prog 4 = none := by kernel_rfl
theorem zo4 : zeroOf Tryd.prog 4 = some [.bool false] := by kernel_rfl
theorem bt4 : boolT Tryd.prog 4 = true := by kernel_rfl
theorem sh5 : shapeOf Tryd.prog 5 = .one := by kernel_rfl
theorem sz5 : szOf Tryd.prog 5 = some 1 := by kernel_rfl
theorem ik5 : intKindOf Tryd.prog 5 = some .u8 := by kernel_rfl
theorem es5 : elemSz Tryd.prog 5 = none := by kernel_rfl
theorem zo5 : zeroOf Tryd.prog 5 = some [.int .u8 0] := by kernel_rfl
theorem us5 : (Tryd.prog.underlying 5).isSome = true := by kernel_rfl
theorem sh6 : shapeOf Tryd.prog 6 = .one := by kernel_rfl
theorem sz6 : szOf Tryd.prog 6 = some 1 := by kernel_rfl
theorem ik6 : intKindOf Tryd.prog 6 = some .u8 := by kernel_rfl
theorem es6 : elemSz Tryd.prog 6 = none := by kernel_rfl
theorem zo6 : zeroOf Tryd.prog 6 = some [.int .u8 0] := by kernel_rfl
theorem us6 : (Tryd.prog.underlying 6).isSome = true := by kernel_rfl
theorem sh7 : shapeOf Tryd.prog 7 = .many 4 := by kernel_rfl
theorem sz7 : szOf Tryd.prog 7 = some 4 := by kernel_rfl
theorem es7 : elemSz Tryd.prog 7 = none := by kernel_rfl
theorem fo7_0 : fOff Tryd.prog 7 0 = some 0 := by kernel_rfl
theorem fs7_0 : fSh Tryd.prog 7 0 = some (0, .one) := by kernel_rfl
theorem fo7_1 : fOff Tryd.prog 7 1 = some 1 := by kernel_rfl
theorem fs7_1 : fSh Tryd.prog 7 1 = some (1, .one) := by kernel_rfl
theorem fo7_2 : fOff Tryd.prog 7 2 = some 2 := by kernel_rfl
theorem fs7_2 : fSh Tryd.prog 7 2 = some (2, .one) := by kernel_rfl
theorem fo7_3 : fOff Tryd.prog 7 3 = some 3 := by kernel_rfl
theorem fs7_3 : fSh Tryd.prog 7 3 = some (3, .one) := by kernel_rfl
theorem so7 : aggOf Tryd.prog 7 = some ([.int .i64 0, .int .i64 0, .bool false, .int .u8 0], [(0, 1), (1, 1), (2, 1), (3, 1)]) := by kernel_rfl
theorem zo7 : zeroOf Tryd.prog 7 = some [.int .i64 0, .int .i64 0, .bool false, .int .u8 0] := by kernel_rfl
theorem sh8 : shapeOf Tryd.prog 8 = .many 4 := by kernel_rfl
theorem sz8 : szOf Tryd.prog 8 = some 4 := by kernel_rfl
theorem es8 : elemSz Tryd.prog 8 = none := by kernel_rfl
theorem fo8_0 : fOff Tryd.prog 8 0 = some 0 := by kernel_rfl
theorem fs8_0 : fSh Tryd.prog 8 0 = some (0, .one) := by kernel_rfl
theorem fo8_1 : fOff Tryd.prog 8 1 = some 1 := by kernel_rfl
theorem fs8_1 : fSh Tryd.prog 8 1 = some (1, .one) := by kernel_rfl
theorem fo8_2 : fOff Tryd.prog 8 2 = some 2 := by kernel_rfl
theorem fs8_2 : fSh Tryd.prog 8 2 = some (2, .one) := by kernel_rfl
theorem fo8_3 : fOff Tryd.prog 8 3 = some 3 := by kernel_rfl
theorem fs8_3 : fSh Tryd.prog 8 3 = some (3, .one) := by kernel_rfl
theorem so8 : aggOf Tryd.prog 8 = some ([.int .i64 0, .int .i64 0, .bool false, .int .u8 0], [(0, 1), (1, 1), (2, 1), (3, 1)]) := by kernel_rfl
theorem zo8 : zeroOf Tryd.prog 8 = some [.int .i64 0, .int .i64 0, .bool false, .int .u8 0] := by kernel_rfl
theorem sh9 : shapeOf Tryd.prog 9 = .one := by kernel_rfl
theorem sz9 : szOf Tryd.prog 9 = some 1 := by kernel_rfl
theorem es9 : elemSz Tryd.prog 9 = none := by kernel_rfl
theorem zo9 : zeroOf Tryd.prog 9 = some [.string ⟨#[]⟩] := by kernel_rfl
theorem un9 : Tryd.prog.underlying 9 = some .string := by kernel_rfl
theorem sh10 : shapeOf Tryd.prog 10 = .one := by kernel_rfl
theorem sz10 : szOf Tryd.prog 10 = some 1 := by kernel_rfl
theorem es10 : elemSz Tryd.prog 10 = none := by kernel_rfl
theorem zo10 : zeroOf Tryd.prog 10 = some [.string ⟨#[]⟩] := by kernel_rfl
theorem un10 : Tryd.prog.underlying 10 = some .string := by kernel_rfl
theorem sh11 : shapeOf Tryd.prog 11 = .one := by kernel_rfl
theorem sz11 : szOf Tryd.prog 11 = some 1 := by kernel_rfl
theorem es11 : elemSz Tryd.prog 11 = none := by kernel_rfl
theorem zo11 : zeroOf Tryd.prog 11 = some [.string ⟨#[]⟩] := by kernel_rfl
theorem un11 : Tryd.prog.underlying 11 = some .string := by kernel_rfl
theorem sh12 : shapeOf Tryd.prog 12 = .one := by kernel_rfl
theorem sz12 : szOf Tryd.prog 12 = some 1 := by kernel_rfl
theorem ik12 : intKindOf Tryd.prog 12 = some .u64 := by kernel_rfl
theorem es12 : elemSz Tryd.prog 12 = none := by kernel_rfl
theorem zo12 : zeroOf Tryd.prog 12 = some [.int .u64 0] := by kernel_rfl
theorem us12 : (Tryd.prog.underlying 12).isSome = true := by kernel_rfl
theorem sh13 : shapeOf Tryd.prog 13 = .many 2 := by kernel_rfl
theorem sz13 : szOf Tryd.prog 13 = some 2 := by kernel_rfl
theorem es13 : elemSz Tryd.prog 13 = none := by kernel_rfl
theorem fo13_0 : fOff Tryd.prog 13 0 = some 0 := by kernel_rfl
theorem fs13_0 : fSh Tryd.prog 13 0 = some (0, .one) := by kernel_rfl
theorem fo13_1 : fOff Tryd.prog 13 1 = some 1 := by kernel_rfl
theorem fs13_1 : fSh Tryd.prog 13 1 = some (1, .one) := by kernel_rfl
theorem so13 : aggOf Tryd.prog 13 = some ([.string ⟨#[]⟩, .int .u64 0], [(0, 1), (1, 1)]) := by kernel_rfl
theorem zo13 : zeroOf Tryd.prog 13 = some [.string ⟨#[]⟩, .int .u64 0] := by kernel_rfl
theorem sh14 : shapeOf Tryd.prog 14 = .many 2 := by kernel_rfl
theorem sz14 : szOf Tryd.prog 14 = some 2 := by kernel_rfl
theorem es14 : elemSz Tryd.prog 14 = none := by kernel_rfl
theorem fo14_0 : fOff Tryd.prog 14 0 = some 0 := by kernel_rfl
theorem fs14_0 : fSh Tryd.prog 14 0 = some (0, .one) := by kernel_rfl
theorem fo14_1 : fOff Tryd.prog 14 1 = some 1 := by kernel_rfl
theorem fs14_1 : fSh Tryd.prog 14 1 = some (1, .one) := by kernel_rfl
theorem so14 : aggOf Tryd.prog 14 = some ([.string ⟨#[]⟩, .int .u64 0], [(0, 1), (1, 1)]) := by kernel_rfl
theorem zo14 : zeroOf Tryd.prog 14 = some [.string ⟨#[]⟩, .int .u64 0] := by kernel_rfl
theorem sh15 : shapeOf Tryd.prog 15 = .one := by kernel_rfl
theorem sz15 : szOf Tryd.prog 15 = some 1 := by kernel_rfl
theorem es15 : elemSz Tryd.prog 15 = none := by kernel_rfl
theorem zo15 : zeroOf Tryd.prog 15 = some [.pointer none] := by kernel_rfl
theorem sh16 : shapeOf Tryd.prog 16 = .one := by kernel_rfl
theorem sz16 : szOf Tryd.prog 16 = some 1 := by kernel_rfl
theorem es16 : elemSz Tryd.prog 16 = none := by kernel_rfl
theorem zo16 : zeroOf Tryd.prog 16 = some [.pointer none] := by kernel_rfl
theorem sh17 : shapeOf Tryd.prog 17 = .one := by kernel_rfl
theorem sz17 : szOf Tryd.prog 17 = some 1 := by kernel_rfl
theorem es17 : elemSz Tryd.prog 17 = none := by kernel_rfl
theorem zo17 : zeroOf Tryd.prog 17 = some [.pointer none] := by kernel_rfl
theorem sh18 : shapeOf Tryd.prog 18 = .many 1 := by kernel_rfl
theorem sz18 : szOf Tryd.prog 18 = some 1 := by kernel_rfl
theorem es18 : elemSz Tryd.prog 18 = none := by kernel_rfl
theorem fo18_0 : fOff Tryd.prog 18 0 = some 0 := by kernel_rfl
theorem fs18_0 : fSh Tryd.prog 18 0 = some (0, .one) := by kernel_rfl
theorem so18 : aggOf Tryd.prog 18 = some ([.pointer none], [(0, 1)]) := by kernel_rfl
theorem zo18 : zeroOf Tryd.prog 18 = some [.pointer none] := by kernel_rfl
theorem sh19 : shapeOf Tryd.prog 19 = .many 1 := by kernel_rfl
theorem sz19 : szOf Tryd.prog 19 = some 1 := by kernel_rfl
theorem es19 : elemSz Tryd.prog 19 = none := by kernel_rfl
theorem fo19_0 : fOff Tryd.prog 19 0 = some 0 := by kernel_rfl
theorem fs19_0 : fSh Tryd.prog 19 0 = some (0, .one) := by kernel_rfl
theorem so19 : aggOf Tryd.prog 19 = some ([.pointer none], [(0, 1)]) := by kernel_rfl
theorem zo19 : zeroOf Tryd.prog 19 = some [.pointer none] := by kernel_rfl
theorem sh21 : shapeOf Tryd.prog 21 = .one := by kernel_rfl
theorem sz21 : szOf Tryd.prog 21 = some 1 := by kernel_rfl
theorem ik21 : intKindOf Tryd.prog 21 = some .i32 := by kernel_rfl
theorem es21 : elemSz Tryd.prog 21 = none := by kernel_rfl
theorem zo21 : zeroOf Tryd.prog 21 = some [.int .i32 0] := by kernel_rfl
theorem us21 : (Tryd.prog.underlying 21).isSome = true := by kernel_rfl
theorem sh22 : shapeOf Tryd.prog 22 = .one := by kernel_rfl
theorem sz22 : szOf Tryd.prog 22 = some 1 := by kernel_rfl
theorem es22 : elemSz Tryd.prog 22 = some 1 := by kernel_rfl
theorem sl22 : sliceOf Tryd.prog 22 = some (21, 1, 4, [.int .i32 0]) := by kernel_rfl
theorem zo22 : zeroOf Tryd.prog 22 = some [.slice none 0 0] := by kernel_rfl
theorem sh23 : shapeOf Tryd.prog 23 = .many 2 := by kernel_rfl
theorem sz23 : szOf Tryd.prog 23 = some 2 := by kernel_rfl
theorem es23 : elemSz Tryd.prog 23 = none := by kernel_rfl
theorem fo23_0 : fOff Tryd.prog 23 0 = some 0 := by kernel_rfl
theorem fs23_0 : fSh Tryd.prog 23 0 = some (0, .one) := by kernel_rfl
theorem fo23_1 : fOff Tryd.prog 23 1 = some 1 := by kernel_rfl
theorem fs23_1 : fSh Tryd.prog 23 1 = some (1, .one) := by kernel_rfl
theorem so23 : aggOf Tryd.prog 23 = some ([.int .i64 0, .int .i64 0], [(0, 1), (1, 1)]) := by kernel_rfl
theorem zo23 : zeroOf Tryd.prog 23 = some [.int .i64 0, .int .i64 0] := by kernel_rfl
theorem eq23 : eqInts Tryd.prog 23 = some 2 := by kernel_rfl
theorem sh24 : shapeOf Tryd.prog 24 = .many 2 := by kernel_rfl
theorem sz24 : szOf Tryd.prog 24 = some 2 := by kernel_rfl
theorem es24 : elemSz Tryd.prog 24 = none := by kernel_rfl
theorem fo24_0 : fOff Tryd.prog 24 0 = some 0 := by kernel_rfl
theorem fs24_0 : fSh Tryd.prog 24 0 = some (0, .one) := by kernel_rfl
theorem fo24_1 : fOff Tryd.prog 24 1 = some 1 := by kernel_rfl
theorem fs24_1 : fSh Tryd.prog 24 1 = some (1, .one) := by kernel_rfl
theorem so24 : aggOf Tryd.prog 24 = some ([.int .i64 0, .int .i64 0], [(0, 1), (1, 1)]) := by kernel_rfl
theorem zo24 : zeroOf Tryd.prog 24 = some [.int .i64 0, .int .i64 0] := by kernel_rfl
theorem eq24 : eqInts Tryd.prog 24 = some 2 := by kernel_rfl
theorem sh26 : shapeOf Tryd.prog 26 = .one := by kernel_rfl
theorem sz26 : szOf Tryd.prog 26 = some 1 := by kernel_rfl
theorem es26 : elemSz Tryd.prog 26 = some 3 := by kernel_rfl
theorem sl26 : sliceOf Tryd.prog 26 = some (88, 3, 24, [.int .i64 0, .int .i64 0, .int .i64 0]) := by kernel_rfl
theorem zo26 : zeroOf Tryd.prog 26 = some [.slice none 0 0] := by kernel_rfl
theorem sh27 : shapeOf Tryd.prog 27 = .one := by kernel_rfl
theorem sz27 : szOf Tryd.prog 27 = some 1 := by kernel_rfl
theorem es27 : elemSz Tryd.prog 27 = some 2 := by kernel_rfl
theorem sl27 : sliceOf Tryd.prog 27 = some (90, 2, 16, [.int .i64 0, .int .i64 0]) := by kernel_rfl
theorem zo27 : zeroOf Tryd.prog 27 = some [.slice none 0 0] := by kernel_rfl
theorem sh28 : shapeOf Tryd.prog 28 = .many 8 := by kernel_rfl
theorem sz28 : szOf Tryd.prog 28 = some 8 := by kernel_rfl
theorem es28 : elemSz Tryd.prog 28 = none := by kernel_rfl
theorem fo28_0 : fOff Tryd.prog 28 0 = some 0 := by kernel_rfl
theorem fs28_0 : fSh Tryd.prog 28 0 = some (0, .one) := by kernel_rfl
theorem fo28_1 : fOff Tryd.prog 28 1 = some 1 := by kernel_rfl
theorem fs28_1 : fSh Tryd.prog 28 1 = some (1, .one) := by kernel_rfl
theorem fo28_2 : fOff Tryd.prog 28 2 = some 2 := by kernel_rfl
theorem fs28_2 : fSh Tryd.prog 28 2 = some (2, .one) := by kernel_rfl
theorem fo28_3 : fOff Tryd.prog 28 3 = some 3 := by kernel_rfl
theorem fs28_3 : fSh Tryd.prog 28 3 = some (3, .one) := by kernel_rfl
theorem fo28_4 : fOff Tryd.prog 28 4 = some 4 := by kernel_rfl
theorem fs28_4 : fSh Tryd.prog 28 4 = some (4, .one) := by kernel_rfl
theorem fo28_5 : fOff Tryd.prog 28 5 = some 5 := by kernel_rfl
theorem fs28_5 : fSh Tryd.prog 28 5 = some (5, .one) := by kernel_rfl
theorem fo28_6 : fOff Tryd.prog 28 6 = some 6 := by kernel_rfl
theorem fs28_6 : fSh Tryd.prog 28 6 = some (6, .one) := by kernel_rfl
theorem fo28_7 : fOff Tryd.prog 28 7 = some 7 := by kernel_rfl
theorem fs28_7 : fSh Tryd.prog 28 7 = some (7, .one) := by kernel_rfl
theorem so28 : aggOf Tryd.prog 28 = some ([.slice none 0 0, .slice none 0 0, .slice none 0 0, .int .i64 0, .int .i64 0, .int .i64 0, .int .i64 0, .bool false], [(0, 1), (1, 1), (2, 1), (3, 1), (4, 1), (5, 1), (6, 1), (7, 1)]) := by kernel_rfl
theorem zo28 : zeroOf Tryd.prog 28 = some [.slice none 0 0, .slice none 0 0, .slice none 0 0, .int .i64 0, .int .i64 0, .int .i64 0, .int .i64 0, .bool false] := by kernel_rfl
theorem sh29 : shapeOf Tryd.prog 29 = .many 8 := by kernel_rfl
theorem sz29 : szOf Tryd.prog 29 = some 8 := by kernel_rfl
theorem es29 : elemSz Tryd.prog 29 = none := by kernel_rfl
theorem fo29_0 : fOff Tryd.prog 29 0 = some 0 := by kernel_rfl
theorem fs29_0 : fSh Tryd.prog 29 0 = some (0, .one) := by kernel_rfl
theorem fo29_1 : fOff Tryd.prog 29 1 = some 1 := by kernel_rfl
theorem fs29_1 : fSh Tryd.prog 29 1 = some (1, .one) := by kernel_rfl
theorem fo29_2 : fOff Tryd.prog 29 2 = some 2 := by kernel_rfl
theorem fs29_2 : fSh Tryd.prog 29 2 = some (2, .one) := by kernel_rfl
theorem fo29_3 : fOff Tryd.prog 29 3 = some 3 := by kernel_rfl
theorem fs29_3 : fSh Tryd.prog 29 3 = some (3, .one) := by kernel_rfl
theorem fo29_4 : fOff Tryd.prog 29 4 = some 4 := by kernel_rfl
theorem fs29_4 : fSh Tryd.prog 29 4 = some (4, .one) := by kernel_rfl
theorem fo29_5 : fOff Tryd.prog 29 5 = some 5 := by kernel_rfl
theorem fs29_5 : fSh Tryd.prog 29 5 = some (5, .one) := by kernel_rfl
theorem fo29_6 : fOff Tryd.prog 29 6 = some 6 := by kernel_rfl
theorem fs29_6 : fSh Tryd.prog 29 6 = some (6, .one) := by kernel_rfl
theorem fo29_7 : fOff Tryd.prog 29 7 = some 7 := by kernel_rfl
theorem fs29_7 : fSh Tryd.prog 29 7 = some (7, .one) := by kernel_rfl
theorem so29 : aggOf Tryd.prog 29 = some ([.slice none 0 0, .slice none 0 0, .slice none 0 0, .int .i64 0, .int .i64 0, .int .i64 0, .int .i64 0, .bool false], [(0, 1), (1, 1), (2, 1), (3, 1), (4, 1), (5, 1), (6, 1), (7, 1)]) := by kernel_rfl
theorem zo29 : zeroOf Tryd.prog 29 = some [.slice none 0 0, .slice none 0 0, .slice none 0 0, .int .i64 0, .int .i64 0, .int .i64 0, .int .i64 0, .bool false] := by kernel_rfl
theorem sh32 : shapeOf Tryd.prog 32 = .one := by kernel_rfl
theorem sz32 : szOf Tryd.prog 32 = some 1 := by kernel_rfl
theorem es32 : elemSz Tryd.prog 32 = some 2 := by kernel_rfl
theorem sl32 : sliceOf Tryd.prog 32 = some (24, 2, 16, [.int .i64 0, .int .i64 0]) := by kernel_rfl
theorem zo32 : zeroOf Tryd.prog 32 = some [.slice none 0 0] := by kernel_rfl
theorem sh34 : shapeOf Tryd.prog 34 = .one := by kernel_rfl
theorem sz34 : szOf Tryd.prog 34 = some 1 := by kernel_rfl
theorem es34 : elemSz Tryd.prog 34 = some 1 := by kernel_rfl
theorem sl34 : sliceOf Tryd.prog 34 = some (3, 1, 8, [.int .i64 0]) := by kernel_rfl
theorem zo34 : zeroOf Tryd.prog 34 = some [.slice none 0 0] := by kernel_rfl
theorem sh38 : shapeOf Tryd.prog 38 = .many 2 := by kernel_rfl
theorem sz38 : szOf Tryd.prog 38 = some 2 := by kernel_rfl
theorem es38 : elemSz Tryd.prog 38 = none := by kernel_rfl
theorem fo38_0 : fOff Tryd.prog 38 0 = some 0 := by kernel_rfl
theorem fs38_0 : fSh Tryd.prog 38 0 = some (0, .one) := by kernel_rfl
theorem fo38_1 : fOff Tryd.prog 38 1 = some 1 := by kernel_rfl
theorem fs38_1 : fSh Tryd.prog 38 1 = some (1, .one) := by kernel_rfl
theorem so38 : aggOf Tryd.prog 38 = some ([.slice none 0 0, .slice none 0 0], [(0, 1), (1, 1)]) := by kernel_rfl
theorem zo38 : zeroOf Tryd.prog 38 = some [.slice none 0 0, .slice none 0 0] := by kernel_rfl
theorem sh39 : shapeOf Tryd.prog 39 = .many 2 := by kernel_rfl
theorem sz39 : szOf Tryd.prog 39 = some 2 := by kernel_rfl
theorem es39 : elemSz Tryd.prog 39 = none := by kernel_rfl
theorem fo39_0 : fOff Tryd.prog 39 0 = some 0 := by kernel_rfl
theorem fs39_0 : fSh Tryd.prog 39 0 = some (0, .one) := by kernel_rfl
theorem fo39_1 : fOff Tryd.prog 39 1 = some 1 := by kernel_rfl
theorem fs39_1 : fSh Tryd.prog 39 1 = some (1, .one) := by kernel_rfl
theorem so39 : aggOf Tryd.prog 39 = some ([.slice none 0 0, .slice none 0 0], [(0, 1), (1, 1)]) := by kernel_rfl
theorem zo39 : zeroOf Tryd.prog 39 = some [.slice none 0 0, .slice none 0 0] := by kernel_rfl
theorem sh42 : shapeOf Tryd.prog 42 = .one := by kernel_rfl
theorem sz42 : szOf Tryd.prog 42 = some 1 := by kernel_rfl
theorem ik42 : intKindOf Tryd.prog 42 = some .u64 := by kernel_rfl
theorem es42 : elemSz Tryd.prog 42 = none := by kernel_rfl
theorem zo42 : zeroOf Tryd.prog 42 = some [.int .u64 0] := by kernel_rfl
theorem us42 : (Tryd.prog.underlying 42).isSome = true := by kernel_rfl
theorem sh49 : shapeOf Tryd.prog 49 = .many 9 := by kernel_rfl
theorem sz49 : szOf Tryd.prog 49 = some 9 := by kernel_rfl
theorem es49 : elemSz Tryd.prog 49 = none := by kernel_rfl
theorem fo49_0 : fOff Tryd.prog 49 0 = some 0 := by kernel_rfl
theorem fs49_0 : fSh Tryd.prog 49 0 = some (0, .one) := by kernel_rfl
theorem fo49_1 : fOff Tryd.prog 49 1 = some 1 := by kernel_rfl
theorem fs49_1 : fSh Tryd.prog 49 1 = some (1, .one) := by kernel_rfl
theorem fo49_2 : fOff Tryd.prog 49 2 = some 2 := by kernel_rfl
theorem fs49_2 : fSh Tryd.prog 49 2 = some (2, .one) := by kernel_rfl
theorem fo49_3 : fOff Tryd.prog 49 3 = some 3 := by kernel_rfl
theorem fs49_3 : fSh Tryd.prog 49 3 = some (3, .one) := by kernel_rfl
theorem fo49_4 : fOff Tryd.prog 49 4 = some 4 := by kernel_rfl
theorem fs49_4 : fSh Tryd.prog 49 4 = some (4, .one) := by kernel_rfl
theorem fo49_5 : fOff Tryd.prog 49 5 = some 5 := by kernel_rfl
theorem fs49_5 : fSh Tryd.prog 49 5 = some (5, .one) := by kernel_rfl
theorem fo49_6 : fOff Tryd.prog 49 6 = some 6 := by kernel_rfl
theorem fs49_6 : fSh Tryd.prog 49 6 = some (6, .one) := by kernel_rfl
theorem fo49_7 : fOff Tryd.prog 49 7 = some 7 := by kernel_rfl
theorem fs49_7 : fSh Tryd.prog 49 7 = some (7, .one) := by kernel_rfl
theorem fo49_8 : fOff Tryd.prog 49 8 = some 8 := by kernel_rfl
theorem fs49_8 : fSh Tryd.prog 49 8 = some (8, .one) := by kernel_rfl
theorem so49 : aggOf Tryd.prog 49 = some ([.int .i64 0, .int .i64 0, .int .i64 0, .int .i64 0, .int .i64 0, .int .i64 0, .int .i32 0, .int .i32 0, .bool false], [(0, 1), (1, 1), (2, 1), (3, 1), (4, 1), (5, 1), (6, 1), (7, 1), (8, 1)]) := by kernel_rfl
theorem zo49 : zeroOf Tryd.prog 49 = some [.int .i64 0, .int .i64 0, .int .i64 0, .int .i64 0, .int .i64 0, .int .i64 0, .int .i32 0, .int .i32 0, .bool false] := by kernel_rfl
theorem sh50 : shapeOf Tryd.prog 50 = .many 9 := by kernel_rfl
theorem sz50 : szOf Tryd.prog 50 = some 9 := by kernel_rfl
theorem es50 : elemSz Tryd.prog 50 = none := by kernel_rfl
theorem fo50_0 : fOff Tryd.prog 50 0 = some 0 := by kernel_rfl
theorem fs50_0 : fSh Tryd.prog 50 0 = some (0, .one) := by kernel_rfl
theorem fo50_1 : fOff Tryd.prog 50 1 = some 1 := by kernel_rfl
theorem fs50_1 : fSh Tryd.prog 50 1 = some (1, .one) := by kernel_rfl
theorem fo50_2 : fOff Tryd.prog 50 2 = some 2 := by kernel_rfl
theorem fs50_2 : fSh Tryd.prog 50 2 = some (2, .one) := by kernel_rfl
theorem fo50_3 : fOff Tryd.prog 50 3 = some 3 := by kernel_rfl
theorem fs50_3 : fSh Tryd.prog 50 3 = some (3, .one) := by kernel_rfl
theorem fo50_4 : fOff Tryd.prog 50 4 = some 4 := by kernel_rfl
theorem fs50_4 : fSh Tryd.prog 50 4 = some (4, .one) := by kernel_rfl
theorem fo50_5 : fOff Tryd.prog 50 5 = some 5 := by kernel_rfl
theorem fs50_5 : fSh Tryd.prog 50 5 = some (5, .one) := by kernel_rfl
theorem fo50_6 : fOff Tryd.prog 50 6 = some 6 := by kernel_rfl
theorem fs50_6 : fSh Tryd.prog 50 6 = some (6, .one) := by kernel_rfl
theorem fo50_7 : fOff Tryd.prog 50 7 = some 7 := by kernel_rfl
theorem fs50_7 : fSh Tryd.prog 50 7 = some (7, .one) := by kernel_rfl
theorem fo50_8 : fOff Tryd.prog 50 8 = some 8 := by kernel_rfl
theorem fs50_8 : fSh Tryd.prog 50 8 = some (8, .one) := by kernel_rfl
theorem so50 : aggOf Tryd.prog 50 = some ([.int .i64 0, .int .i64 0, .int .i64 0, .int .i64 0, .int .i64 0, .int .i64 0, .int .i32 0, .int .i32 0, .bool false], [(0, 1), (1, 1), (2, 1), (3, 1), (4, 1), (5, 1), (6, 1), (7, 1), (8, 1)]) := by kernel_rfl
theorem zo50 : zeroOf Tryd.prog 50 = some [.int .i64 0, .int .i64 0, .int .i64 0, .int .i64 0, .int .i64 0, .int .i64 0, .int .i32 0, .int .i32 0, .bool false] := by kernel_rfl
theorem sh56 : shapeOf Tryd.prog 56 = .many 11 := by kernel_rfl
theorem sz56 : szOf Tryd.prog 56 = some 11 := by kernel_rfl
theorem es56 : elemSz Tryd.prog 56 = none := by kernel_rfl
theorem fo56_0 : fOff Tryd.prog 56 0 = some 0 := by kernel_rfl
theorem fs56_0 : fSh Tryd.prog 56 0 = some (0, .one) := by kernel_rfl
theorem fo56_1 : fOff Tryd.prog 56 1 = some 1 := by kernel_rfl
theorem fs56_1 : fSh Tryd.prog 56 1 = some (1, .one) := by kernel_rfl
theorem fo56_2 : fOff Tryd.prog 56 2 = some 2 := by kernel_rfl
theorem fs56_2 : fSh Tryd.prog 56 2 = some (2, .many 9) := by kernel_rfl
theorem so56 : aggOf Tryd.prog 56 = some ([.int .i32 0, .int .i32 0, .int .i64 0, .int .i64 0, .int .i64 0, .int .i64 0, .int .i64 0, .int .i64 0, .int .i32 0, .int .i32 0, .bool false], [(0, 1), (1, 1), (2, 9)]) := by kernel_rfl
theorem zo56 : zeroOf Tryd.prog 56 = some [.int .i32 0, .int .i32 0, .int .i64 0, .int .i64 0, .int .i64 0, .int .i64 0, .int .i64 0, .int .i64 0, .int .i32 0, .int .i32 0, .bool false] := by kernel_rfl
theorem sh57 : shapeOf Tryd.prog 57 = .many 11 := by kernel_rfl
theorem sz57 : szOf Tryd.prog 57 = some 11 := by kernel_rfl
theorem es57 : elemSz Tryd.prog 57 = none := by kernel_rfl
theorem fo57_0 : fOff Tryd.prog 57 0 = some 0 := by kernel_rfl
theorem fs57_0 : fSh Tryd.prog 57 0 = some (0, .one) := by kernel_rfl
theorem fo57_1 : fOff Tryd.prog 57 1 = some 1 := by kernel_rfl
theorem fs57_1 : fSh Tryd.prog 57 1 = some (1, .one) := by kernel_rfl
theorem fo57_2 : fOff Tryd.prog 57 2 = some 2 := by kernel_rfl
theorem fs57_2 : fSh Tryd.prog 57 2 = some (2, .many 9) := by kernel_rfl
theorem so57 : aggOf Tryd.prog 57 = some ([.int .i32 0, .int .i32 0, .int .i64 0, .int .i64 0, .int .i64 0, .int .i64 0, .int .i64 0, .int .i64 0, .int .i32 0, .int .i32 0, .bool false], [(0, 1), (1, 1), (2, 9)]) := by kernel_rfl
theorem zo57 : zeroOf Tryd.prog 57 = some [.int .i32 0, .int .i32 0, .int .i64 0, .int .i64 0, .int .i64 0, .int .i64 0, .int .i64 0, .int .i64 0, .int .i32 0, .int .i32 0, .bool false] := by kernel_rfl
theorem sh63 : shapeOf Tryd.prog 63 = .many 13 := by kernel_rfl
theorem sz63 : szOf Tryd.prog 63 = some 13 := by kernel_rfl
theorem es63 : elemSz Tryd.prog 63 = none := by kernel_rfl
theorem ar63 : arrOf Tryd.prog 63 = some (13, 1) := by kernel_rfl
theorem so63 : aggOf Tryd.prog 63 = some ([.int .i32 0, .int .i32 0, .int .i32 0, .int .i32 0, .int .i32 0, .int .i32 0, .int .i32 0, .int .i32 0, .int .i32 0, .int .i32 0, .int .i32 0, .int .i32 0, .int .i32 0], [(0, 1), (1, 1), (2, 1), (3, 1), (4, 1), (5, 1), (6, 1), (7, 1), (8, 1), (9, 1), (10, 1), (11, 1), (12, 1)]) := by kernel_rfl
theorem zo63 : zeroOf Tryd.prog 63 = some [.int .i32 0, .int .i32 0, .int .i32 0, .int .i32 0, .int .i32 0, .int .i32 0, .int .i32 0, .int .i32 0, .int .i32 0, .int .i32 0, .int .i32 0, .int .i32 0, .int .i32 0] := by kernel_rfl
theorem sh64 : shapeOf Tryd.prog 64 = .many 220 := by kernel_rfl
theorem sz64 : szOf Tryd.prog 64 = some 220 := by kernel_rfl
theorem es64 : elemSz Tryd.prog 64 = none := by kernel_rfl
theorem ar64 : arrOf Tryd.prog 64 = some (20, 11) := by kernel_rfl
theorem so64 : aggOf Tryd.prog 64 = some ([.int .i32 0, .int .i32 0, .int .i64 0, .int .i64 0, .int .i64 0, .int .i64 0, .int .i64 0, .int .i64 0, .int .i32 0, .int .i32 0, .bool false, .int .i32 0, .int .i32 0, .int .i64 0, .int .i64 0, .int .i64 0, .int .i64 0, .int .i64 0, .int .i64 0, .int .i32 0, .int .i32 0, .bool false, .int .i32 0, .int .i32 0, .int .i64 0, .int .i64 0, .int .i64 0, .int .i64 0, .int .i64 0, .int .i64 0, .int .i32 0, .int .i32 0, .bool false, .int .i32 0, .int .i32 0, .int .i64 0, .int .i64 0, .int .i64 0, .int .i64 0, .int .i64 0, .int .i64 0, .int .i32 0, .int .i32 0, .bool false, .int .i32 0, .int .i32 0, .int .i64 0, .int .i64 0, .int .i64 0, .int .i64 0, .int .i64 0, .int .i64 0, .int .i32 0, .int .i32 0, .bool false, .int .i32 0, .int .i32 0, .int .i64 0, .int .i64 0, .int .i64 0, .int .i64 0, .int .i64 0, .int .i64 0, .int .i32 0, .int .i32 0, .bool false, .int .i32 0, .int .i32 0, .int .i64 0, .int .i64 0, .int .i64 0, .int .i64 0, .int .i64 0, .int .i64 0, .int .i32 0, .int .i32 0, .bool false, .int .i32 0, .int .i32 0, .int .i64 0, .int .i64 0, .int .i64 0, .int .i64 0, .int .i64 0, .int .i64 0, .int .i32 0, .int .i32 0, .bool false, .int .i32 0, .int .i32 0, .int .i64 0, .int .i64 0, .int .i64 0, .int .i64 0, .int .i64 0, .int .i64 0, .int .i32 0, .int .i32 0, .bool false, .int .i32 0, .int .i32 0, .int .i64 0, .int .i64 0, .int .i64 0, .int .i64 0, .int .i64 0, .int .i64 0, .int .i32 0, .int .i32 0, .bool false, .int .i32 0, .int .i32 0, .int .i64 0, .int .i64 0, .int .i64 0, .int .i64 0, .int .i64 0, .int .i64 0, .int .i32 0, .int .i32 0, .bool false, .int .i32 0, .int .i32 0, .int .i64 0, .int .i64 0, .int .i64 0, .int .i64 0, .int .i64 0, .int .i64 0, .int .i32 0, .int .i32 0, .bool false, .int .i32 0, .int .i32 0, .int .i64 0, .int .i64 0, .int .i64 0, .int .i64 0, .int .i64 0, .int .i64 0, .int .i32 0, .int .i32 0, .bool false, .int .i32 0, .int .i32 0, .int .i64 0, .int .i64 0, .int .i64 0, .int .i64 0, .int .i64 0, .int .i64 0, .int .i32 0, .int .i32 0, .bool false, .int .i32 0, .int .i32 0, .int .i64 0, .int .i64 0, .int .i64 0, .int .i64 0, .int .i64 0, .int .i64 0, .int .i32 0, .int .i32 0, .bool false, .int .i32 0, .int .i32 0, .int .i64 0, .int .i64 0, .int .i64 0, .int .i64 0, .int .i64 0, .int .i64 0, .int .i32 0, .int .i32 0, .bool false, .int .i32 0, .int .i32 0, .int .i64 0, .int .i64 0, .int .i64 0, .int .i64 0, .int .i64 0, .int .i64 0, .int .i32 0, .int .i32 0, .bool false, .int .i32 0, .int .i32 0, .int .i64 0, .int .i64 0, .int .i64 0, .int .i64 0, .int .i64 0, .int .i64 0, .int .i32 0, .int .i32 0, .bool false, .int .i32 0, .int .i32 0, .int .i64 0, .int .i64 0, .int .i64 0, .int .i64 0, .int .i64 0, .int .i64 0, .int .i32 0, .int .i32 0, .bool false, .int .i32 0, .int .i32 0, .int .i64 0, .int .i64 0, .int .i64 0, .int .i64 0, .int .i64 0, .int .i64 0, .int .i32 0, .int .i32 0, .bool false], [(0, 11), (11, 11), (22, 11), (33, 11), (44, 11), (55, 11), (66, 11), (77, 11), (88, 11), (99, 11), (110, 11), (121, 11), (132, 11), (143, 11), (154, 11), (165, 11), (176, 11), (187, 11), (198, 11), (209, 11)]) := by kernel_rfl
theorem zo64 : zeroOf Tryd.prog 64 = some [.int .i32 0, .int .i32 0, .int .i64 0, .int .i64 0, .int .i64 0, .int .i64 0, .int .i64 0, .int .i64 0, .int .i32 0, .int .i32 0, .bool false, .int .i32 0, .int .i32 0, .int .i64 0, .int .i64 0, .int .i64 0, .int .i64 0, .int .i64 0, .int .i64 0, .int .i32 0, .int .i32 0, .bool false, .int .i32 0, .int .i32 0, .int .i64 0, .int .i64 0, .int .i64 0, .int .i64 0, .int .i64 0, .int .i64 0, .int .i32 0, .int .i32 0, .bool false, .int .i32 0, .int .i32 0, .int .i64 0, .int .i64 0, .int .i64 0, .int .i64 0, .int .i64 0, .int .i64 0, .int .i32 0, .int .i32 0, .bool false, .int .i32 0, .int .i32 0, .int .i64 0, .int .i64 0, .int .i64 0, .int .i64 0, .int .i64 0, .int .i64 0, .int .i32 0, .int .i32 0, .bool false, .int .i32 0, .int .i32 0, .int .i64 0, .int .i64 0, .int .i64 0, .int .i64 0, .int .i64 0, .int .i64 0, .int .i32 0, .int .i32 0, .bool false, .int .i32 0, .int .i32 0, .int .i64 0, .int .i64 0, .int .i64 0, .int .i64 0, .int .i64 0, .int .i64 0, .int .i32 0, .int .i32 0, .bool false, .int .i32 0, .int .i32 0, .int .i64 0, .int .i64 0, .int .i64 0, .int .i64 0, .int .i64 0, .int .i64 0, .int .i32 0, .int .i32 0, .bool false, .int .i32 0, .int .i32 0, .int .i64 0, .int .i64 0, .int .i64 0, .int .i64 0, .int .i64 0, .int .i64 0, .int .i32 0, .int .i32 0, .bool false, .int .i32 0, .int .i32 0, .int .i64 0, .int .i64 0, .int .i64 0, .int .i64 0, .int .i64 0, .int .i64 0, .int .i32 0, .int .i32 0, .bool false, .int .i32 0, .int .i32 0, .int .i64 0, .int .i64 0, .int .i64 0, .int .i64 0, .int .i64 0, .int .i64 0, .int .i32 0, .int .i32 0, .bool false, .int .i32 0, .int .i32 0, .int .i64 0, .int .i64 0, .int .i64 0, .int .i64 0, .int .i64 0, .int .i64 0, .int .i32 0, .int .i32 0, .bool false, .int .i32 0, .int .i32 0, .int .i64 0, .int .i64 0, .int .i64 0, .int .i64 0, .int .i64 0, .int .i64 0, .int .i32 0, .int .i32 0, .bool false, .int .i32 0, .int .i32 0, .int .i64 0, .int .i64 0, .int .i64 0, .int .i64 0, .int .i64 0, .int .i64 0, .int .i32 0, .int .i32 0, .bool false, .int .i32 0, .int .i32 0, .int .i64 0, .int .i64 0, .int .i64 0, .int .i64 0, .int .i64 0, .int .i64 0, .int .i32 0, .int .i32 0, .bool false, .int .i32 0, .int .i32 0, .int .i64 0, .int .i64 0, .int .i64 0, .int .i64 0, .int .i64 0, .int .i64 0, .int .i32 0, .int .i32 0, .bool false, .int .i32 0, .int .i32 0, .int .i64 0, .int .i64 0, .int .i64 0, .int .i64 0, .int .i64 0, .int .i64 0, .int .i32 0, .int .i32 0, .bool false, .int .i32 0, .int .i32 0, .int .i64 0, .int .i64 0, .int .i64 0, .int .i64 0, .int .i64 0, .int .i64 0, .int .i32 0, .int .i32 0, .bool false, .int .i32 0, .int .i32 0, .int .i64 0, .int .i64 0, .int .i64 0, .int .i64 0, .int .i64 0, .int .i64 0, .int .i32 0, .int .i32 0, .bool false, .int .i32 0, .int .i32 0, .int .i64 0, .int .i64 0, .int .i64 0, .int .i64 0, .int .i64 0, .int .i64 0, .int .i32 0, .int .i32 0, .bool false] := by kernel_rfl
theorem sh65 : shapeOf Tryd.prog 65 = .many 220 := by kernel_rfl
theorem sz65 : szOf Tryd.prog 65 = some 220 := by kernel_rfl
theorem es65 : elemSz Tryd.prog 65 = none := by kernel_rfl
theorem ar65 : arrOf Tryd.prog 65 = some (20, 11) := by kernel_rfl
theorem so65 : aggOf Tryd.prog 65 = some ([.int .i32 0, .int .i32 0, .int .i64 0, .int .i64 0, .int .i64 0, .int .i64 0, .int .i64 0, .int .i64 0, .int .i32 0, .int .i32 0, .bool false, .int .i32 0, .int .i32 0, .int .i64 0, .int .i64 0, .int .i64 0, .int .i64 0, .int .i64 0, .int .i64 0, .int .i32 0, .int .i32 0, .bool false, .int .i32 0, .int .i32 0, .int .i64 0, .int .i64 0, .int .i64 0, .int .i64 0, .int .i64 0, .int .i64 0, .int .i32 0, .int .i32 0, .bool false, .int .i32 0, .int .i32 0, .int .i64 0, .int .i64 0, .int .i64 0, .int .i64 0, .int .i64 0, .int .i64 0, .int .i32 0, .int .i32 0, .bool false, .int .i32 0, .int .i32 0, .int .i64 0, .int .i64 0, .int .i64 0, .int .i64 0, .int .i64 0, .int .i64 0, .int .i32 0, .int .i32 0, .bool false, .int .i32 0, .int .i32 0, .int .i64 0, .int .i64 0, .int .i64 0, .int .i64 0, .int .i64 0, .int .i64 0, .int .i32 0, .int .i32 0, .bool false, .int .i32 0, .int .i32 0, .int .i64 0, .int .i64 0, .int .i64 0, .int .i64 0, .int .i64 0, .int .i64 0, .int .i32 0, .int .i32 0, .bool false, .int .i32 0, .int .i32 0, .int .i64 0, .int .i64 0, .int .i64 0, .int .i64 0, .int .i64 0, .int .i64 0, .int .i32 0, .int .i32 0, .bool false, .int .i32 0, .int .i32 0, .int .i64 0, .int .i64 0, .int .i64 0, .int .i64 0, .int .i64 0, .int .i64 0, .int .i32 0, .int .i32 0, .bool false, .int .i32 0, .int .i32 0, .int .i64 0, .int .i64 0, .int .i64 0, .int .i64 0, .int .i64 0, .int .i64 0, .int .i32 0, .int .i32 0, .bool false, .int .i32 0, .int .i32 0, .int .i64 0, .int .i64 0, .int .i64 0, .int .i64 0, .int .i64 0, .int .i64 0, .int .i32 0, .int .i32 0, .bool false, .int .i32 0, .int .i32 0, .int .i64 0, .int .i64 0, .int .i64 0, .int .i64 0, .int .i64 0, .int .i64 0, .int .i32 0, .int .i32 0, .bool false, .int .i32 0, .int .i32 0, .int .i64 0, .int .i64 0, .int .i64 0, .int .i64 0, .int .i64 0, .int .i64 0, .int .i32 0, .int .i32 0, .bool false, .int .i32 0, .int .i32 0, .int .i64 0, .int .i64 0, .int .i64 0, .int .i64 0, .int .i64 0, .int .i64 0, .int .i32 0, .int .i32 0, .bool false, .int .i32 0, .int .i32 0, .int .i64 0, .int .i64 0, .int .i64 0, .int .i64 0, .int .i64 0, .int .i64 0, .int .i32 0, .int .i32 0, .bool false, .int .i32 0, .int .i32 0, .int .i64 0, .int .i64 0, .int .i64 0, .int .i64 0, .int .i64 0, .int .i64 0, .int .i32 0, .int .i32 0, .bool false, .int .i32 0, .int .i32 0, .int .i64 0, .int .i64 0, .int .i64 0, .int .i64 0, .int .i64 0, .int .i64 0, .int .i32 0, .int .i32 0, .bool false, .int .i32 0, .int .i32 0, .int .i64 0, .int .i64 0, .int .i64 0, .int .i64 0, .int .i64 0, .int .i64 0, .int .i32 0, .int .i32 0, .bool false, .int .i32 0, .int .i32 0, .int .i64 0, .int .i64 0, .int .i64 0, .int .i64 0, .int .i64 0, .int .i64 0, .int .i32 0, .int .i32 0, .bool false, .int .i32 0, .int .i32 0, .int .i64 0, .int .i64 0, .int .i64 0, .int .i64 0, .int .i64 0, .int .i64 0, .int .i32 0, .int .i32 0, .bool false], [(0, 11), (11, 11), (22, 11), (33, 11), (44, 11), (55, 11), (66, 11), (77, 11), (88, 11), (99, 11), (110, 11), (121, 11), (132, 11), (143, 11), (154, 11), (165, 11), (176, 11), (187, 11), (198, 11), (209, 11)]) := by kernel_rfl
theorem zo65 : zeroOf Tryd.prog 65 = some [.int .i32 0, .int .i32 0, .int .i64 0, .int .i64 0, .int .i64 0, .int .i64 0, .int .i64 0, .int .i64 0, .int .i32 0, .int .i32 0, .bool false, .int .i32 0, .int .i32 0, .int .i64 0, .int .i64 0, .int .i64 0, .int .i64 0, .int .i64 0, .int .i64 0, .int .i32 0, .int .i32 0, .bool false, .int .i32 0, .int .i32 0, .int .i64 0, .int .i64 0, .int .i64 0, .int .i64 0, .int .i64 0, .int .i64 0, .int .i32 0, .int .i32 0, .bool false, .int .i32 0, .int .i32 0, .int .i64 0, .int .i64 0, .int .i64 0, .int .i64 0, .int .i64 0, .int .i64 0, .int .i32 0, .int .i32 0, .bool false, .int .i32 0, .int .i32 0, .int .i64 0, .int .i64 0, .int .i64 0, .int .i64 0, .int .i64 0, .int .i64 0, .int .i32 0, .int .i32 0, .bool false, .int .i32 0, .int .i32 0, .int .i64 0, .int .i64 0, .int .i64 0, .int .i64 0, .int .i64 0, .int .i64 0, .int .i32 0, .int .i32 0, .bool false, .int .i32 0, .int .i32 0, .int .i64 0, .int .i64 0, .int .i64 0, .int .i64 0, .int .i64 0, .int .i64 0, .int .i32 0, .int .i32 0, .bool false, .int .i32 0, .int .i32 0, .int .i64 0, .int .i64 0, .int .i64 0, .int .i64 0, .int .i64 0, .int .i64 0, .int .i32 0, .int .i32 0, .bool false, .int .i32 0, .int .i32 0, .int .i64 0, .int .i64 0, .int .i64 0, .int .i64 0, .int .i64 0, .int .i64 0, .int .i32 0, .int .i32 0, .bool false, .int .i32 0, .int .i32 0, .int .i64 0, .int .i64 0, .int .i64 0, .int .i64 0, .int .i64 0, .int .i64 0, .int .i32 0, .int .i32 0, .bool false, .int .i32 0, .int .i32 0, .int .i64 0, .int .i64 0, .int .i64 0, .int .i64 0, .int .i64 0, .int .i64 0, .int .i32 0, .int .i32 0, .bool false, .int .i32 0, .int .i32 0, .int .i64 0, .int .i64 0, .int .i64 0, .int .i64 0, .int .i64 0, .int .i64 0, .int .i32 0, .int .i32 0, .bool false, .int .i32 0, .int .i32 0, .int .i64 0, .int .i64 0, .int .i64 0, .int .i64 0, .int .i64 0, .int .i64 0, .int .i32 0, .int .i32 0, .bool false, .int .i32 0, .int .i32 0, .int .i64 0, .int .i64 0, .int .i64 0, .int .i64 0, .int .i64 0, .int .i64 0, .int .i32 0, .int .i32 0, .bool false, .int .i32 0, .int .i32 0, .int .i64 0, .int .i64 0, .int .i64 0, .int .i64 0, .int .i64 0, .int .i64 0, .int .i32 0, .int .i32 0, .bool false, .int .i32 0, .int .i32 0, .int .i64 0, .int .i64 0, .int .i64 0, .int .i64 0, .int .i64 0, .int .i64 0, .int .i32 0, .int .i32 0, .bool false, .int .i32 0, .int .i32 0, .int .i64 0, .int .i64 0, .int .i64 0, .int .i64 0, .int .i64 0, .int .i64 0, .int .i32 0, .int .i32 0, .bool false, .int .i32 0, .int .i32 0, .int .i64 0, .int .i64 0, .int .i64 0, .int .i64 0, .int .i64 0, .int .i64 0, .int .i32 0, .int .i32 0, .bool false, .int .i32 0, .int .i32 0, .int .i64 0, .int .i64 0, .int .i64 0, .int .i64 0, .int .i64 0, .int .i64 0, .int .i32 0, .int .i32 0, .bool false, .int .i32 0, .int .i32 0, .int .i64 0, .int .i64 0, .int .i64 0, .int .i64 0, .int .i64 0, .int .i64 0, .int .i32 0, .int .i32 0, .bool false] := by kernel_rfl
theorem sh72 : shapeOf Tryd.prog 72 = .many 4 := by kernel_rfl
theorem sz72 : szOf Tryd.prog 72 = some 4 := by kernel_rfl
theorem es72 : elemSz Tryd.prog 72 = none := by kernel_rfl
theorem fo72_0 : fOff Tryd.prog 72 0 = some 0 := by kernel_rfl
theorem fs72_0 : fSh Tryd.prog 72 0 = some (0, .one) := by kernel_rfl
theorem fo72_1 : fOff Tryd.prog 72 1 = some 1 := by kernel_rfl
theorem fs72_1 : fSh Tryd.prog 72 1 = some (1, .one) := by kernel_rfl
theorem fo72_2 : fOff Tryd.prog 72 2 = some 2 := by kernel_rfl
theorem fs72_2 : fSh Tryd.prog 72 2 = some (2, .one) := by kernel_rfl
theorem fo72_3 : fOff Tryd.prog 72 3 = some 3 := by kernel_rfl
theorem fs72_3 : fSh Tryd.prog 72 3 = some (3, .one) := by kernel_rfl
theorem so72 : aggOf Tryd.prog 72 = some ([.pointer none, .pointer none, .pointer none, .string ⟨#[]⟩], [(0, 1), (1, 1), (2, 1), (3, 1)]) := by kernel_rfl
theorem zo72 : zeroOf Tryd.prog 72 = some [.pointer none, .pointer none, .pointer none, .string ⟨#[]⟩] := by kernel_rfl
theorem sh73 : shapeOf Tryd.prog 73 = .many 4 := by kernel_rfl
theorem sz73 : szOf Tryd.prog 73 = some 4 := by kernel_rfl
theorem es73 : elemSz Tryd.prog 73 = none := by kernel_rfl
theorem fo73_0 : fOff Tryd.prog 73 0 = some 0 := by kernel_rfl
theorem fs73_0 : fSh Tryd.prog 73 0 = some (0, .one) := by kernel_rfl
theorem fo73_1 : fOff Tryd.prog 73 1 = some 1 := by kernel_rfl
theorem fs73_1 : fSh Tryd.prog 73 1 = some (1, .one) := by kernel_rfl
theorem fo73_2 : fOff Tryd.prog 73 2 = some 2 := by kernel_rfl
theorem fs73_2 : fSh Tryd.prog 73 2 = some (2, .one) := by kernel_rfl
theorem fo73_3 : fOff Tryd.prog 73 3 = some 3 := by kernel_rfl
theorem fs73_3 : fSh Tryd.prog 73 3 = some (3, .one) := by kernel_rfl
theorem so73 : aggOf Tryd.prog 73 = some ([.pointer none, .pointer none, .pointer none, .string ⟨#[]⟩], [(0, 1), (1, 1), (2, 1), (3, 1)]) := by kernel_rfl
theorem zo73 : zeroOf Tryd.prog 73 = some [.pointer none, .pointer none, .pointer none, .string ⟨#[]⟩] := by kernel_rfl
theorem sh74 : shapeOf Tryd.prog 74 = .many 0 := by kernel_rfl
theorem sz74 : szOf Tryd.prog 74 = some 0 := by kernel_rfl
theorem es74 : elemSz Tryd.prog 74 = none := by kernel_rfl
theorem ar74 : arrOf Tryd.prog 74 = some (0, 1) := by kernel_rfl
theorem so74 : aggOf Tryd.prog 74 = some ([], []) := by kernel_rfl
theorem zo74 : zeroOf Tryd.prog 74 = some [] := by kernel_rfl
theorem sh75 : shapeOf Tryd.prog 75 = .many 0 := by kernel_rfl
theorem sz75 : szOf Tryd.prog 75 = some 0 := by kernel_rfl
theorem es75 : elemSz Tryd.prog 75 = none := by kernel_rfl
theorem fs75_0 : fSh Tryd.prog 75 0 = some (0, .many 0) := by kernel_rfl
theorem zo75 : zeroOf Tryd.prog 75 = some [] := by kernel_rfl
theorem sh76 : shapeOf Tryd.prog 76 = .many 0 := by kernel_rfl
theorem sz76 : szOf Tryd.prog 76 = some 0 := by kernel_rfl
theorem es76 : elemSz Tryd.prog 76 = none := by kernel_rfl
theorem fs76_0 : fSh Tryd.prog 76 0 = some (0, .many 0) := by kernel_rfl
theorem zo76 : zeroOf Tryd.prog 76 = some [] := by kernel_rfl
theorem sh78 : shapeOf Tryd.prog 78 = .one := by kernel_rfl
theorem sz78 : szOf Tryd.prog 78 = some 1 := by kernel_rfl
theorem ik78 : intKindOf Tryd.prog 78 = some .u32 := by kernel_rfl
theorem es78 : elemSz Tryd.prog 78 = none := by kernel_rfl
theorem zo78 : zeroOf Tryd.prog 78 = some [.int .u32 0] := by kernel_rfl
theorem us78 : (Tryd.prog.underlying 78).isSome = true := by kernel_rfl
theorem sh79 : shapeOf Tryd.prog 79 = .one := by kernel_rfl
theorem sz79 : szOf Tryd.prog 79 = some 1 := by kernel_rfl
theorem ik79 : intKindOf Tryd.prog 79 = some .u8 := by kernel_rfl
theorem es79 : elemSz Tryd.prog 79 = none := by kernel_rfl
theorem zo79 : zeroOf Tryd.prog 79 = some [.int .u8 0] := by kernel_rfl
theorem us79 : (Tryd.prog.underlying 79).isSome = true := by kernel_rfl
theorem sh80 : shapeOf Tryd.prog 80 = .one := by kernel_rfl
theorem sz80 : szOf Tryd.prog 80 = some 1 := by kernel_rfl
theorem ik80 : intKindOf Tryd.prog 80 = some .u8 := by kernel_rfl
theorem es80 : elemSz Tryd.prog 80 = none := by kernel_rfl
theorem zo80 : zeroOf Tryd.prog 80 = some [.int .u8 0] := by kernel_rfl
theorem us80 : (Tryd.prog.underlying 80).isSome = true := by kernel_rfl
theorem sh82 : shapeOf Tryd.prog 82 = .one := by kernel_rfl
theorem sz82 : szOf Tryd.prog 82 = some 1 := by kernel_rfl
theorem es82 : elemSz Tryd.prog 82 = none := by kernel_rfl
theorem zo82 : zeroOf Tryd.prog 82 = some [.pointer none] := by kernel_rfl
theorem sh83 : shapeOf Tryd.prog 83 = .one := by kernel_rfl
theorem sz83 : szOf Tryd.prog 83 = some 1 := by kernel_rfl
theorem ik83 : intKindOf Tryd.prog 83 = some .i32 := by kernel_rfl
theorem es83 : elemSz Tryd.prog 83 = none := by kernel_rfl
theorem zo83 : zeroOf Tryd.prog 83 = some [.int .i32 0] := by kernel_rfl
theorem us83 : (Tryd.prog.underlying 83).isSome = true := by kernel_rfl
theorem sh84 : shapeOf Tryd.prog 84 = .one := by kernel_rfl
theorem sz84 : szOf Tryd.prog 84 = some 1 := by kernel_rfl
theorem ik84 : intKindOf Tryd.prog 84 = some .i32 := by kernel_rfl
theorem es84 : elemSz Tryd.prog 84 = none := by kernel_rfl
theorem zo84 : zeroOf Tryd.prog 84 = some [.int .i32 0] := by kernel_rfl
theorem us84 : (Tryd.prog.underlying 84).isSome = true := by kernel_rfl
theorem sh85 : shapeOf Tryd.prog 85 = .many 11 := by kernel_rfl
theorem sz85 : szOf Tryd.prog 85 = some 11 := by kernel_rfl
theorem es85 : elemSz Tryd.prog 85 = none := by kernel_rfl
theorem fo85_0 : fOff Tryd.prog 85 0 = some 0 := by kernel_rfl
theorem fs85_0 : fSh Tryd.prog 85 0 = some (0, .one) := by kernel_rfl
theorem fo85_1 : fOff Tryd.prog 85 1 = some 1 := by kernel_rfl
theorem fs85_1 : fSh Tryd.prog 85 1 = some (1, .one) := by kernel_rfl
theorem fo85_2 : fOff Tryd.prog 85 2 = some 2 := by kernel_rfl
theorem fs85_2 : fSh Tryd.prog 85 2 = some (2, .one) := by kernel_rfl
theorem fo85_3 : fOff Tryd.prog 85 3 = some 3 := by kernel_rfl
theorem fs85_3 : fSh Tryd.prog 85 3 = some (3, .one) := by kernel_rfl
theorem fo85_4 : fOff Tryd.prog 85 4 = some 4 := by kernel_rfl
theorem fs85_4 : fSh Tryd.prog 85 4 = some (4, .one) := by kernel_rfl
theorem fo85_5 : fOff Tryd.prog 85 5 = some 5 := by kernel_rfl
theorem fs85_5 : fSh Tryd.prog 85 5 = some (5, .one) := by kernel_rfl
theorem fo85_6 : fOff Tryd.prog 85 6 = some 6 := by kernel_rfl
theorem fs85_6 : fSh Tryd.prog 85 6 = some (6, .one) := by kernel_rfl
theorem fo85_8 : fOff Tryd.prog 85 8 = some 8 := by kernel_rfl
theorem fs85_8 : fSh Tryd.prog 85 8 = some (8, .one) := by kernel_rfl
theorem fo85_9 : fOff Tryd.prog 85 9 = some 9 := by kernel_rfl
theorem fs85_9 : fSh Tryd.prog 85 9 = some (9, .one) := by kernel_rfl
theorem fo85_10 : fOff Tryd.prog 85 10 = some 10 := by kernel_rfl
theorem fs85_10 : fSh Tryd.prog 85 10 = some (10, .one) := by kernel_rfl
theorem zo85 : zeroOf Tryd.prog 85 = some [.int .u64 0, .int .u64 0, .int .u32 0, .int .u8 0, .int .u8 0, .int .u8 0, .int .u8 0, .nilFunc, .pointer none, .int .i32 0, .int .i32 0] := by kernel_rfl
theorem sh86 : shapeOf Tryd.prog 86 = .many 11 := by kernel_rfl
theorem sz86 : szOf Tryd.prog 86 = some 11 := by kernel_rfl
theorem es86 : elemSz Tryd.prog 86 = none := by kernel_rfl
theorem fo86_0 : fOff Tryd.prog 86 0 = some 0 := by kernel_rfl
theorem fs86_0 : fSh Tryd.prog 86 0 = some (0, .one) := by kernel_rfl
theorem fo86_1 : fOff Tryd.prog 86 1 = some 1 := by kernel_rfl
theorem fs86_1 : fSh Tryd.prog 86 1 = some (1, .one) := by kernel_rfl
theorem fo86_2 : fOff Tryd.prog 86 2 = some 2 := by kernel_rfl
theorem fs86_2 : fSh Tryd.prog 86 2 = some (2, .one) := by kernel_rfl
theorem fo86_3 : fOff Tryd.prog 86 3 = some 3 := by kernel_rfl
theorem fs86_3 : fSh Tryd.prog 86 3 = some (3, .one) := by kernel_rfl
theorem fo86_4 : fOff Tryd.prog 86 4 = some 4 := by kernel_rfl
theorem fs86_4 : fSh Tryd.prog 86 4 = some (4, .one) := by kernel_rfl
theorem fo86_5 : fOff Tryd.prog 86 5 = some 5 := by kernel_rfl
theorem fs86_5 : fSh Tryd.prog 86 5 = some (5, .one) := by kernel_rfl
theorem fo86_6 : fOff Tryd.prog 86 6 = some 6 := by kernel_rfl
theorem fs86_6 : fSh Tryd.prog 86 6 = some (6, .one) := by kernel_rfl
theorem fo86_8 : fOff Tryd.prog 86 8 = some 8 := by kernel_rfl
theorem fs86_8 : fSh Tryd.prog 86 8 = some (8, .one) := by kernel_rfl
theorem fo86_9 : fOff Tryd.prog 86 9 = some 9 := by kernel_rfl
theorem fs86_9 : fSh Tryd.prog 86 9 = some (9, .one) := by kernel_rfl
theorem fo86_10 : fOff Tryd.prog 86 10 = some 10 := by kernel_rfl
theorem fs86_10 : fSh Tryd.prog 86 10 = some (10, .one) := by kernel_rfl
theorem zo86 : zeroOf Tryd.prog 86 = some [.int .u64 0, .int .u64 0, .int .u32 0, .int .u8 0, .int .u8 0, .int .u8 0, .int .u8 0, .nilFunc, .pointer none, .int .i32 0, .int .i32 0] := by kernel_rfl
theorem sh87 : shapeOf Tryd.prog 87 = .many 3 := by kernel_rfl
theorem sz87 : szOf Tryd.prog 87 = some 3 := by kernel_rfl
theorem es87 : elemSz Tryd.prog 87 = none := by kernel_rfl
theorem fo87_0 : fOff Tryd.prog 87 0 = some 0 := by kernel_rfl
theorem fs87_0 : fSh Tryd.prog 87 0 = some (0, .one) := by kernel_rfl
theorem fo87_1 : fOff Tryd.prog 87 1 = some 1 := by kernel_rfl
theorem fs87_1 : fSh Tryd.prog 87 1 = some (1, .one) := by kernel_rfl
theorem fo87_2 : fOff Tryd.prog 87 2 = some 2 := by kernel_rfl
theorem fs87_2 : fSh Tryd.prog 87 2 = some (2, .one) := by kernel_rfl
theorem so87 : aggOf Tryd.prog 87 = some ([.int .i64 0, .int .i64 0, .int .i64 0], [(0, 1), (1, 1), (2, 1)]) := by kernel_rfl
theorem zo87 : zeroOf Tryd.prog 87 = some [.int .i64 0, .int .i64 0, .int .i64 0] := by kernel_rfl
theorem eq87 : eqInts Tryd.prog 87 = some 3 := by kernel_rfl
theorem sh88 : shapeOf Tryd.prog 88 = .many 3 := by kernel_rfl
theorem sz88 : szOf Tryd.prog 88 = some 3 := by kernel_rfl
theorem es88 : elemSz Tryd.prog 88 = none := by kernel_rfl
theorem fo88_0 : fOff Tryd.prog 88 0 = some 0 := by kernel_rfl
theorem fs88_0 : fSh Tryd.prog 88 0 = some (0, .one) := by kernel_rfl
theorem fo88_1 : fOff Tryd.prog 88 1 = some 1 := by kernel_rfl
theorem fs88_1 : fSh Tryd.prog 88 1 = some (1, .one) := by kernel_rfl
theorem fo88_2 : fOff Tryd.prog 88 2 = some 2 := by kernel_rfl
theorem fs88_2 : fSh Tryd.prog 88 2 = some (2, .one) := by kernel_rfl
theorem so88 : aggOf Tryd.prog 88 = some ([.int .i64 0, .int .i64 0, .int .i64 0], [(0, 1), (1, 1), (2, 1)]) := by kernel_rfl
theorem zo88 : zeroOf Tryd.prog 88 = some [.int .i64 0, .int .i64 0, .int .i64 0] := by kernel_rfl
theorem eq88 : eqInts Tryd.prog 88 = some 3 := by kernel_rfl
theorem sh89 : shapeOf Tryd.prog 89 = .many 2 := by kernel_rfl
theorem sz89 : szOf Tryd.prog 89 = some 2 := by kernel_rfl
theorem es89 : elemSz Tryd.prog 89 = none := by kernel_rfl
theorem fo89_0 : fOff Tryd.prog 89 0 = some 0 := by kernel_rfl
theorem fs89_0 : fSh Tryd.prog 89 0 = some (0, .one) := by kernel_rfl
theorem fo89_1 : fOff Tryd.prog 89 1 = some 1 := by kernel_rfl
theorem fs89_1 : fSh Tryd.prog 89 1 = some (1, .one) := by kernel_rfl
theorem so89 : aggOf Tryd.prog 89 = some ([.int .i64 0, .int .i64 0], [(0, 1), (1, 1)]) := by kernel_rfl
theorem zo89 : zeroOf Tryd.prog 89 = some [.int .i64 0, .int .i64 0] := by kernel_rfl
theorem eq89 : eqInts Tryd.prog 89 = some 2 := by kernel_rfl
theorem sh90 : shapeOf Tryd.prog 90 = .many 2 := by kernel_rfl
theorem sz90 : szOf Tryd.prog 90 = some 2 := by kernel_rfl
theorem es90 : elemSz Tryd.prog 90 = none := by kernel_rfl
theorem fo90_0 : fOff Tryd.prog 90 0 = some 0 := by kernel_rfl
theorem fs90_0 : fSh Tryd.prog 90 0 = some (0, .one) := by kernel_rfl
theorem fo90_1 : fOff Tryd.prog 90 1 = some 1 := by kernel_rfl
theorem fs90_1 : fSh Tryd.prog 90 1 = some (1, .one) := by kernel_rfl
theorem so90 : aggOf Tryd.prog 90 = some ([.int .i64 0, .int .i64 0], [(0, 1), (1, 1)]) := by kernel_rfl
theorem zo90 : zeroOf Tryd.prog 90 = some [.int .i64 0, .int .i64 0] := by kernel_rfl
theorem eq90 : eqInts Tryd.prog 90 = some 2 := by kernel_rfl
/-- All of them under one name. -/
def tabs := PLift.up (And.intro (And.intro (And.intro (And.intro (And.intro (And.intro (And.intro (And.intro sh2 (And.intro sz2 ik2)) (And.intro (And.intro es2 zo2) (And.intro us2 sh3))) (And.intro (And.intro (And.intro sz3 ik3) (And.intro es3 zo3)) (And.intro (And.intro us3 sh4) (And.intro sz4 es4)))) (And.intro (And.intro (And.intro zo4 (And.intro bt4 sh5)) (And.intro (And.intro sz5 ik5) (And.intro es5 zo5))) (And.intro (And.intro (And.intro us5 sh6) (And.intro sz6 ik6)) (And.intro (And.intro es6 zo6) (And.intro us6 sh7))))) (And.intro (And.intro (And.intro (And.intro sz7 (And.intro es7 fo7_0)) (And.intro (And.intro fs7_0 fo7_1) (And.intro fs7_1 fo7_2))) (And.intro (And.intro (And.intro fs7_2 fo7_3) (And.intro fs7_3 so7)) (And.intro (And.intro zo7 sh8) (And.intro sz8 es8)))) (And.intro (And.intro (And.intro (And.intro fo8_0 fs8_0) (And.intro fo8_1 fs8_1)) (And.intro (And.intro fo8_2 fs8_2) (And.intro fo8_3 fs8_3))) (And.intro (And.intro (And.intro so8 zo8) (And.intro sh9 sz9)) (And.intro (And.intro es9 zo9) (And.intro un9 sh10)))))) (And.intro (And.intro (And.intro (And.intro (And.intro sz10 (And.intro es10 zo10)) (And.intro (And.intro un10 sh11) (And.intro sz11 es11))) (And.intro (And.intro (And.intro zo11 un11) (And.intro sh12 sz12)) (And.intro (And.intro ik12 es12) (And.intro zo12 us12)))) (And.intro (And.intro (And.intro sh13 (And.intro sz13 es13)) (And.intro (And.intro fo13_0 fs13_0) (And.intro fo13_1 fs13_1))) (And.intro (And.intro (And.intro so13 zo13) (And.intro sh14 sz14)) (And.intro (And.intro es14 fo14_0) (And.intro fs14_0 fo14_1))))) (And.intro (And.intro (And.intro (And.intro fs14_1 (And.intro so14 zo14)) (And.intro (And.intro sh15 sz15) (And.intro es15 zo15))) (And.intro (And.intro (And.intro sh16 sz16) (And.intro es16 zo16)) (And.intro (And.intro sh17 sz17) (And.intro es17 zo17)))) (And.intro (And.intro (And.intro (And.intro sh18 sz18) (And.intro es18 fo18_0)) (And.intro (And.intro fs18_0 so18) (And.intro zo18 sh19))) (And.intro (And.intro (And.intro sz19 es19) (And.intro fo19_0 fs19_0)) (And.intro (And.intro so19 zo19) (And.intro sh21 sz21))))))) (And.intro (And.intro (And.intro (And.intro (And.intro (And.intro ik21 (And.intro es21 zo21)) (And.intro (And.intro us21 sh22) (And.intro sz22 es22))) (And.intro (And.intro (And.intro sl22 zo22) (And.intro sh23 sz23)) (And.intro (And.intro es23 fo23_0) (And.intro fs23_0 fo23_1)))) (And.intro (And.intro (And.intro fs23_1 (And.intro so23 zo23)) (And.intro (And.intro eq23 sh24) (And.intro sz24 es24))) (And.intro (And.intro (And.intro fo24_0 fs24_0) (And.intro fo24_1 fs24_1)) (And.intro (And.intro so24 zo24) (And.intro eq24 sh26))))) (And.intro (And.intro (And.intro (And.intro sz26 (And.intro es26 sl26)) (And.intro (And.intro zo26 sh27) (And.intro sz27 es27))) (And.intro (And.intro (And.intro sl27 zo27) (And.intro sh28 sz28)) (And.intro (And.intro es28 fo28_0) (And.intro fs28_0 fo28_1)))) (And.intro (And.intro (And.intro (And.intro fs28_1 fo28_2) (And.intro fs28_2 fo28_3)) (And.intro (And.intro fs28_3 fo28_4) (And.intro fs28_4 fo28_5))) (And.intro (And.intro (And.intro fs28_5 fo28_6) (And.intro fs28_6 fo28_7)) (And.intro (And.intro fs28_7 so28) (And.intro zo28 sh29)))))) (And.intro (And.intro (And.intro (And.intro (And.intro sz29 (And.intro es29 fo29_0)) (And.intro (And.intro fs29_0 fo29_1) (And.intro fs29_1 fo29_2))) (And.intro (And.intro (And.intro fs29_2 fo29_3) (And.intro fs29_3 fo29_4)) (And.intro (And.intro fs29_4 fo29_5) (And.intro fs29_5 fo29_6)))) (And.intro (And.intro (And.intro (And.intro fs29_6 fo29_7) (And.intro fs29_7 so29)) (And.intro (And.intro zo29 sh32) (And.intro sz32 es32))) (And.intro (And.intro (And.intro sl32 zo32) (And.intro sh34 sz34)) (And.intro (And.intro es34 sl34) (And.intro zo34 sh38))))) (And.intro (And.intro (And.intro (And.intro sz38 (And.intro es38 fo38_0)) (And.intro (And.intro fs38_0 fo38_1) (And.intro fs38_1 so38))) (And.intro (And.intro (And.intro zo38 sh39) (And.intro sz39 es39)) (And.intro (And.intro fo39_0 fs39_0) (And.intro fo39_1 fs39_1)))) (And.intro (And.intro (And.intro (And.intro so39 zo39) (And.intro sh42 sz42)) (And.intro (And.intro ik42 es42) (And.intro zo42 us42))) (And.intro (And.intro (And.intro sh49 sz49) (And.intro es49 fo49_0)) (And.intro (And.intro fs49_0 fo49_1) (And.intro fs49_1 fo49_2)))))))) (And.intro (And.intro (And.intro (And.intro (And.intro (And.intro (And.intro fs49_2 (And.intro fo49_3 fs49_3)) (And.intro (And.intro fo49_4 fs49_4) (And.intro fo49_5 fs49_5))) (And.intro (And.intro (And.intro fo49_6 fs49_6) (And.intro fo49_7 fs49_7)) (And.intro (And.intro fo49_8 fs49_8) (And.intro so49 zo49)))) (And.intro (And.intro (And.intro sh50 (And.intro sz50 es50)) (And.intro (And.intro fo50_0 fs50_0) (And.intro fo50_1 fs50_1))) (And.intro (And.intro (And.intro fo50_2 fs50_2) (And.intro fo50_3 fs50_3)) (And.intro (And.intro fo50_4 fs50_4) (And.intro fo50_5 fs50_5))))) (And.intro (And.intro (And.intro (And.intro fo50_6 (And.intro fs50_6 fo50_7)) (And.intro (And.intro fs50_7 fo50_8) (And.intro fs50_8 so50))) (And.intro (And.intro (And.intro zo50 sh56) (And.intro sz56 es56)) (And.intro (And.intro fo56_0 fs56_0) (And.intro fo56_1 fs56_1)))) (And.intro (And.intro (And.intro (And.intro fo56_2 fs56_2) (And.intro so56 zo56)) (And.intro (And.intro sh57 sz57) (And.intro es57 fo57_0))) (And.intro (And.intro (And.intro fs57_0 fo57_1) (And.intro fs57_1 fo57_2)) (And.intro (And.intro fs57_2 so57) (And.intro zo57 sh63)))))) (And.intro (And.intro (And.intro (And.intro (And.intro sz63 (And.intro es63 ar63)) (And.intro (And.intro so63 zo63) (And.intro sh64 sz64))) (And.intro (And.intro (And.intro es64 ar64) (And.intro so64 zo64)) (And.intro (And.intro sh65 sz65) (And.intro es65 ar65)))) (And.intro (And.intro (And.intro (And.intro so65 zo65) (And.intro sh72 sz72)) (And.intro (And.intro es72 fo72_0) (And.intro fs72_0 fo72_1))) (And.intro (And.intro (And.intro fs72_1 fo72_2) (And.intro fs72_2 fo72_3)) (And.intro (And.intro fs72_3 so72) (And.intro zo72 sh73))))) (And.intro (And.intro (And.intro (And.intro sz73 (And.intro es73 fo73_0)) (And.intro (And.intro fs73_0 fo73_1) (And.intro fs73_1 fo73_2))) (And.intro (And.intro (And.intro fs73_2 fo73_3) (And.intro fs73_3 so73)) (And.intro (And.intro zo73 sh74) (And.intro sz74 es74)))) (And.intro (And.intro (And.intro (And.intro ar74 so74) (And.intro zo74 sh75)) (And.intro (And.intro sz75 es75) (And.intro fs75_0 zo75))) (And.intro (And.intro (And.intro sh76 sz76) (And.intro es76 fs76_0)) (And.intro (And.intro zo76 sh78) (And.intro sz78 ik78))))))) (And.intro (And.intro (And.intro (And.intro (And.intro (And.intro es78 (And.intro zo78 us78)) (And.intro (And.intro sh79 sz79) (And.intro ik79 es79))) (And.intro (And.intro (And.intro zo79 us79) (And.intro sh80 sz80)) (And.intro (And.intro ik80 es80) (And.intro zo80 us80)))) (And.intro (And.intro (And.intro sh82 (And.intro sz82 es82)) (And.intro (And.intro zo82 sh83) (And.intro sz83 ik83))) (And.intro (And.intro (And.intro es83 zo83) (And.intro us83 sh84)) (And.intro (And.intro sz84 ik84) (And.intro es84 zo84))))) (And.intro (And.intro (And.intro (And.intro us84 (And.intro sh85 sz85)) (And.intro (And.intro es85 fo85_0) (And.intro fs85_0 fo85_1))) (And.intro (And.intro (And.intro fs85_1 fo85_2) (And.intro fs85_2 fo85_3)) (And.intro (And.intro fs85_3 fo85_4) (And.intro fs85_4 fo85_5)))) (And.intro (And.intro (And.intro (And.intro fs85_5 fo85_6) (And.intro fs85_6 fo85_8)) (And.intro (And.intro fs85_8 fo85_9) (And.intro fs85_9 fo85_10))) (And.intro (And.intro (And.intro fs85_10 zo85) (And.intro sh86 sz86)) (And.intro (And.intro es86 fo86_0) (And.intro fs86_0 fo86_1)))))) (And.intro (And.intro (And.intro (And.intro (And.intro fs86_1 (And.intro fo86_2 fs86_2)) (And.intro (And.intro fo86_3 fs86_3) (And.intro fo86_4 fs86_4))) (And.intro (And.intro (And.intro fo86_5 fs86_5) (And.intro fo86_6 fs86_6)) (And.intro (And.intro fo86_8 fs86_8) (And.intro fo86_9 fs86_9)))) (And.intro (And.intro (And.intro (And.intro fo86_10 fs86_10) (And.intro zo86 sh87)) (And.intro (And.intro sz87 es87) (And.intro fo87_0 fs87_0))) (And.intro (And.intro (And.intro fo87_1 fs87_1) (And.intro fo87_2 fs87_2)) (And.intro (And.intro so87 zo87) (And.intro eq87 sh88))))) (And.intro (And.intro (And.intro (And.intro sz88 (And.intro es88 fo88_0)) (And.intro (And.intro fs88_0 fo88_1) (And.intro fs88_1 fo88_2))) (And.intro (And.intro (And.intro fs88_2 so88) (And.intro zo88 eq88)) (And.intro (And.intro sh89 sz89) (And.intro es89 fo89_0)))) (And.intro (And.intro (And.intro (And.intro fs89_0 fo89_1) (And.intro fs89_1 so89)) (And.intro (And.intro zo89 eq89) (And.intro sh90 sz90))) (And.intro (And.intro (And.intro es90 fo90_0) (And.intro fs90_0 fo90_1)) (And.intro (And.intro fs90_1 so90) (And.intro zo90 eq90)))))))))
end Go.Proofs.YtkelageigeoajaaDoor
