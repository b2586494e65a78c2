/-
  Closed facts on the types of this seat's program, printed by a program (tab.py).
-/
import Derived.Test.YtkmomjginjkhfaaPg17
import Derived.Test.YtkmomjginjkhfaaChecked
import Derived.KernelRfl
namespace Go.Proofs.Ytkmomjginjkhfaa
open Go.Proofs.Ytkmomjginjkhfaa.Pg
theorem sh2 : shapeOf Try.prog 2 = .one := by kernel_rfl
theorem sz2 : szOf Try.prog 2 = some 1 := by kernel_rfl
theorem ik2 : intKindOf Try.prog 2 = some .i64 := by kernel_rfl
theorem es2 : elemSz Try.prog 2 = none := by kernel_rfl
theorem zo2 : zeroOf Try.prog 2 = some [.int .i64 0] := by kernel_rfl
theorem us2 : (Try.prog.underlying 2).isSome = true := by kernel_rfl
theorem sh3 : shapeOf Try.prog 3 = .one := by kernel_rfl
theorem sz3 : szOf Try.prog 3 = some 1 := by kernel_rfl
theorem ik3 : intKindOf Try.prog 3 = some .i64 := by kernel_rfl
theorem es3 : elemSz Try.prog 3 = none := by kernel_rfl
theorem zo3 : zeroOf Try.prog 3 = some [.int .i64 0] := by kernel_rfl
theorem us3 : (Try.prog.underlying 3).isSome = true := by kernel_rfl
theorem sh4 : shapeOf Try.prog 4 = .one := by kernel_rfl
theorem sz4 : szOf Try.prog 4 = some 1 := by kernel_rfl
theorem es4 : elemSz Try.prog 4 = none := by kernel_rfl
theorem zo4 : zeroOf Try.prog 4 = some [.bool false] := by kernel_rfl
theorem bt4 : boolT Try.prog 4 = true := by kernel_rfl
theorem sh5 : shapeOf Try.prog 5 = .one := by kernel_rfl
theorem sz5 : szOf Try.prog 5 = some 1 := by kernel_rfl
theorem ik5 : intKindOf Try.prog 5 = some .u8 := by kernel_rfl
theorem es5 : elemSz Try.prog 5 = none := by kernel_rfl
theorem zo5 : zeroOf Try.prog 5 = some [.int .u8 0] := by kernel_rfl
theorem us5 : (Try.prog.underlying 5).isSome = true := by kernel_rfl
theorem sh6 : shapeOf Try.prog 6 = .one := by kernel_rfl
theorem sz6 : szOf Try.prog 6 = some 1 := by kernel_rfl
theorem ik6 : intKindOf Try.prog 6 = some .u8 := by kernel_rfl
theorem es6 : elemSz Try.prog 6 = none := by kernel_rfl
theorem zo6 : zeroOf Try.prog 6 = some [.int .u8 0] := by kernel_rfl
theorem us6 : (Try.prog.underlying 6).isSome = true := by kernel_rfl
theorem sh7 : shapeOf Try.prog 7 = .many 4 := by kernel_rfl
theorem sz7 : szOf Try.prog 7 = some 4 := by kernel_rfl
theorem es7 : elemSz Try.prog 7 = none := by kernel_rfl
theorem fo7_0 : fOff Try.prog 7 0 = some 0 := by kernel_rfl
theorem fs7_0 : fSh Try.prog 7 0 = some (0, .one) := by kernel_rfl
theorem fo7_1 : fOff Try.prog 7 1 = some 1 := by kernel_rfl
theorem fs7_1 : fSh Try.prog 7 1 = some (1, .one) := by kernel_rfl
theorem fo7_2 : fOff Try.prog 7 2 = some 2 := by kernel_rfl
theorem fs7_2 : fSh Try.prog 7 2 = some (2, .one) := by kernel_rfl
theorem fo7_3 : fOff Try.prog 7 3 = some 3 := by kernel_rfl
theorem fs7_3 : fSh Try.prog 7 3 = some (3, .one) := by kernel_rfl
theorem so7 : structOf Try.prog 7 = some ([.int .i64 0, .int .i64 0, .bool false, .int .u8 0], [(0, 1), (1, 1), (2, 1), (3, 1)]) := by kernel_rfl
theorem zo7 : zeroOf Try.prog 7 = some [.int .i64 0, .int .i64 0, .bool false, .int .u8 0] := by kernel_rfl
theorem sh8 : shapeOf Try.prog 8 = .many 4 := by kernel_rfl
theorem sz8 : szOf Try.prog 8 = some 4 := by kernel_rfl
theorem es8 : elemSz Try.prog 8 = none := by kernel_rfl
theorem fo8_0 : fOff Try.prog 8 0 = some 0 := by kernel_rfl
theorem fs8_0 : fSh Try.prog 8 0 = some (0, .one) := by kernel_rfl
theorem fo8_1 : fOff Try.prog 8 1 = some 1 := by kernel_rfl
theorem fs8_1 : fSh Try.prog 8 1 = some (1, .one) := by kernel_rfl
theorem fo8_2 : fOff Try.prog 8 2 = some 2 := by kernel_rfl
theorem fs8_2 : fSh Try.prog 8 2 = some (2, .one) := by kernel_rfl
theorem fo8_3 : fOff Try.prog 8 3 = some 3 := by kernel_rfl
theorem fs8_3 : fSh Try.prog 8 3 = some (3, .one) := by kernel_rfl
theorem so8 : structOf Try.prog 8 = some ([.int .i64 0, .int .i64 0, .bool false, .int .u8 0], [(0, 1), (1, 1), (2, 1), (3, 1)]) := by kernel_rfl
theorem zo8 : zeroOf Try.prog 8 = some [.int .i64 0, .int .i64 0, .bool false, .int .u8 0] := by kernel_rfl
theorem sh9 : shapeOf Try.prog 9 = .one := by kernel_rfl
theorem sz9 : szOf Try.prog 9 = some 1 := by kernel_rfl
theorem es9 : elemSz Try.prog 9 = none := by kernel_rfl
theorem zo9 : zeroOf Try.prog 9 = some [.string ⟨#[]⟩] := by kernel_rfl
theorem un9 : Try.prog.underlying 9 = some .string := by kernel_rfl
theorem sh10 : shapeOf Try.prog 10 = .one := by kernel_rfl
theorem sz10 : szOf Try.prog 10 = some 1 := by kernel_rfl
theorem es10 : elemSz Try.prog 10 = none := by kernel_rfl
theorem zo10 : zeroOf Try.prog 10 = some [.string ⟨#[]⟩] := by kernel_rfl
theorem un10 : Try.prog.underlying 10 = some .string := by kernel_rfl
theorem sh11 : shapeOf Try.prog 11 = .one := by kernel_rfl
theorem sz11 : szOf Try.prog 11 = some 1 := by kernel_rfl
theorem es11 : elemSz Try.prog 11 = none := by kernel_rfl
theorem zo11 : zeroOf Try.prog 11 = some [.string ⟨#[]⟩] := by kernel_rfl
theorem un11 : Try.prog.underlying 11 = some .string := by kernel_rfl
theorem sh12 : shapeOf Try.prog 12 = .one := by kernel_rfl
theorem sz12 : szOf Try.prog 12 = some 1 := by kernel_rfl
theorem ik12 : intKindOf Try.prog 12 = some .u64 := by kernel_rfl
theorem es12 : elemSz Try.prog 12 = none := by kernel_rfl
theorem zo12 : zeroOf Try.prog 12 = some [.int .u64 0] := by kernel_rfl
theorem us12 : (Try.prog.underlying 12).isSome = true := by kernel_rfl
theorem sh13 : shapeOf Try.prog 13 = .many 2 := by kernel_rfl
theorem sz13 : szOf Try.prog 13 = some 2 := by kernel_rfl
theorem es13 : elemSz Try.prog 13 = none := by kernel_rfl
theorem fo13_0 : fOff Try.prog 13 0 = some 0 := by kernel_rfl
theorem fs13_0 : fSh Try.prog 13 0 = some (0, .one) := by kernel_rfl
theorem fo13_1 : fOff Try.prog 13 1 = some 1 := by kernel_rfl
theorem fs13_1 : fSh Try.prog 13 1 = some (1, .one) := by kernel_rfl
theorem so13 : structOf Try.prog 13 = some ([.string ⟨#[]⟩, .int .u64 0], [(0, 1), (1, 1)]) := by kernel_rfl
theorem zo13 : zeroOf Try.prog 13 = some [.string ⟨#[]⟩, .int .u64 0] := by kernel_rfl
theorem sh14 : shapeOf Try.prog 14 = .many 2 := by kernel_rfl
theorem sz14 : szOf Try.prog 14 = some 2 := by kernel_rfl
theorem es14 : elemSz Try.prog 14 = none := by kernel_rfl
theorem fo14_0 : fOff Try.prog 14 0 = some 0 := by kernel_rfl
theorem fs14_0 : fSh Try.prog 14 0 = some (0, .one) := by kernel_rfl
theorem fo14_1 : fOff Try.prog 14 1 = some 1 := by kernel_rfl
theorem fs14_1 : fSh Try.prog 14 1 = some (1, .one) := by kernel_rfl
theorem so14 : structOf Try.prog 14 = some ([.string ⟨#[]⟩, .int .u64 0], [(0, 1), (1, 1)]) := by kernel_rfl
theorem zo14 : zeroOf Try.prog 14 = some [.string ⟨#[]⟩, .int .u64 0] := by kernel_rfl
theorem sh15 : shapeOf Try.prog 15 = .one := by kernel_rfl
theorem sz15 : szOf Try.prog 15 = some 1 := by kernel_rfl
theorem es15 : elemSz Try.prog 15 = none := by kernel_rfl
theorem zo15 : zeroOf Try.prog 15 = some [.pointer none] := by kernel_rfl
theorem sh16 : shapeOf Try.prog 16 = .one := by kernel_rfl
theorem sz16 : szOf Try.prog 16 = some 1 := by kernel_rfl
theorem es16 : elemSz Try.prog 16 = none := by kernel_rfl
theorem zo16 : zeroOf Try.prog 16 = some [.pointer none] := by kernel_rfl
theorem sh17 : shapeOf Try.prog 17 = .one := by kernel_rfl
theorem sz17 : szOf Try.prog 17 = some 1 := by kernel_rfl
theorem es17 : elemSz Try.prog 17 = none := by kernel_rfl
theorem zo17 : zeroOf Try.prog 17 = some [.pointer none] := by kernel_rfl
theorem sh18 : shapeOf Try.prog 18 = .many 1 := by kernel_rfl
theorem sz18 : szOf Try.prog 18 = some 1 := by kernel_rfl
theorem es18 : elemSz Try.prog 18 = none := by kernel_rfl
theorem fo18_0 : fOff Try.prog 18 0 = some 0 := by kernel_rfl
theorem fs18_0 : fSh Try.prog 18 0 = some (0, .one) := by kernel_rfl
theorem so18 : structOf Try.prog 18 = some ([.pointer none], [(0, 1)]) := by kernel_rfl
theorem zo18 : zeroOf Try.prog 18 = some [.pointer none] := by kernel_rfl
theorem sh19 : shapeOf Try.prog 19 = .many 1 := by kernel_rfl
theorem sz19 : szOf Try.prog 19 = some 1 := by kernel_rfl
theorem es19 : elemSz Try.prog 19 = none := by kernel_rfl
theorem fo19_0 : fOff Try.prog 19 0 = some 0 := by kernel_rfl
theorem fs19_0 : fSh Try.prog 19 0 = some (0, .one) := by kernel_rfl
theorem so19 : structOf Try.prog 19 = some ([.pointer none], [(0, 1)]) := by kernel_rfl
theorem zo19 : zeroOf Try.prog 19 = some [.pointer none] := by kernel_rfl
theorem sh21 : shapeOf Try.prog 21 = .one := by kernel_rfl
theorem sz21 : szOf Try.prog 21 = some 1 := by kernel_rfl
theorem ik21 : intKindOf Try.prog 21 = some .i32 := by kernel_rfl
theorem es21 : elemSz Try.prog 21 = none := by kernel_rfl
theorem zo21 : zeroOf Try.prog 21 = some [.int .i32 0] := by kernel_rfl
theorem us21 : (Try.prog.underlying 21).isSome = true := by kernel_rfl
theorem sh22 : shapeOf Try.prog 22 = .one := by kernel_rfl
theorem sz22 : szOf Try.prog 22 = some 1 := by kernel_rfl
theorem es22 : elemSz Try.prog 22 = some 8 := by kernel_rfl
theorem sl22 : sliceOf Try.prog 22 = some (52, 8, 80, [.int .i64 0, .int .i64 0, .int .i64 0, .int .i64 0, .int .i64 0, .int .i64 0, .bool false, .slice none 0 0]) := by kernel_rfl
theorem zo22 : zeroOf Try.prog 22 = some [.slice none 0 0] := by kernel_rfl
theorem sh23 : shapeOf Try.prog 23 = .many 2 := by kernel_rfl
theorem sz23 : szOf Try.prog 23 = some 2 := by kernel_rfl
theorem es23 : elemSz Try.prog 23 = none := by kernel_rfl
theorem fo23_0 : fOff Try.prog 23 0 = some 0 := by kernel_rfl
theorem fs23_0 : fSh Try.prog 23 0 = some (0, .one) := by kernel_rfl
theorem fo23_1 : fOff Try.prog 23 1 = some 1 := by kernel_rfl
theorem fs23_1 : fSh Try.prog 23 1 = some (1, .one) := by kernel_rfl
theorem so23 : structOf Try.prog 23 = some ([.int .i64 0, .slice none 0 0], [(0, 1), (1, 1)]) := by kernel_rfl
theorem zo23 : zeroOf Try.prog 23 = some [.int .i64 0, .slice none 0 0] := by kernel_rfl
theorem sh24 : shapeOf Try.prog 24 = .many 2 := by kernel_rfl
theorem sz24 : szOf Try.prog 24 = some 2 := by kernel_rfl
theorem es24 : elemSz Try.prog 24 = none := by kernel_rfl
theorem fo24_0 : fOff Try.prog 24 0 = some 0 := by kernel_rfl
theorem fs24_0 : fSh Try.prog 24 0 = some (0, .one) := by kernel_rfl
theorem fo24_1 : fOff Try.prog 24 1 = some 1 := by kernel_rfl
theorem fs24_1 : fSh Try.prog 24 1 = some (1, .one) := by kernel_rfl
theorem so24 : structOf Try.prog 24 = some ([.int .i64 0, .slice none 0 0], [(0, 1), (1, 1)]) := by kernel_rfl
theorem zo24 : zeroOf Try.prog 24 = some [.int .i64 0, .slice none 0 0] := by kernel_rfl
theorem sh26 : shapeOf Try.prog 26 = .many 2 := by kernel_rfl
theorem sz26 : szOf Try.prog 26 = some 2 := by kernel_rfl
theorem es26 : elemSz Try.prog 26 = none := by kernel_rfl
theorem fo26_0 : fOff Try.prog 26 0 = some 0 := by kernel_rfl
theorem fs26_0 : fSh Try.prog 26 0 = some (0, .one) := by kernel_rfl
theorem fo26_1 : fOff Try.prog 26 1 = some 1 := by kernel_rfl
theorem fs26_1 : fSh Try.prog 26 1 = some (1, .one) := by kernel_rfl
theorem so26 : structOf Try.prog 26 = some ([.int .i64 0, .int .i64 0], [(0, 1), (1, 1)]) := by kernel_rfl
theorem zo26 : zeroOf Try.prog 26 = some [.int .i64 0, .int .i64 0] := by kernel_rfl
theorem eq26 : eqInts Try.prog 26 = some 2 := by kernel_rfl
theorem sh27 : shapeOf Try.prog 27 = .many 2 := by kernel_rfl
theorem sz27 : szOf Try.prog 27 = some 2 := by kernel_rfl
theorem es27 : elemSz Try.prog 27 = none := by kernel_rfl
theorem fo27_0 : fOff Try.prog 27 0 = some 0 := by kernel_rfl
theorem fs27_0 : fSh Try.prog 27 0 = some (0, .one) := by kernel_rfl
theorem fo27_1 : fOff Try.prog 27 1 = some 1 := by kernel_rfl
theorem fs27_1 : fSh Try.prog 27 1 = some (1, .one) := by kernel_rfl
theorem so27 : structOf Try.prog 27 = some ([.int .i64 0, .int .i64 0], [(0, 1), (1, 1)]) := by kernel_rfl
theorem zo27 : zeroOf Try.prog 27 = some [.int .i64 0, .int .i64 0] := by kernel_rfl
theorem eq27 : eqInts Try.prog 27 = some 2 := by kernel_rfl
theorem sh30 : shapeOf Try.prog 30 = .one := by kernel_rfl
theorem sz30 : szOf Try.prog 30 = some 1 := by kernel_rfl
theorem es30 : elemSz Try.prog 30 = some 3 := by kernel_rfl
theorem sl30 : sliceOf Try.prog 30 = some (33, 3, 24, [.int .i64 0, .int .i64 0, .int .i64 0]) := by kernel_rfl
theorem zo30 : zeroOf Try.prog 30 = some [.slice none 0 0] := by kernel_rfl
theorem sh31 : shapeOf Try.prog 31 = .one := by kernel_rfl
theorem sz31 : szOf Try.prog 31 = some 1 := by kernel_rfl
theorem es31 : elemSz Try.prog 31 = some 3 := by kernel_rfl
theorem sl31 : sliceOf Try.prog 31 = some (34, 3, 24, [.int .i64 0, .int .i64 0, .int .i64 0]) := by kernel_rfl
theorem zo31 : zeroOf Try.prog 31 = some [.slice none 0 0] := by kernel_rfl
theorem sh32 : shapeOf Try.prog 32 = .many 3 := by kernel_rfl
theorem sz32 : szOf Try.prog 32 = some 3 := by kernel_rfl
theorem es32 : elemSz Try.prog 32 = none := by kernel_rfl
theorem fo32_0 : fOff Try.prog 32 0 = some 0 := by kernel_rfl
theorem fs32_0 : fSh Try.prog 32 0 = some (0, .one) := by kernel_rfl
theorem fo32_1 : fOff Try.prog 32 1 = some 1 := by kernel_rfl
theorem fs32_1 : fSh Try.prog 32 1 = some (1, .one) := by kernel_rfl
theorem fo32_2 : fOff Try.prog 32 2 = some 2 := by kernel_rfl
theorem fs32_2 : fSh Try.prog 32 2 = some (2, .one) := by kernel_rfl
theorem so32 : structOf Try.prog 32 = some ([.int .i64 0, .int .i64 0, .int .i64 0], [(0, 1), (1, 1), (2, 1)]) := by kernel_rfl
theorem zo32 : zeroOf Try.prog 32 = some [.int .i64 0, .int .i64 0, .int .i64 0] := by kernel_rfl
theorem eq32 : eqInts Try.prog 32 = some 3 := by kernel_rfl
theorem sh33 : shapeOf Try.prog 33 = .many 3 := by kernel_rfl
theorem sz33 : szOf Try.prog 33 = some 3 := by kernel_rfl
theorem es33 : elemSz Try.prog 33 = none := by kernel_rfl
theorem fo33_0 : fOff Try.prog 33 0 = some 0 := by kernel_rfl
theorem fs33_0 : fSh Try.prog 33 0 = some (0, .one) := by kernel_rfl
theorem fo33_1 : fOff Try.prog 33 1 = some 1 := by kernel_rfl
theorem fs33_1 : fSh Try.prog 33 1 = some (1, .one) := by kernel_rfl
theorem fo33_2 : fOff Try.prog 33 2 = some 2 := by kernel_rfl
theorem fs33_2 : fSh Try.prog 33 2 = some (2, .one) := by kernel_rfl
theorem so33 : structOf Try.prog 33 = some ([.int .i64 0, .int .i64 0, .int .i64 0], [(0, 1), (1, 1), (2, 1)]) := by kernel_rfl
theorem zo33 : zeroOf Try.prog 33 = some [.int .i64 0, .int .i64 0, .int .i64 0] := by kernel_rfl
theorem eq33 : eqInts Try.prog 33 = some 3 := by kernel_rfl
theorem sh34 : shapeOf Try.prog 34 = .many 3 := by kernel_rfl
theorem sz34 : szOf Try.prog 34 = some 3 := by kernel_rfl
theorem es34 : elemSz Try.prog 34 = none := by kernel_rfl
theorem fo34_0 : fOff Try.prog 34 0 = some 0 := by kernel_rfl
theorem fs34_0 : fSh Try.prog 34 0 = some (0, .one) := by kernel_rfl
theorem fo34_1 : fOff Try.prog 34 1 = some 1 := by kernel_rfl
theorem fs34_1 : fSh Try.prog 34 1 = some (1, .one) := by kernel_rfl
theorem fo34_2 : fOff Try.prog 34 2 = some 2 := by kernel_rfl
theorem fs34_2 : fSh Try.prog 34 2 = some (2, .one) := by kernel_rfl
theorem so34 : structOf Try.prog 34 = some ([.int .i64 0, .int .i64 0, .int .i64 0], [(0, 1), (1, 1), (2, 1)]) := by kernel_rfl
theorem zo34 : zeroOf Try.prog 34 = some [.int .i64 0, .int .i64 0, .int .i64 0] := by kernel_rfl
theorem eq34 : eqInts Try.prog 34 = some 3 := by kernel_rfl
theorem sh43 : shapeOf Try.prog 43 = .many 4 := by kernel_rfl
theorem sz43 : szOf Try.prog 43 = some 4 := by kernel_rfl
theorem es43 : elemSz Try.prog 43 = none := by kernel_rfl
theorem fo43_0 : fOff Try.prog 43 0 = some 0 := by kernel_rfl
theorem fs43_0 : fSh Try.prog 43 0 = some (0, .one) := by kernel_rfl
theorem fo43_1 : fOff Try.prog 43 1 = some 1 := by kernel_rfl
theorem fs43_1 : fSh Try.prog 43 1 = some (1, .one) := by kernel_rfl
theorem fo43_2 : fOff Try.prog 43 2 = some 2 := by kernel_rfl
theorem fs43_2 : fSh Try.prog 43 2 = some (2, .one) := by kernel_rfl
theorem fo43_3 : fOff Try.prog 43 3 = some 3 := by kernel_rfl
theorem fs43_3 : fSh Try.prog 43 3 = some (3, .one) := by kernel_rfl
theorem so43 : structOf Try.prog 43 = some ([.int .i64 0, .int .i64 0, .int .i64 0, .int .i64 0], [(0, 1), (1, 1), (2, 1), (3, 1)]) := by kernel_rfl
theorem zo43 : zeroOf Try.prog 43 = some [.int .i64 0, .int .i64 0, .int .i64 0, .int .i64 0] := by kernel_rfl
theorem eq43 : eqInts Try.prog 43 = some 4 := by kernel_rfl
theorem sh44 : shapeOf Try.prog 44 = .many 4 := by kernel_rfl
theorem sz44 : szOf Try.prog 44 = some 4 := by kernel_rfl
theorem es44 : elemSz Try.prog 44 = none := by kernel_rfl
theorem fo44_0 : fOff Try.prog 44 0 = some 0 := by kernel_rfl
theorem fs44_0 : fSh Try.prog 44 0 = some (0, .one) := by kernel_rfl
theorem fo44_1 : fOff Try.prog 44 1 = some 1 := by kernel_rfl
theorem fs44_1 : fSh Try.prog 44 1 = some (1, .one) := by kernel_rfl
theorem fo44_2 : fOff Try.prog 44 2 = some 2 := by kernel_rfl
theorem fs44_2 : fSh Try.prog 44 2 = some (2, .one) := by kernel_rfl
theorem fo44_3 : fOff Try.prog 44 3 = some 3 := by kernel_rfl
theorem fs44_3 : fSh Try.prog 44 3 = some (3, .one) := by kernel_rfl
theorem so44 : structOf Try.prog 44 = some ([.int .i64 0, .int .i64 0, .int .i64 0, .int .i64 0], [(0, 1), (1, 1), (2, 1), (3, 1)]) := by kernel_rfl
theorem zo44 : zeroOf Try.prog 44 = some [.int .i64 0, .int .i64 0, .int .i64 0, .int .i64 0] := by kernel_rfl
theorem eq44 : eqInts Try.prog 44 = some 4 := by kernel_rfl
theorem sh50 : shapeOf Try.prog 50 = .one := by kernel_rfl
theorem sz50 : szOf Try.prog 50 = some 1 := by kernel_rfl
theorem es50 : elemSz Try.prog 50 = some 6 := by kernel_rfl
theorem sl50 : sliceOf Try.prog 50 = some (55, 6, 64, [.int .i64 0, .int .i64 0, .int .i64 0, .int .i64 0, .int .i64 0, .slice none 0 0]) := by kernel_rfl
theorem zo50 : zeroOf Try.prog 50 = some [.slice none 0 0] := by kernel_rfl
theorem sh51 : shapeOf Try.prog 51 = .many 8 := by kernel_rfl
theorem sz51 : szOf Try.prog 51 = some 8 := by kernel_rfl
theorem es51 : elemSz Try.prog 51 = none := by kernel_rfl
theorem fo51_0 : fOff Try.prog 51 0 = some 0 := by kernel_rfl
theorem fs51_0 : fSh Try.prog 51 0 = some (0, .one) := by kernel_rfl
theorem fo51_1 : fOff Try.prog 51 1 = some 1 := by kernel_rfl
theorem fs51_1 : fSh Try.prog 51 1 = some (1, .one) := by kernel_rfl
theorem fo51_2 : fOff Try.prog 51 2 = some 2 := by kernel_rfl
theorem fs51_2 : fSh Try.prog 51 2 = some (2, .one) := by kernel_rfl
theorem fo51_3 : fOff Try.prog 51 3 = some 3 := by kernel_rfl
theorem fs51_3 : fSh Try.prog 51 3 = some (3, .one) := by kernel_rfl
theorem fo51_4 : fOff Try.prog 51 4 = some 4 := by kernel_rfl
theorem fs51_4 : fSh Try.prog 51 4 = some (4, .one) := by kernel_rfl
theorem fo51_5 : fOff Try.prog 51 5 = some 5 := by kernel_rfl
theorem fs51_5 : fSh Try.prog 51 5 = some (5, .one) := by kernel_rfl
theorem fo51_6 : fOff Try.prog 51 6 = some 6 := by kernel_rfl
theorem fs51_6 : fSh Try.prog 51 6 = some (6, .one) := by kernel_rfl
theorem fo51_7 : fOff Try.prog 51 7 = some 7 := by kernel_rfl
theorem fs51_7 : fSh Try.prog 51 7 = some (7, .one) := by kernel_rfl
theorem so51 : structOf Try.prog 51 = some ([.int .i64 0, .int .i64 0, .int .i64 0, .int .i64 0, .int .i64 0, .int .i64 0, .bool false, .slice none 0 0], [(0, 1), (1, 1), (2, 1), (3, 1), (4, 1), (5, 1), (6, 1), (7, 1)]) := by kernel_rfl
theorem zo51 : zeroOf Try.prog 51 = some [.int .i64 0, .int .i64 0, .int .i64 0, .int .i64 0, .int .i64 0, .int .i64 0, .bool false, .slice none 0 0] := by kernel_rfl
theorem sh52 : shapeOf Try.prog 52 = .many 8 := by kernel_rfl
theorem sz52 : szOf Try.prog 52 = some 8 := by kernel_rfl
theorem es52 : elemSz Try.prog 52 = none := by kernel_rfl
theorem fo52_0 : fOff Try.prog 52 0 = some 0 := by kernel_rfl
theorem fs52_0 : fSh Try.prog 52 0 = some (0, .one) := by kernel_rfl
theorem fo52_1 : fOff Try.prog 52 1 = some 1 := by kernel_rfl
theorem fs52_1 : fSh Try.prog 52 1 = some (1, .one) := by kernel_rfl
theorem fo52_2 : fOff Try.prog 52 2 = some 2 := by kernel_rfl
theorem fs52_2 : fSh Try.prog 52 2 = some (2, .one) := by kernel_rfl
theorem fo52_3 : fOff Try.prog 52 3 = some 3 := by kernel_rfl
theorem fs52_3 : fSh Try.prog 52 3 = some (3, .one) := by kernel_rfl
theorem fo52_4 : fOff Try.prog 52 4 = some 4 := by kernel_rfl
theorem fs52_4 : fSh Try.prog 52 4 = some (4, .one) := by kernel_rfl
theorem fo52_5 : fOff Try.prog 52 5 = some 5 := by kernel_rfl
theorem fs52_5 : fSh Try.prog 52 5 = some (5, .one) := by kernel_rfl
theorem fo52_6 : fOff Try.prog 52 6 = some 6 := by kernel_rfl
theorem fs52_6 : fSh Try.prog 52 6 = some (6, .one) := by kernel_rfl
theorem fo52_7 : fOff Try.prog 52 7 = some 7 := by kernel_rfl
theorem fs52_7 : fSh Try.prog 52 7 = some (7, .one) := by kernel_rfl
theorem so52 : structOf Try.prog 52 = some ([.int .i64 0, .int .i64 0, .int .i64 0, .int .i64 0, .int .i64 0, .int .i64 0, .bool false, .slice none 0 0], [(0, 1), (1, 1), (2, 1), (3, 1), (4, 1), (5, 1), (6, 1), (7, 1)]) := by kernel_rfl
theorem zo52 : zeroOf Try.prog 52 = some [.int .i64 0, .int .i64 0, .int .i64 0, .int .i64 0, .int .i64 0, .int .i64 0, .bool false, .slice none 0 0] := by kernel_rfl
theorem sh53 : shapeOf Try.prog 53 = .one := by kernel_rfl
theorem sz53 : szOf Try.prog 53 = some 1 := by kernel_rfl
theorem es53 : elemSz Try.prog 53 = some 4 := by kernel_rfl
theorem sl53 : sliceOf Try.prog 53 = some (59, 4, 32, [.int .i64 0, .int .i64 0, .int .i64 0, .int .i64 0]) := by kernel_rfl
theorem zo53 : zeroOf Try.prog 53 = some [.slice none 0 0] := by kernel_rfl
theorem sh54 : shapeOf Try.prog 54 = .many 6 := by kernel_rfl
theorem sz54 : szOf Try.prog 54 = some 6 := by kernel_rfl
theorem es54 : elemSz Try.prog 54 = none := by kernel_rfl
theorem fo54_0 : fOff Try.prog 54 0 = some 0 := by kernel_rfl
theorem fs54_0 : fSh Try.prog 54 0 = some (0, .one) := by kernel_rfl
theorem fo54_1 : fOff Try.prog 54 1 = some 1 := by kernel_rfl
theorem fs54_1 : fSh Try.prog 54 1 = some (1, .one) := by kernel_rfl
theorem fo54_2 : fOff Try.prog 54 2 = some 2 := by kernel_rfl
theorem fs54_2 : fSh Try.prog 54 2 = some (2, .one) := by kernel_rfl
theorem fo54_3 : fOff Try.prog 54 3 = some 3 := by kernel_rfl
theorem fs54_3 : fSh Try.prog 54 3 = some (3, .one) := by kernel_rfl
theorem fo54_4 : fOff Try.prog 54 4 = some 4 := by kernel_rfl
theorem fs54_4 : fSh Try.prog 54 4 = some (4, .one) := by kernel_rfl
theorem fo54_5 : fOff Try.prog 54 5 = some 5 := by kernel_rfl
theorem fs54_5 : fSh Try.prog 54 5 = some (5, .one) := by kernel_rfl
theorem so54 : structOf Try.prog 54 = some ([.int .i64 0, .int .i64 0, .int .i64 0, .int .i64 0, .int .i64 0, .slice none 0 0], [(0, 1), (1, 1), (2, 1), (3, 1), (4, 1), (5, 1)]) := by kernel_rfl
theorem zo54 : zeroOf Try.prog 54 = some [.int .i64 0, .int .i64 0, .int .i64 0, .int .i64 0, .int .i64 0, .slice none 0 0] := by kernel_rfl
theorem sh55 : shapeOf Try.prog 55 = .many 6 := by kernel_rfl
theorem sz55 : szOf Try.prog 55 = some 6 := by kernel_rfl
theorem es55 : elemSz Try.prog 55 = none := by kernel_rfl
theorem fo55_0 : fOff Try.prog 55 0 = some 0 := by kernel_rfl
theorem fs55_0 : fSh Try.prog 55 0 = some (0, .one) := by kernel_rfl
theorem fo55_1 : fOff Try.prog 55 1 = some 1 := by kernel_rfl
theorem fs55_1 : fSh Try.prog 55 1 = some (1, .one) := by kernel_rfl
theorem fo55_2 : fOff Try.prog 55 2 = some 2 := by kernel_rfl
theorem fs55_2 : fSh Try.prog 55 2 = some (2, .one) := by kernel_rfl
theorem fo55_3 : fOff Try.prog 55 3 = some 3 := by kernel_rfl
theorem fs55_3 : fSh Try.prog 55 3 = some (3, .one) := by kernel_rfl
theorem fo55_4 : fOff Try.prog 55 4 = some 4 := by kernel_rfl
theorem fs55_4 : fSh Try.prog 55 4 = some (4, .one) := by kernel_rfl
theorem fo55_5 : fOff Try.prog 55 5 = some 5 := by kernel_rfl
theorem fs55_5 : fSh Try.prog 55 5 = some (5, .one) := by kernel_rfl
theorem so55 : structOf Try.prog 55 = some ([.int .i64 0, .int .i64 0, .int .i64 0, .int .i64 0, .int .i64 0, .slice none 0 0], [(0, 1), (1, 1), (2, 1), (3, 1), (4, 1), (5, 1)]) := by kernel_rfl
theorem zo55 : zeroOf Try.prog 55 = some [.int .i64 0, .int .i64 0, .int .i64 0, .int .i64 0, .int .i64 0, .slice none 0 0] := by kernel_rfl
theorem sh58 : shapeOf Try.prog 58 = .many 4 := by kernel_rfl
theorem sz58 : szOf Try.prog 58 = some 4 := by kernel_rfl
theorem es58 : elemSz Try.prog 58 = none := by kernel_rfl
theorem fo58_0 : fOff Try.prog 58 0 = some 0 := by kernel_rfl
theorem fs58_0 : fSh Try.prog 58 0 = some (0, .one) := by kernel_rfl
theorem fo58_1 : fOff Try.prog 58 1 = some 1 := by kernel_rfl
theorem fs58_1 : fSh Try.prog 58 1 = some (1, .one) := by kernel_rfl
theorem fo58_2 : fOff Try.prog 58 2 = some 2 := by kernel_rfl
theorem fs58_2 : fSh Try.prog 58 2 = some (2, .one) := by kernel_rfl
theorem fo58_3 : fOff Try.prog 58 3 = some 3 := by kernel_rfl
theorem fs58_3 : fSh Try.prog 58 3 = some (3, .one) := by kernel_rfl
theorem so58 : structOf Try.prog 58 = some ([.int .i64 0, .int .i64 0, .int .i64 0, .int .i64 0], [(0, 1), (1, 1), (2, 1), (3, 1)]) := by kernel_rfl
theorem zo58 : zeroOf Try.prog 58 = some [.int .i64 0, .int .i64 0, .int .i64 0, .int .i64 0] := by kernel_rfl
theorem eq58 : eqInts Try.prog 58 = some 4 := by kernel_rfl
theorem sh59 : shapeOf Try.prog 59 = .many 4 := by kernel_rfl
theorem sz59 : szOf Try.prog 59 = some 4 := by kernel_rfl
theorem es59 : elemSz Try.prog 59 = none := by kernel_rfl
theorem fo59_0 : fOff Try.prog 59 0 = some 0 := by kernel_rfl
theorem fs59_0 : fSh Try.prog 59 0 = some (0, .one) := by kernel_rfl
theorem fo59_1 : fOff Try.prog 59 1 = some 1 := by kernel_rfl
theorem fs59_1 : fSh Try.prog 59 1 = some (1, .one) := by kernel_rfl
theorem fo59_2 : fOff Try.prog 59 2 = some 2 := by kernel_rfl
theorem fs59_2 : fSh Try.prog 59 2 = some (2, .one) := by kernel_rfl
theorem fo59_3 : fOff Try.prog 59 3 = some 3 := by kernel_rfl
theorem fs59_3 : fSh Try.prog 59 3 = some (3, .one) := by kernel_rfl
theorem so59 : structOf Try.prog 59 = some ([.int .i64 0, .int .i64 0, .int .i64 0, .int .i64 0], [(0, 1), (1, 1), (2, 1), (3, 1)]) := by kernel_rfl
theorem zo59 : zeroOf Try.prog 59 = some [.int .i64 0, .int .i64 0, .int .i64 0, .int .i64 0] := by kernel_rfl
theorem eq59 : eqInts Try.prog 59 = some 4 := by kernel_rfl
theorem sh70 : shapeOf Try.prog 70 = .many 4 := by kernel_rfl
theorem sz70 : szOf Try.prog 70 = some 4 := by kernel_rfl
theorem es70 : elemSz Try.prog 70 = none := by kernel_rfl
theorem fo70_0 : fOff Try.prog 70 0 = some 0 := by kernel_rfl
theorem fs70_0 : fSh Try.prog 70 0 = some (0, .one) := by kernel_rfl
theorem fo70_1 : fOff Try.prog 70 1 = some 1 := by kernel_rfl
theorem fs70_1 : fSh Try.prog 70 1 = some (1, .one) := by kernel_rfl
theorem fo70_2 : fOff Try.prog 70 2 = some 2 := by kernel_rfl
theorem fs70_2 : fSh Try.prog 70 2 = some (2, .one) := by kernel_rfl
theorem fo70_3 : fOff Try.prog 70 3 = some 3 := by kernel_rfl
theorem fs70_3 : fSh Try.prog 70 3 = some (3, .one) := by kernel_rfl
theorem so70 : structOf Try.prog 70 = some ([.pointer none, .pointer none, .pointer none, .string ⟨#[]⟩], [(0, 1), (1, 1), (2, 1), (3, 1)]) := by kernel_rfl
theorem zo70 : zeroOf Try.prog 70 = some [.pointer none, .pointer none, .pointer none, .string ⟨#[]⟩] := by kernel_rfl
theorem sh71 : shapeOf Try.prog 71 = .many 4 := by kernel_rfl
theorem sz71 : szOf Try.prog 71 = some 4 := by kernel_rfl
theorem es71 : elemSz Try.prog 71 = none := by kernel_rfl
theorem fo71_0 : fOff Try.prog 71 0 = some 0 := by kernel_rfl
theorem fs71_0 : fSh Try.prog 71 0 = some (0, .one) := by kernel_rfl
theorem fo71_1 : fOff Try.prog 71 1 = some 1 := by kernel_rfl
theorem fs71_1 : fSh Try.prog 71 1 = some (1, .one) := by kernel_rfl
theorem fo71_2 : fOff Try.prog 71 2 = some 2 := by kernel_rfl
theorem fs71_2 : fSh Try.prog 71 2 = some (2, .one) := by kernel_rfl
theorem fo71_3 : fOff Try.prog 71 3 = some 3 := by kernel_rfl
theorem fs71_3 : fSh Try.prog 71 3 = some (3, .one) := by kernel_rfl
theorem so71 : structOf Try.prog 71 = some ([.pointer none, .pointer none, .pointer none, .string ⟨#[]⟩], [(0, 1), (1, 1), (2, 1), (3, 1)]) := by kernel_rfl
theorem zo71 : zeroOf Try.prog 71 = some [.pointer none, .pointer none, .pointer none, .string ⟨#[]⟩] := by kernel_rfl
theorem sh72 : shapeOf Try.prog 72 = .many 0 := by kernel_rfl
theorem sz72 : szOf Try.prog 72 = some 0 := by kernel_rfl
theorem es72 : elemSz Try.prog 72 = none := by kernel_rfl
theorem zo72 : zeroOf Try.prog 72 = some [] := by kernel_rfl
theorem sh73 : shapeOf Try.prog 73 = .many 0 := by kernel_rfl
theorem sz73 : szOf Try.prog 73 = some 0 := by kernel_rfl
theorem es73 : elemSz Try.prog 73 = none := by kernel_rfl
theorem fs73_0 : fSh Try.prog 73 0 = some (0, .many 0) := by kernel_rfl
theorem zo73 : zeroOf Try.prog 73 = some [] := by kernel_rfl
theorem sh74 : shapeOf Try.prog 74 = .many 0 := by kernel_rfl
theorem sz74 : szOf Try.prog 74 = some 0 := by kernel_rfl
theorem es74 : elemSz Try.prog 74 = none := by kernel_rfl
theorem fs74_0 : fSh Try.prog 74 0 = some (0, .many 0) := by kernel_rfl
theorem zo74 : zeroOf Try.prog 74 = some [] := by kernel_rfl
theorem sh76 : shapeOf Try.prog 76 = .one := by kernel_rfl
theorem sz76 : szOf Try.prog 76 = some 1 := by kernel_rfl
theorem ik76 : intKindOf Try.prog 76 = some .u32 := by kernel_rfl
theorem es76 : elemSz Try.prog 76 = none := by kernel_rfl
theorem zo76 : zeroOf Try.prog 76 = some [.int .u32 0] := by kernel_rfl
theorem us76 : (Try.prog.underlying 76).isSome = true := by kernel_rfl
theorem sh77 : shapeOf Try.prog 77 = .one := by kernel_rfl
theorem sz77 : szOf Try.prog 77 = some 1 := by kernel_rfl
theorem ik77 : intKindOf Try.prog 77 = some .u8 := by kernel_rfl
theorem es77 : elemSz Try.prog 77 = none := by kernel_rfl
theorem zo77 : zeroOf Try.prog 77 = some [.int .u8 0] := by kernel_rfl
theorem us77 : (Try.prog.underlying 77).isSome = true := by kernel_rfl
theorem sh78 : shapeOf Try.prog 78 = .one := by kernel_rfl
theorem sz78 : szOf Try.prog 78 = some 1 := by kernel_rfl
theorem ik78 : intKindOf Try.prog 78 = some .u8 := by kernel_rfl
theorem es78 : elemSz Try.prog 78 = none := by kernel_rfl
theorem zo78 : zeroOf Try.prog 78 = some [.int .u8 0] := by kernel_rfl
theorem us78 : (Try.prog.underlying 78).isSome = true := by kernel_rfl
theorem sh80 : shapeOf Try.prog 80 = .one := by kernel_rfl
theorem sz80 : szOf Try.prog 80 = some 1 := by kernel_rfl
theorem es80 : elemSz Try.prog 80 = none := by kernel_rfl
theorem zo80 : zeroOf Try.prog 80 = some [.pointer none] := by kernel_rfl
theorem sh81 : shapeOf Try.prog 81 = .one := by kernel_rfl
theorem sz81 : szOf Try.prog 81 = some 1 := by kernel_rfl
theorem ik81 : intKindOf Try.prog 81 = some .i32 := by kernel_rfl
theorem es81 : elemSz Try.prog 81 = none := by kernel_rfl
theorem zo81 : zeroOf Try.prog 81 = some [.int .i32 0] := by kernel_rfl
theorem us81 : (Try.prog.underlying 81).isSome = true := by kernel_rfl
theorem sh82 : shapeOf Try.prog 82 = .one := by kernel_rfl
theorem sz82 : szOf Try.prog 82 = some 1 := by kernel_rfl
theorem ik82 : intKindOf Try.prog 82 = some .i32 := by kernel_rfl
theorem es82 : elemSz Try.prog 82 = none := by kernel_rfl
theorem zo82 : zeroOf Try.prog 82 = some [.int .i32 0] := by kernel_rfl
theorem us82 : (Try.prog.underlying 82).isSome = true := by kernel_rfl
theorem sh83 : shapeOf Try.prog 83 = .many 11 := by kernel_rfl
theorem sz83 : szOf Try.prog 83 = some 11 := by kernel_rfl
theorem es83 : elemSz Try.prog 83 = none := by kernel_rfl
theorem fo83_0 : fOff Try.prog 83 0 = some 0 := by kernel_rfl
theorem fs83_0 : fSh Try.prog 83 0 = some (0, .one) := by kernel_rfl
theorem fo83_1 : fOff Try.prog 83 1 = some 1 := by kernel_rfl
theorem fs83_1 : fSh Try.prog 83 1 = some (1, .one) := by kernel_rfl
theorem fo83_2 : fOff Try.prog 83 2 = some 2 := by kernel_rfl
theorem fs83_2 : fSh Try.prog 83 2 = some (2, .one) := by kernel_rfl
theorem fo83_3 : fOff Try.prog 83 3 = some 3 := by kernel_rfl
theorem fs83_3 : fSh Try.prog 83 3 = some (3, .one) := by kernel_rfl
theorem fo83_4 : fOff Try.prog 83 4 = some 4 := by kernel_rfl
theorem fs83_4 : fSh Try.prog 83 4 = some (4, .one) := by kernel_rfl
theorem fo83_5 : fOff Try.prog 83 5 = some 5 := by kernel_rfl
theorem fs83_5 : fSh Try.prog 83 5 = some (5, .one) := by kernel_rfl
theorem fo83_6 : fOff Try.prog 83 6 = some 6 := by kernel_rfl
theorem fs83_6 : fSh Try.prog 83 6 = some (6, .one) := by kernel_rfl
theorem fo83_8 : fOff Try.prog 83 8 = some 8 := by kernel_rfl
theorem fs83_8 : fSh Try.prog 83 8 = some (8, .one) := by kernel_rfl
theorem fo83_9 : fOff Try.prog 83 9 = some 9 := by kernel_rfl
theorem fs83_9 : fSh Try.prog 83 9 = some (9, .one) := by kernel_rfl
theorem fo83_10 : fOff Try.prog 83 10 = some 10 := by kernel_rfl
theorem fs83_10 : fSh Try.prog 83 10 = some (10, .one) := by kernel_rfl
theorem zo83 : zeroOf Try.prog 83 = some [.int .u64 0, .int .u64 0, .int .u32 0, .int .u8 0, .int .u8 0, .int .u8 0, .int .u8 0, .nilFunc, .pointer none, .int .i32 0, .int .i32 0] := by kernel_rfl
theorem sh84 : shapeOf Try.prog 84 = .many 11 := by kernel_rfl
theorem sz84 : szOf Try.prog 84 = some 11 := by kernel_rfl
theorem es84 : elemSz Try.prog 84 = none := by kernel_rfl
theorem fo84_0 : fOff Try.prog 84 0 = some 0 := by kernel_rfl
theorem fs84_0 : fSh Try.prog 84 0 = some (0, .one) := by kernel_rfl
theorem fo84_1 : fOff Try.prog 84 1 = some 1 := by kernel_rfl
theorem fs84_1 : fSh Try.prog 84 1 = some (1, .one) := by kernel_rfl
theorem fo84_2 : fOff Try.prog 84 2 = some 2 := by kernel_rfl
theorem fs84_2 : fSh Try.prog 84 2 = some (2, .one) := by kernel_rfl
theorem fo84_3 : fOff Try.prog 84 3 = some 3 := by kernel_rfl
theorem fs84_3 : fSh Try.prog 84 3 = some (3, .one) := by kernel_rfl
theorem fo84_4 : fOff Try.prog 84 4 = some 4 := by kernel_rfl
theorem fs84_4 : fSh Try.prog 84 4 = some (4, .one) := by kernel_rfl
theorem fo84_5 : fOff Try.prog 84 5 = some 5 := by kernel_rfl
theorem fs84_5 : fSh Try.prog 84 5 = some (5, .one) := by kernel_rfl
theorem fo84_6 : fOff Try.prog 84 6 = some 6 := by kernel_rfl
theorem fs84_6 : fSh Try.prog 84 6 = some (6, .one) := by kernel_rfl
theorem fo84_8 : fOff Try.prog 84 8 = some 8 := by kernel_rfl
theorem fs84_8 : fSh Try.prog 84 8 = some (8, .one) := by kernel_rfl
theorem fo84_9 : fOff Try.prog 84 9 = some 9 := by kernel_rfl
theorem fs84_9 : fSh Try.prog 84 9 = some (9, .one) := by kernel_rfl
theorem fo84_10 : fOff Try.prog 84 10 = some 10 := by kernel_rfl
theorem fs84_10 : fSh Try.prog 84 10 = some (10, .one) := by kernel_rfl
theorem zo84 : zeroOf Try.prog 84 = some [.int .u64 0, .int .u64 0, .int .u32 0, .int .u8 0, .int .u8 0, .int .u8 0, .int .u8 0, .nilFunc, .pointer none, .int .i32 0, .int .i32 0] := by kernel_rfl
/-- All of them under one name. -/
def tabs := PLift.up (And.intro (And.intro (And.intro (And.intro (And.intro (And.intro (And.intro (And.intro sh2 (And.intro sz2 ik2)) (And.intro (And.intro es2 zo2) (And.intro us2 sh3))) (And.intro (And.intro sz3 (And.intro ik3 es3)) (And.intro (And.intro zo3 us3) (And.intro sh4 sz4)))) (And.intro (And.intro (And.intro es4 (And.intro zo4 bt4)) (And.intro (And.intro sh5 sz5) (And.intro ik5 es5))) (And.intro (And.intro (And.intro zo5 us5) (And.intro sh6 sz6)) (And.intro (And.intro ik6 es6) (And.intro zo6 us6))))) (And.intro (And.intro (And.intro (And.intro sh7 (And.intro sz7 es7)) (And.intro (And.intro fo7_0 fs7_0) (And.intro fo7_1 fs7_1))) (And.intro (And.intro (And.intro fo7_2 fs7_2) (And.intro fo7_3 fs7_3)) (And.intro (And.intro so7 zo7) (And.intro sh8 sz8)))) (And.intro (And.intro (And.intro es8 (And.intro fo8_0 fs8_0)) (And.intro (And.intro fo8_1 fs8_1) (And.intro fo8_2 fs8_2))) (And.intro (And.intro (And.intro fo8_3 fs8_3) (And.intro so8 zo8)) (And.intro (And.intro sh9 sz9) (And.intro es9 zo9)))))) (And.intro (And.intro (And.intro (And.intro (And.intro un9 (And.intro sh10 sz10)) (And.intro (And.intro es10 zo10) (And.intro un10 sh11))) (And.intro (And.intro (And.intro sz11 es11) (And.intro zo11 un11)) (And.intro (And.intro sh12 sz12) (And.intro ik12 es12)))) (And.intro (And.intro (And.intro zo12 (And.intro us12 sh13)) (And.intro (And.intro sz13 es13) (And.intro fo13_0 fs13_0))) (And.intro (And.intro (And.intro fo13_1 fs13_1) (And.intro so13 zo13)) (And.intro (And.intro sh14 sz14) (And.intro es14 fo14_0))))) (And.intro (And.intro (And.intro (And.intro fs14_0 (And.intro fo14_1 fs14_1)) (And.intro (And.intro so14 zo14) (And.intro sh15 sz15))) (And.intro (And.intro (And.intro es15 zo15) (And.intro sh16 sz16)) (And.intro (And.intro es16 zo16) (And.intro sh17 sz17)))) (And.intro (And.intro (And.intro es17 (And.intro zo17 sh18)) (And.intro (And.intro sz18 es18) (And.intro fo18_0 fs18_0))) (And.intro (And.intro (And.intro so18 zo18) (And.intro sh19 sz19)) (And.intro (And.intro es19 fo19_0) (And.intro fs19_0 so19))))))) (And.intro (And.intro (And.intro (And.intro (And.intro (And.intro zo19 (And.intro sh21 sz21)) (And.intro (And.intro ik21 es21) (And.intro zo21 us21))) (And.intro (And.intro (And.intro sh22 sz22) (And.intro es22 sl22)) (And.intro (And.intro zo22 sh23) (And.intro sz23 es23)))) (And.intro (And.intro (And.intro fo23_0 (And.intro fs23_0 fo23_1)) (And.intro (And.intro fs23_1 so23) (And.intro zo23 sh24))) (And.intro (And.intro (And.intro sz24 es24) (And.intro fo24_0 fs24_0)) (And.intro (And.intro fo24_1 fs24_1) (And.intro so24 zo24))))) (And.intro (And.intro (And.intro (And.intro sh26 (And.intro sz26 es26)) (And.intro (And.intro fo26_0 fs26_0) (And.intro fo26_1 fs26_1))) (And.intro (And.intro (And.intro so26 zo26) (And.intro eq26 sh27)) (And.intro (And.intro sz27 es27) (And.intro fo27_0 fs27_0)))) (And.intro (And.intro (And.intro fo27_1 (And.intro fs27_1 so27)) (And.intro (And.intro zo27 eq27) (And.intro sh30 sz30))) (And.intro (And.intro (And.intro es30 sl30) (And.intro zo30 sh31)) (And.intro (And.intro sz31 es31) (And.intro sl31 zo31)))))) (And.intro (And.intro (And.intro (And.intro (And.intro sh32 (And.intro sz32 es32)) (And.intro (And.intro fo32_0 fs32_0) (And.intro fo32_1 fs32_1))) (And.intro (And.intro (And.intro fo32_2 fs32_2) (And.intro so32 zo32)) (And.intro (And.intro eq32 sh33) (And.intro sz33 es33)))) (And.intro (And.intro (And.intro fo33_0 (And.intro fs33_0 fo33_1)) (And.intro (And.intro fs33_1 fo33_2) (And.intro fs33_2 so33))) (And.intro (And.intro (And.intro zo33 eq33) (And.intro sh34 sz34)) (And.intro (And.intro es34 fo34_0) (And.intro fs34_0 fo34_1))))) (And.intro (And.intro (And.intro (And.intro fs34_1 (And.intro fo34_2 fs34_2)) (And.intro (And.intro so34 zo34) (And.intro eq34 sh43))) (And.intro (And.intro (And.intro sz43 es43) (And.intro fo43_0 fs43_0)) (And.intro (And.intro fo43_1 fs43_1) (And.intro fo43_2 fs43_2)))) (And.intro (And.intro (And.intro fo43_3 (And.intro fs43_3 so43)) (And.intro (And.intro zo43 eq43) (And.intro sh44 sz44))) (And.intro (And.intro (And.intro es44 fo44_0) (And.intro fs44_0 fo44_1)) (And.intro (And.intro fs44_1 fo44_2) (And.intro fs44_2 fo44_3)))))))) (And.intro (And.intro (And.intro (And.intro (And.intro (And.intro (And.intro fs44_3 (And.intro so44 zo44)) (And.intro (And.intro eq44 sh50) (And.intro sz50 es50))) (And.intro (And.intro (And.intro sl50 zo50) (And.intro sh51 sz51)) (And.intro (And.intro es51 fo51_0) (And.intro fs51_0 fo51_1)))) (And.intro (And.intro (And.intro fs51_1 (And.intro fo51_2 fs51_2)) (And.intro (And.intro fo51_3 fs51_3) (And.intro fo51_4 fs51_4))) (And.intro (And.intro (And.intro fo51_5 fs51_5) (And.intro fo51_6 fs51_6)) (And.intro (And.intro fo51_7 fs51_7) (And.intro so51 zo51))))) (And.intro (And.intro (And.intro (And.intro sh52 (And.intro sz52 es52)) (And.intro (And.intro fo52_0 fs52_0) (And.intro fo52_1 fs52_1))) (And.intro (And.intro (And.intro fo52_2 fs52_2) (And.intro fo52_3 fs52_3)) (And.intro (And.intro fo52_4 fs52_4) (And.intro fo52_5 fs52_5)))) (And.intro (And.intro (And.intro fo52_6 (And.intro fs52_6 fo52_7)) (And.intro (And.intro fs52_7 so52) (And.intro zo52 sh53))) (And.intro (And.intro (And.intro sz53 es53) (And.intro sl53 zo53)) (And.intro (And.intro sh54 sz54) (And.intro es54 fo54_0)))))) (And.intro (And.intro (And.intro (And.intro (And.intro fs54_0 (And.intro fo54_1 fs54_1)) (And.intro (And.intro fo54_2 fs54_2) (And.intro fo54_3 fs54_3))) (And.intro (And.intro (And.intro fo54_4 fs54_4) (And.intro fo54_5 fs54_5)) (And.intro (And.intro so54 zo54) (And.intro sh55 sz55)))) (And.intro (And.intro (And.intro es55 (And.intro fo55_0 fs55_0)) (And.intro (And.intro fo55_1 fs55_1) (And.intro fo55_2 fs55_2))) (And.intro (And.intro (And.intro fo55_3 fs55_3) (And.intro fo55_4 fs55_4)) (And.intro (And.intro fo55_5 fs55_5) (And.intro so55 zo55))))) (And.intro (And.intro (And.intro (And.intro sh58 (And.intro sz58 es58)) (And.intro (And.intro fo58_0 fs58_0) (And.intro fo58_1 fs58_1))) (And.intro (And.intro (And.intro fo58_2 fs58_2) (And.intro fo58_3 fs58_3)) (And.intro (And.intro so58 zo58) (And.intro eq58 sh59)))) (And.intro (And.intro (And.intro sz59 (And.intro es59 fo59_0)) (And.intro (And.intro fs59_0 fo59_1) (And.intro fs59_1 fo59_2))) (And.intro (And.intro (And.intro fs59_2 fo59_3) (And.intro fs59_3 so59)) (And.intro (And.intro zo59 eq59) (And.intro sh70 sz70))))))) (And.intro (And.intro (And.intro (And.intro (And.intro (And.intro es70 (And.intro fo70_0 fs70_0)) (And.intro (And.intro fo70_1 fs70_1) (And.intro fo70_2 fs70_2))) (And.intro (And.intro (And.intro fo70_3 fs70_3) (And.intro so70 zo70)) (And.intro (And.intro sh71 sz71) (And.intro es71 fo71_0)))) (And.intro (And.intro (And.intro fs71_0 (And.intro fo71_1 fs71_1)) (And.intro (And.intro fo71_2 fs71_2) (And.intro fo71_3 fs71_3))) (And.intro (And.intro (And.intro so71 zo71) (And.intro sh72 sz72)) (And.intro (And.intro es72 zo72) (And.intro sh73 sz73))))) (And.intro (And.intro (And.intro (And.intro es73 (And.intro fs73_0 zo73)) (And.intro (And.intro sh74 sz74) (And.intro es74 fs74_0))) (And.intro (And.intro (And.intro zo74 sh76) (And.intro sz76 ik76)) (And.intro (And.intro es76 zo76) (And.intro us76 sh77)))) (And.intro (And.intro (And.intro sz77 (And.intro ik77 es77)) (And.intro (And.intro zo77 us77) (And.intro sh78 sz78))) (And.intro (And.intro (And.intro ik78 es78) (And.intro zo78 us78)) (And.intro (And.intro sh80 sz80) (And.intro es80 zo80)))))) (And.intro (And.intro (And.intro (And.intro (And.intro sh81 (And.intro sz81 ik81)) (And.intro (And.intro es81 zo81) (And.intro us81 sh82))) (And.intro (And.intro (And.intro sz82 ik82) (And.intro es82 zo82)) (And.intro (And.intro us82 sh83) (And.intro sz83 es83)))) (And.intro (And.intro (And.intro fo83_0 (And.intro fs83_0 fo83_1)) (And.intro (And.intro fs83_1 fo83_2) (And.intro fs83_2 fo83_3))) (And.intro (And.intro (And.intro fs83_3 fo83_4) (And.intro fs83_4 fo83_5)) (And.intro (And.intro fs83_5 fo83_6) (And.intro fs83_6 fo83_8))))) (And.intro (And.intro (And.intro (And.intro fs83_8 (And.intro fo83_9 fs83_9)) (And.intro (And.intro fo83_10 fs83_10) (And.intro zo83 sh84))) (And.intro (And.intro (And.intro sz84 es84) (And.intro fo84_0 fs84_0)) (And.intro (And.intro fo84_1 fs84_1) (And.intro fo84_2 fs84_2)))) (And.intro (And.intro (And.intro fo84_3 (And.intro fs84_3 fo84_4)) (And.intro (And.intro fs84_4 fo84_5) (And.intro fs84_5 fo84_6))) (And.intro (And.intro (And.intro fs84_6 fo84_8) (And.intro fs84_8 fo84_9)) (And.intro (And.intro fs84_9 fo84_10) (And.intro fs84_10 zo84)))))))))
end Go.Proofs.Ytkmomjginjkhfaa
