/- Facts on the tables of the program, each by the kernel: sizes, zero values, which functions have bodies. Conditions: none. -/
import Derived.Test.YtmfbcniknjecbaaGreatDoorAb6
import Derived.Test.YtmfbcniknjecbaaGreatDoorProg
import Derived.KernelRfl
namespace Go.Proofs.YtmfbcniknjecbaaGreatDoor
open Go Go.Abs Go.Proofs
theorem tz3 : tsize Tryz.prog 3 = some 1 := by kernel_rfl
theorem zc3 : zeroC Tryz.prog 3 = some [.int .i64 0] := by kernel_rfl
theorem tz5 : tsize Tryz.prog 5 = some 1 := by kernel_rfl
theorem zc5 : zeroC Tryz.prog 5 = some [.int .u8 0] := by kernel_rfl
theorem tz41 : tsize Tryz.prog 41 = some 1 := by kernel_rfl
theorem zc41 : zeroC Tryz.prog 41 = some [.int .u64 0] := by kernel_rfl
theorem tz55 : tsize Tryz.prog 55 = some 1 := by kernel_rfl
theorem zc55 : zeroC Tryz.prog 55 = some [.nilsl] := by kernel_rfl
theorem tz63 : tsize Tryz.prog 63 = some 32 := by kernel_rfl
theorem tz71 : tsize Tryz.prog 71 = some 1 := by kernel_rfl
theorem zc71 : zeroC Tryz.prog 71 = some [.nilsl] := by kernel_rfl
theorem tz227 : tsize Tryz.prog 227 = some 1 := by kernel_rfl
theorem zc227 : zeroC Tryz.prog 227 = some [.int .u32 0] := by kernel_rfl
theorem tz355 : tsize Tryz.prog 355 = some 1 := by kernel_rfl
theorem zc355 : zeroC Tryz.prog 355 = some [.nilsl] := by kernel_rfl
theorem tz415 : tsize Tryz.prog 415 = some 1 := by kernel_rfl
theorem zc415 : zeroC Tryz.prog 415 = some [.nilsl] := by kernel_rfl
theorem tz540 : tsize Tryz.prog 540 = some 64 := by kernel_rfl
theorem tz542 : tsize Tryz.prog 542 = some 8 := by kernel_rfl
theorem zc542 : zeroC Tryz.prog 542 = some [.int .u32 0, .int .u32 0, .int .u32 0, .int .u32 0, .int .u32 0, .int .u32 0, .int .u32 0, .int .u32 0] := by kernel_rfl
theorem tz546 : tsize Tryz.prog 546 = some 1 := by kernel_rfl
theorem zc546 : zeroC Tryz.prog 546 = some [.nilptr] := by kernel_rfl
theorem tz615 : tsize Tryz.prog 615 = some 1 := by kernel_rfl
theorem zc615 : zeroC Tryz.prog 615 = some [.nilfunc] := by kernel_rfl
attribute [go_sem] tz3 tz5 tz41 tz55 tz63 tz71 tz227 tz355 tz415 tz540 tz542 tz546 tz615 zc3 zc5 zc41 zc55 zc71 zc227 zc355 zc415 zc542 zc546 zc615 Tryz.underlying3 Tryz.underlying5 Tryz.underlying41 Tryz.underlying55 Tryz.underlying63 Tryz.underlying71 Tryz.underlying227 Tryz.underlying355 Tryz.underlying415 Tryz.underlying540 Tryz.underlying542 Tryz.underlying546 Tryz.underlying615
theorem bd373 : bodied Tryz.prog 373 = true := by kernel_rfl
theorem bd452 : bodied Tryz.prog 452 = true := by kernel_rfl
theorem bd453 : bodied Tryz.prog 453 = true := by kernel_rfl
theorem bd454 : bodied Tryz.prog 454 = true := by kernel_rfl
theorem bd455 : bodied Tryz.prog 455 = true := by kernel_rfl
theorem bd518 : bodied Tryz.prog 518 = true := by kernel_rfl
theorem bd519 : bodied Tryz.prog 519 = true := by kernel_rfl
theorem bd520 : bodied Tryz.prog 520 = true := by kernel_rfl
theorem bd521 : bodied Tryz.prog 521 = true := by kernel_rfl
theorem bd522 : bodied Tryz.prog 522 = true := by kernel_rfl
theorem bd523 : bodied Tryz.prog 523 = true := by kernel_rfl
theorem bd569 : bodied Tryz.prog 569 = true := by kernel_rfl
theorem bd570 : bodied Tryz.prog 570 = true := by kernel_rfl
theorem bd605 : bodied Tryz.prog 605 = true := by kernel_rfl
end Go.Proofs.YtmfbcniknjecbaaGreatDoor
