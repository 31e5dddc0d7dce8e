/- Facts on the types. -/
import Derived.Test.YtnakpjnigfpkpaaAmC
import Derived.Test.YtnakpjnigfpkpaaProg
namespace Go.AM
open Go.RowKit Go.Proofs
theorem mx : Try.prog.follows .mixedOrders = true := by kernel_rfl
@[simp] theorem k0 : kdI Try.prog 0 = Option.some Go.AM.Kd.other := by kernel_rfl
@[simp] theorem t0 : tyI Try.prog 0 = Option.some (Bool.false, 1) := by kernel_rfl
@[simp] theorem z0 : zA Try.prog 0 = Option.none := by kernel_rfl
@[simp] theorem k3 : kdI Try.prog 3 = Option.some Go.AM.Kd.int := by kernel_rfl
@[simp] theorem t3 : tyI Try.prog 3 = Option.some (Bool.false, 1) := by kernel_rfl
@[simp] theorem a3 : apI Try.prog 3 = Option.some (1, 8) := by kernel_rfl
@[simp] theorem z3 : zA Try.prog 3 = Option.some (Go.AM.AV.v (Go.Value.int Go.IntKind.i64 0)) := by kernel_rfl
@[simp] theorem k4 : kdI Try.prog 4 = Option.some Go.AM.Kd.bool := by kernel_rfl
@[simp] theorem t4 : tyI Try.prog 4 = Option.some (Bool.false, 1) := by kernel_rfl
@[simp] theorem a4 : apI Try.prog 4 = Option.some (1, 1) := by kernel_rfl
@[simp] theorem z4 : zA Try.prog 4 = Option.some (Go.AM.AV.v (Go.Value.bool Bool.false)) := by kernel_rfl
@[simp] theorem k5 : kdI Try.prog 5 = Option.some Go.AM.Kd.int := by kernel_rfl
@[simp] theorem t5 : tyI Try.prog 5 = Option.some (Bool.false, 1) := by kernel_rfl
@[simp] theorem a5 : apI Try.prog 5 = Option.some (1, 1) := by kernel_rfl
@[simp] theorem z5 : zA Try.prog 5 = Option.some (Go.AM.AV.v (Go.Value.int Go.IntKind.u8 0)) := by kernel_rfl
@[simp] theorem k22 : kdI Try.prog 22 = Option.some Go.AM.Kd.sl := by kernel_rfl
@[simp] theorem t22 : tyI Try.prog 22 = Option.some (Bool.false, 1) := by kernel_rfl
@[simp] theorem s22 : slI Try.prog 22 = Option.some (5, Bool.false, 1) := by kernel_rfl
@[simp] theorem a22 : apI Try.prog 22 = Option.some (1, 24) := by kernel_rfl
@[simp] theorem z22 : zA Try.prog 22 = Option.some (Go.AM.AV.lst Go.AM.Fl.nil 1 []) := by kernel_rfl
@[simp] theorem k26 : kdI Try.prog 26 = Option.some Go.AM.Kd.other := by kernel_rfl
@[simp] theorem t26 : tyI Try.prog 26 = Option.some (Bool.true, 3) := by kernel_rfl
@[simp] theorem a26 : apI Try.prog 26 = Option.some (3, 40) := by kernel_rfl
@[simp] theorem z26 : zA Try.prog 26 = Option.some (Go.AM.AV.agg [Go.AM.AV.lst Go.AM.Fl.nil 1 [], Go.AM.AV.v (Go.Value.int Go.IntKind.i64 0), Go.AM.AV.v (Go.Value.int Go.IntKind.i64 0)]) := by kernel_rfl
@[simp] theorem S26 : stI Try.prog 26 = Option.some [(0, 1), (1, 1), (2, 1)] := by kernel_rfl
@[simp] theorem r26 : arI Try.prog 26 = Option.none := by kernel_rfl
@[simp] theorem f26_0 : fdI Try.prog 26 0 = Option.some (0, Bool.false, 1) := by kernel_rfl
@[simp] theorem ft26_0 : ftI Try.prog 26 0 = 22 := by kernel_rfl
@[simp] theorem f26_1 : fdI Try.prog 26 1 = Option.some (1, Bool.false, 1) := by kernel_rfl
@[simp] theorem ft26_1 : ftI Try.prog 26 1 = 3 := by kernel_rfl
@[simp] theorem f26_2 : fdI Try.prog 26 2 = Option.some (2, Bool.false, 1) := by kernel_rfl
@[simp] theorem ft26_2 : ftI Try.prog 26 2 = 3 := by kernel_rfl
@[simp] theorem k27 : kdI Try.prog 27 = Option.some Go.AM.Kd.other := by kernel_rfl
@[simp] theorem t27 : tyI Try.prog 27 = Option.some (Bool.false, 1) := by kernel_rfl
@[simp] theorem z27 : zA Try.prog 27 = Option.none := by kernel_rfl
@[simp] theorem k29 : kdI Try.prog 29 = Option.some Go.AM.Kd.other := by kernel_rfl
@[simp] theorem t29 : tyI Try.prog 29 = Option.some (Bool.true, 3) := by kernel_rfl
@[simp] theorem a29 : apI Try.prog 29 = Option.some (3, 40) := by kernel_rfl
@[simp] theorem z29 : zA Try.prog 29 = Option.some (Go.AM.AV.agg [Go.AM.AV.lst Go.AM.Fl.nil 1 [], Go.AM.AV.v (Go.Value.int Go.IntKind.i64 0), Go.AM.AV.v (Go.Value.int Go.IntKind.i64 0)]) := by kernel_rfl
@[simp] theorem S29 : stI Try.prog 29 = Option.some [(0, 1), (1, 1), (2, 1)] := by kernel_rfl
@[simp] theorem r29 : arI Try.prog 29 = Option.none := by kernel_rfl
@[simp] theorem f29_0 : fdI Try.prog 29 0 = Option.some (0, Bool.false, 1) := by kernel_rfl
@[simp] theorem ft29_0 : ftI Try.prog 29 0 = 22 := by kernel_rfl
@[simp] theorem f29_1 : fdI Try.prog 29 1 = Option.some (1, Bool.false, 1) := by kernel_rfl
@[simp] theorem ft29_1 : ftI Try.prog 29 1 = 3 := by kernel_rfl
@[simp] theorem f29_2 : fdI Try.prog 29 2 = Option.some (2, Bool.false, 1) := by kernel_rfl
@[simp] theorem ft29_2 : ftI Try.prog 29 2 = 3 := by kernel_rfl
@[simp] theorem k30 : kdI Try.prog 30 = Option.some Go.AM.Kd.other := by kernel_rfl
@[simp] theorem t30 : tyI Try.prog 30 = Option.some (Bool.false, 1) := by kernel_rfl
@[simp] theorem z30 : zA Try.prog 30 = Option.none := by kernel_rfl
@[simp] theorem k34 : kdI Try.prog 34 = Option.some Go.AM.Kd.other := by kernel_rfl
@[simp] theorem t34 : tyI Try.prog 34 = Option.some (Bool.true, 2) := by kernel_rfl
@[simp] theorem a34 : apI Try.prog 34 = Option.some (2, 32) := by kernel_rfl
@[simp] theorem z34 : zA Try.prog 34 = Option.some (Go.AM.AV.agg [Go.AM.AV.lst Go.AM.Fl.nil 1 [], Go.AM.AV.v (Go.Value.int Go.IntKind.u8 0)]) := by kernel_rfl
@[simp] theorem S34 : stI Try.prog 34 = Option.some [(0, 1), (1, 1)] := by kernel_rfl
@[simp] theorem r34 : arI Try.prog 34 = Option.none := by kernel_rfl
@[simp] theorem f34_0 : fdI Try.prog 34 0 = Option.some (0, Bool.false, 1) := by kernel_rfl
@[simp] theorem ft34_0 : ftI Try.prog 34 0 = 22 := by kernel_rfl
@[simp] theorem f34_1 : fdI Try.prog 34 1 = Option.some (1, Bool.false, 1) := by kernel_rfl
@[simp] theorem ft34_1 : ftI Try.prog 34 1 = 5 := by kernel_rfl
@[simp] theorem k37 : kdI Try.prog 37 = Option.some Go.AM.Kd.other := by kernel_rfl
@[simp] theorem t37 : tyI Try.prog 37 = Option.some (Bool.true, 3) := by kernel_rfl
@[simp] theorem a37 : apI Try.prog 37 = Option.some (3, 56) := by kernel_rfl
@[simp] theorem z37 : zA Try.prog 37 = Option.some (Go.AM.AV.agg [Go.AM.AV.lst Go.AM.Fl.nil 1 [], Go.AM.AV.v (Go.Value.bool Bool.false), Go.AM.AV.lst Go.AM.Fl.nil 1 []]) := by kernel_rfl
@[simp] theorem S37 : stI Try.prog 37 = Option.some [(0, 1), (1, 1), (2, 1)] := by kernel_rfl
@[simp] theorem r37 : arI Try.prog 37 = Option.none := by kernel_rfl
@[simp] theorem f37_0 : fdI Try.prog 37 0 = Option.some (0, Bool.false, 1) := by kernel_rfl
@[simp] theorem ft37_0 : ftI Try.prog 37 0 = 22 := by kernel_rfl
@[simp] theorem f37_1 : fdI Try.prog 37 1 = Option.some (1, Bool.false, 1) := by kernel_rfl
@[simp] theorem ft37_1 : ftI Try.prog 37 1 = 4 := by kernel_rfl
@[simp] theorem f37_2 : fdI Try.prog 37 2 = Option.some (2, Bool.false, 1) := by kernel_rfl
@[simp] theorem ft37_2 : ftI Try.prog 37 2 = 22 := by kernel_rfl
@[simp] theorem k44 : kdI Try.prog 44 = Option.some Go.AM.Kd.sl := by kernel_rfl
@[simp] theorem t44 : tyI Try.prog 44 = Option.some (Bool.false, 1) := by kernel_rfl
@[simp] theorem s44 : slI Try.prog 44 = Option.some (3, Bool.false, 1) := by kernel_rfl
@[simp] theorem a44 : apI Try.prog 44 = Option.some (1, 24) := by kernel_rfl
@[simp] theorem z44 : zA Try.prog 44 = Option.some (Go.AM.AV.lst Go.AM.Fl.nil 1 []) := by kernel_rfl
@[simp] theorem k48 : kdI Try.prog 48 = Option.some Go.AM.Kd.ptr := by kernel_rfl
@[simp] theorem t48 : tyI Try.prog 48 = Option.some (Bool.false, 1) := by kernel_rfl
@[simp] theorem z48 : zA Try.prog 48 = Option.some (Go.AM.AV.v (Go.Value.pointer Option.none)) := by kernel_rfl
@[simp] theorem k50 : kdI Try.prog 50 = Option.some Go.AM.Kd.other := by kernel_rfl
@[simp] theorem t50 : tyI Try.prog 50 = Option.some (Bool.true, 7) := by kernel_rfl
@[simp] theorem a50 : apI Try.prog 50 = Option.some (7, 80) := by kernel_rfl
@[simp] theorem z50 : zA Try.prog 50 = Option.some (Go.AM.AV.agg [Go.AM.AV.lst Go.AM.Fl.nil 1 [], Go.AM.AV.v (Go.Value.int Go.IntKind.i64 0), Go.AM.AV.v (Go.Value.bool Bool.false), Go.AM.AV.v (Go.Value.bool Bool.false), Go.AM.AV.lst Go.AM.Fl.nil 1 [], Go.AM.AV.v (Go.Value.int Go.IntKind.i64 0), Go.AM.AV.v (Go.Value.int Go.IntKind.i64 0)]) := by kernel_rfl
@[simp] theorem S50 : stI Try.prog 50 = Option.some [(0, 1), (1, 1), (2, 1), (3, 1), (4, 3)] := by kernel_rfl
@[simp] theorem r50 : arI Try.prog 50 = Option.none := by kernel_rfl
@[simp] theorem f50_0 : fdI Try.prog 50 0 = Option.some (0, Bool.false, 1) := by kernel_rfl
@[simp] theorem ft50_0 : ftI Try.prog 50 0 = 22 := by kernel_rfl
@[simp] theorem f50_1 : fdI Try.prog 50 1 = Option.some (1, Bool.false, 1) := by kernel_rfl
@[simp] theorem ft50_1 : ftI Try.prog 50 1 = 3 := by kernel_rfl
@[simp] theorem f50_2 : fdI Try.prog 50 2 = Option.some (2, Bool.false, 1) := by kernel_rfl
@[simp] theorem ft50_2 : ftI Try.prog 50 2 = 4 := by kernel_rfl
@[simp] theorem f50_3 : fdI Try.prog 50 3 = Option.some (3, Bool.false, 1) := by kernel_rfl
@[simp] theorem ft50_3 : ftI Try.prog 50 3 = 4 := by kernel_rfl
@[simp] theorem f50_4 : fdI Try.prog 50 4 = Option.some (4, Bool.true, 3) := by kernel_rfl
@[simp] theorem ft50_4 : ftI Try.prog 50 4 = 26 := by kernel_rfl
@[simp] theorem k51 : kdI Try.prog 51 = Option.some Go.AM.Kd.fn := by kernel_rfl
@[simp] theorem t51 : tyI Try.prog 51 = Option.some (Bool.false, 1) := by kernel_rfl
@[simp] theorem z51 : zA Try.prog 51 = Option.some (Go.AM.AV.v Go.Value.nilFunc) := by kernel_rfl
@[simp] theorem k53 : kdI Try.prog 53 = Option.some Go.AM.Kd.mp := by kernel_rfl
@[simp] theorem t53 : tyI Try.prog 53 = Option.some (Bool.false, 1) := by kernel_rfl
@[simp] theorem z53 : zA Try.prog 53 = Option.some (Go.AM.AV.v (Go.Value.map Option.none)) := by kernel_rfl
@[simp] theorem m53 : mpI Try.prog 53 = Option.some (Go.TypeDesc.int Go.IntKind.u8, 51) := by kernel_rfl
@[simp] theorem k54 : kdI Try.prog 54 = Option.some Go.AM.Kd.other := by kernel_rfl
@[simp] theorem t54 : tyI Try.prog 54 = Option.some (Bool.false, 1) := by kernel_rfl
@[simp] theorem z54 : zA Try.prog 54 = Option.none := by kernel_rfl
@[simp] theorem k55 : kdI Try.prog 55 = Option.some Go.AM.Kd.sl := by kernel_rfl
@[simp] theorem t55 : tyI Try.prog 55 = Option.some (Bool.false, 1) := by kernel_rfl
@[simp] theorem s55 : slI Try.prog 55 = Option.some (58, Bool.true, 3) := by kernel_rfl
@[simp] theorem a55 : apI Try.prog 55 = Option.some (1, 24) := by kernel_rfl
@[simp] theorem z55 : zA Try.prog 55 = Option.some (Go.AM.AV.lst Go.AM.Fl.nil 3 []) := by kernel_rfl
@[simp] theorem k58 : kdI Try.prog 58 = Option.some Go.AM.Kd.other := by kernel_rfl
@[simp] theorem t58 : tyI Try.prog 58 = Option.some (Bool.true, 3) := by kernel_rfl
@[simp] theorem a58 : apI Try.prog 58 = Option.some (3, 24) := by kernel_rfl
@[simp] theorem z58 : zA Try.prog 58 = Option.some (Go.AM.AV.agg [Go.AM.AV.v (Go.Value.int Go.IntKind.i64 0), Go.AM.AV.v (Go.Value.int Go.IntKind.i64 0), Go.AM.AV.v (Go.Value.bool Bool.false)]) := by kernel_rfl
@[simp] theorem S58 : stI Try.prog 58 = Option.some [(0, 1), (1, 1), (2, 1)] := by kernel_rfl
@[simp] theorem r58 : arI Try.prog 58 = Option.none := by kernel_rfl
@[simp] theorem f58_0 : fdI Try.prog 58 0 = Option.some (0, Bool.false, 1) := by kernel_rfl
@[simp] theorem ft58_0 : ftI Try.prog 58 0 = 3 := by kernel_rfl
@[simp] theorem f58_1 : fdI Try.prog 58 1 = Option.some (1, Bool.false, 1) := by kernel_rfl
@[simp] theorem ft58_1 : ftI Try.prog 58 1 = 3 := by kernel_rfl
@[simp] theorem f58_2 : fdI Try.prog 58 2 = Option.some (2, Bool.false, 1) := by kernel_rfl
@[simp] theorem ft58_2 : ftI Try.prog 58 2 = 4 := by kernel_rfl
@[simp] theorem k59 : kdI Try.prog 59 = Option.some Go.AM.Kd.other := by kernel_rfl
@[simp] theorem t59 : tyI Try.prog 59 = Option.some (Bool.false, 1) := by kernel_rfl
@[simp] theorem z59 : zA Try.prog 59 = Option.none := by kernel_rfl
@[simp] theorem k61 : kdI Try.prog 61 = Option.some Go.AM.Kd.other := by kernel_rfl
@[simp] theorem t61 : tyI Try.prog 61 = Option.some (Bool.false, 1) := by kernel_rfl
@[simp] theorem z61 : zA Try.prog 61 = Option.none := by kernel_rfl
@[simp] theorem c3_5 : cvI Try.prog 3 5 = Option.some (Go.AM.Cv.toInt Go.IntKind.u8) := by kernel_rfl
@[simp] theorem c5_3 : cvI Try.prog 5 3 = Option.some (Go.AM.Cv.toInt Go.IntKind.i64) := by kernel_rfl
end Go.AM
