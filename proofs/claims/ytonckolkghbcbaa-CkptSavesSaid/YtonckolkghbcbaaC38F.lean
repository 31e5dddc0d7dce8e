/- Facts on the types. -/
import Derived.Test.YtonckolkghbcbaaAmC
import Derived.Test.YtonckolkghbcbaaProg
namespace Go.AM
open Go.RowKit Go.Proofs
theorem mx : Try.prog.follows .mixedOrders = true := by kernel_rfl
@[simp] theorem k0 : kdI Try.prog 0 = Option.some Go.AM.Kd.other := by kernel_rfl
@[simp] theorem t0 : tyI Try.prog 0 = Option.some (Bool.false, 1) := by kernel_rfl
@[simp] theorem z0 : zA Try.prog 0 = Option.none := by kernel_rfl
@[simp] theorem k3 : kdI Try.prog 3 = Option.some Go.AM.Kd.int := by kernel_rfl
@[simp] theorem t3 : tyI Try.prog 3 = Option.some (Bool.false, 1) := by kernel_rfl
@[simp] theorem a3 : apI Try.prog 3 = Option.some (1, 8) := by kernel_rfl
@[simp] theorem z3 : zA Try.prog 3 = Option.some (Go.AM.AV.v (Go.Value.int Go.IntKind.i64 0)) := by kernel_rfl
@[simp] theorem k4 : kdI Try.prog 4 = Option.some Go.AM.Kd.bool := by kernel_rfl
@[simp] theorem t4 : tyI Try.prog 4 = Option.some (Bool.false, 1) := by kernel_rfl
@[simp] theorem a4 : apI Try.prog 4 = Option.some (1, 1) := by kernel_rfl
@[simp] theorem z4 : zA Try.prog 4 = Option.some (Go.AM.AV.v (Go.Value.bool Bool.false)) := by kernel_rfl
@[simp] theorem k5 : kdI Try.prog 5 = Option.some Go.AM.Kd.int := by kernel_rfl
@[simp] theorem t5 : tyI Try.prog 5 = Option.some (Bool.false, 1) := by kernel_rfl
@[simp] theorem a5 : apI Try.prog 5 = Option.some (1, 1) := by kernel_rfl
@[simp] theorem z5 : zA Try.prog 5 = Option.some (Go.AM.AV.v (Go.Value.int Go.IntKind.u8 0)) := by kernel_rfl
@[simp] theorem k9 : kdI Try.prog 9 = Option.some Go.AM.Kd.str := by kernel_rfl
@[simp] theorem t9 : tyI Try.prog 9 = Option.some (Bool.false, 1) := by kernel_rfl
@[simp] theorem a9 : apI Try.prog 9 = Option.some (1, 16) := by kernel_rfl
@[simp] theorem z9 : zA Try.prog 9 = Option.some (Go.AM.AV.v (Go.Value.string { data := { toList := [] } })) := by kernel_rfl
@[simp] theorem k20 : kdI Try.prog 20 = Option.some Go.AM.Kd.other := by kernel_rfl
@[simp] theorem t20 : tyI Try.prog 20 = Option.some (Bool.false, 1) := by kernel_rfl
@[simp] theorem z20 : zA Try.prog 20 = Option.some (Go.AM.AV.v Go.Value.nilIface) := by kernel_rfl
@[simp] theorem k23 : kdI Try.prog 23 = Option.some Go.AM.Kd.sl := by kernel_rfl
@[simp] theorem t23 : tyI Try.prog 23 = Option.some (Bool.false, 1) := by kernel_rfl
@[simp] theorem s23 : slI Try.prog 23 = Option.some (28, Bool.false, 1) := by kernel_rfl
@[simp] theorem a23 : apI Try.prog 23 = Option.some (1, 24) := by kernel_rfl
@[simp] theorem z23 : zA Try.prog 23 = Option.some (Go.AM.AV.lst Go.AM.Fl.nil 1 []) := by kernel_rfl
@[simp] theorem k24 : kdI Try.prog 24 = Option.some Go.AM.Kd.int := by kernel_rfl
@[simp] theorem t24 : tyI Try.prog 24 = Option.some (Bool.false, 1) := by kernel_rfl
@[simp] theorem a24 : apI Try.prog 24 = Option.some (1, 8) := by kernel_rfl
@[simp] theorem z24 : zA Try.prog 24 = Option.some (Go.AM.AV.v (Go.Value.int Go.IntKind.i64 0)) := by kernel_rfl
@[simp] theorem k25 : kdI Try.prog 25 = Option.some Go.AM.Kd.other := by kernel_rfl
@[simp] theorem t25 : tyI Try.prog 25 = Option.some (Bool.false, 1) := by kernel_rfl
@[simp] theorem z25 : zA Try.prog 25 = Option.none := by kernel_rfl
@[simp] theorem k28 : kdI Try.prog 28 = Option.some Go.AM.Kd.sl := by kernel_rfl
@[simp] theorem t28 : tyI Try.prog 28 = Option.some (Bool.false, 1) := by kernel_rfl
@[simp] theorem s28 : slI Try.prog 28 = Option.some (52, Bool.true, 4) := by kernel_rfl
@[simp] theorem a28 : apI Try.prog 28 = Option.some (1, 24) := by kernel_rfl
@[simp] theorem z28 : zA Try.prog 28 = Option.some (Go.AM.AV.lst Go.AM.Fl.nil 4 []) := by kernel_rfl
@[simp] theorem k32 : kdI Try.prog 32 = Option.some Go.AM.Kd.sl := by kernel_rfl
@[simp] theorem t32 : tyI Try.prog 32 = Option.some (Bool.false, 1) := by kernel_rfl
@[simp] theorem s32 : slI Try.prog 32 = Option.some (5, Bool.false, 1) := by kernel_rfl
@[simp] theorem a32 : apI Try.prog 32 = Option.some (1, 24) := by kernel_rfl
@[simp] theorem z32 : zA Try.prog 32 = Option.some (Go.AM.AV.lst Go.AM.Fl.nil 1 []) := by kernel_rfl
@[simp] theorem k33 : kdI Try.prog 33 = Option.some Go.AM.Kd.other := by kernel_rfl
@[simp] theorem t33 : tyI Try.prog 33 = Option.some (Bool.false, 1) := by kernel_rfl
@[simp] theorem z33 : zA Try.prog 33 = Option.none := by kernel_rfl
@[simp] theorem k36 : kdI Try.prog 36 = Option.some Go.AM.Kd.other := by kernel_rfl
@[simp] theorem t36 : tyI Try.prog 36 = Option.some (Bool.false, 1) := by kernel_rfl
@[simp] theorem z36 : zA Try.prog 36 = Option.none := by kernel_rfl
@[simp] theorem k41 : kdI Try.prog 41 = Option.some Go.AM.Kd.other := by kernel_rfl
@[simp] theorem t41 : tyI Try.prog 41 = Option.some (Bool.true, 2) := by kernel_rfl
@[simp] theorem a41 : apI Try.prog 41 = Option.some (2, 16) := by kernel_rfl
@[simp] theorem z41 : zA Try.prog 41 = Option.some (Go.AM.AV.agg [Go.AM.AV.v (Go.Value.int Go.IntKind.i64 0), Go.AM.AV.v (Go.Value.bool Bool.false)]) := by kernel_rfl
@[simp] theorem S41 : stI Try.prog 41 = Option.some [(0, 1), (1, 1)] := by kernel_rfl
@[simp] theorem r41 : arI Try.prog 41 = Option.none := by kernel_rfl
@[simp] theorem f41_0 : fdI Try.prog 41 0 = Option.some (0, Bool.false, 1) := by kernel_rfl
@[simp] theorem ft41_0 : ftI Try.prog 41 0 = 3 := by kernel_rfl
@[simp] theorem f41_1 : fdI Try.prog 41 1 = Option.some (1, Bool.false, 1) := by kernel_rfl
@[simp] theorem ft41_1 : ftI Try.prog 41 1 = 4 := by kernel_rfl
@[simp] theorem k42 : kdI Try.prog 42 = Option.some Go.AM.Kd.other := by kernel_rfl
@[simp] theorem t42 : tyI Try.prog 42 = Option.some (Bool.false, 1) := by kernel_rfl
@[simp] theorem z42 : zA Try.prog 42 = Option.none := by kernel_rfl
@[simp] theorem k44 : kdI Try.prog 44 = Option.some Go.AM.Kd.int := by kernel_rfl
@[simp] theorem t44 : tyI Try.prog 44 = Option.some (Bool.false, 1) := by kernel_rfl
@[simp] theorem a44 : apI Try.prog 44 = Option.some (1, 8) := by kernel_rfl
@[simp] theorem z44 : zA Try.prog 44 = Option.some (Go.AM.AV.v (Go.Value.int Go.IntKind.u64 0)) := by kernel_rfl
@[simp] theorem k46 : kdI Try.prog 46 = Option.some Go.AM.Kd.sl := by kernel_rfl
@[simp] theorem t46 : tyI Try.prog 46 = Option.some (Bool.false, 1) := by kernel_rfl
@[simp] theorem s46 : slI Try.prog 46 = Option.some (49, Bool.true, 4) := by kernel_rfl
@[simp] theorem a46 : apI Try.prog 46 = Option.some (1, 24) := by kernel_rfl
@[simp] theorem z46 : zA Try.prog 46 = Option.some (Go.AM.AV.lst Go.AM.Fl.nil 4 []) := by kernel_rfl
@[simp] theorem k47 : kdI Try.prog 47 = Option.some Go.AM.Kd.sl := by kernel_rfl
@[simp] theorem t47 : tyI Try.prog 47 = Option.some (Bool.false, 1) := by kernel_rfl
@[simp] theorem s47 : slI Try.prog 47 = Option.some (32, Bool.false, 1) := by kernel_rfl
@[simp] theorem a47 : apI Try.prog 47 = Option.some (1, 24) := by kernel_rfl
@[simp] theorem z47 : zA Try.prog 47 = Option.some (Go.AM.AV.lst Go.AM.Fl.nil 1 []) := by kernel_rfl
@[simp] theorem k49 : kdI Try.prog 49 = Option.some Go.AM.Kd.other := by kernel_rfl
@[simp] theorem t49 : tyI Try.prog 49 = Option.some (Bool.true, 4) := by kernel_rfl
@[simp] theorem a49 : apI Try.prog 49 = Option.some (4, 32) := by kernel_rfl
@[simp] theorem z49 : zA Try.prog 49 = Option.some (Go.AM.AV.agg [Go.AM.AV.v (Go.Value.int Go.IntKind.i64 0), Go.AM.AV.v (Go.Value.int Go.IntKind.u8 0), Go.AM.AV.v (Go.Value.int Go.IntKind.i64 0), Go.AM.AV.v (Go.Value.bool Bool.false)]) := by kernel_rfl
@[simp] theorem S49 : stI Try.prog 49 = Option.some [(0, 1), (1, 1), (2, 1), (3, 1)] := by kernel_rfl
@[simp] theorem r49 : arI Try.prog 49 = Option.none := by kernel_rfl
@[simp] theorem f49_0 : fdI Try.prog 49 0 = Option.some (0, Bool.false, 1) := by kernel_rfl
@[simp] theorem ft49_0 : ftI Try.prog 49 0 = 3 := by kernel_rfl
@[simp] theorem f49_1 : fdI Try.prog 49 1 = Option.some (1, Bool.false, 1) := by kernel_rfl
@[simp] theorem ft49_1 : ftI Try.prog 49 1 = 5 := by kernel_rfl
@[simp] theorem f49_2 : fdI Try.prog 49 2 = Option.some (2, Bool.false, 1) := by kernel_rfl
@[simp] theorem ft49_2 : ftI Try.prog 49 2 = 3 := by kernel_rfl
@[simp] theorem f49_3 : fdI Try.prog 49 3 = Option.some (3, Bool.false, 1) := by kernel_rfl
@[simp] theorem ft49_3 : ftI Try.prog 49 3 = 4 := by kernel_rfl
@[simp] theorem k52 : kdI Try.prog 52 = Option.some Go.AM.Kd.other := by kernel_rfl
@[simp] theorem t52 : tyI Try.prog 52 = Option.some (Bool.true, 4) := by kernel_rfl
@[simp] theorem a52 : apI Try.prog 52 = Option.some (4, 64) := by kernel_rfl
@[simp] theorem z52 : zA Try.prog 52 = Option.some (Go.AM.AV.agg [Go.AM.AV.v (Go.Value.int Go.IntKind.i64 0), Go.AM.AV.lst Go.AM.Fl.nil 1 [], Go.AM.AV.lst Go.AM.Fl.nil 1 [], Go.AM.AV.v (Go.Value.bool Bool.false)]) := by kernel_rfl
@[simp] theorem S52 : stI Try.prog 52 = Option.some [(0, 1), (1, 1), (2, 1), (3, 1)] := by kernel_rfl
@[simp] theorem r52 : arI Try.prog 52 = Option.none := by kernel_rfl
@[simp] theorem f52_0 : fdI Try.prog 52 0 = Option.some (0, Bool.false, 1) := by kernel_rfl
@[simp] theorem ft52_0 : ftI Try.prog 52 0 = 3 := by kernel_rfl
@[simp] theorem f52_1 : fdI Try.prog 52 1 = Option.some (1, Bool.false, 1) := by kernel_rfl
@[simp] theorem ft52_1 : ftI Try.prog 52 1 = 32 := by kernel_rfl
@[simp] theorem f52_2 : fdI Try.prog 52 2 = Option.some (2, Bool.false, 1) := by kernel_rfl
@[simp] theorem ft52_2 : ftI Try.prog 52 2 = 32 := by kernel_rfl
@[simp] theorem f52_3 : fdI Try.prog 52 3 = Option.some (3, Bool.false, 1) := by kernel_rfl
@[simp] theorem ft52_3 : ftI Try.prog 52 3 = 4 := by kernel_rfl
@[simp] theorem k54 : kdI Try.prog 54 = Option.some Go.AM.Kd.other := by kernel_rfl
@[simp] theorem t54 : tyI Try.prog 54 = Option.some (Bool.false, 1) := by kernel_rfl
@[simp] theorem z54 : zA Try.prog 54 = Option.none := by kernel_rfl
@[simp] theorem k62 : kdI Try.prog 62 = Option.some Go.AM.Kd.other := by kernel_rfl
@[simp] theorem t62 : tyI Try.prog 62 = Option.some (Bool.false, 1) := by kernel_rfl
@[simp] theorem z62 : zA Try.prog 62 = Option.none := by kernel_rfl
@[simp] theorem c3_5 : cvI Try.prog 3 5 = Option.some (Go.AM.Cv.toInt Go.IntKind.u8) := by kernel_rfl
@[simp] theorem c3_44 : cvI Try.prog 3 44 = Option.some (Go.AM.Cv.toInt Go.IntKind.u64) := by kernel_rfl
@[simp] theorem c5_3 : cvI Try.prog 5 3 = Option.some (Go.AM.Cv.toInt Go.IntKind.i64) := by kernel_rfl
@[simp] theorem c32_9 : cvI Try.prog 32 9 = Option.some Go.AM.Cv.b2s := by kernel_rfl
@[simp] theorem c32_32 : cvI Try.prog 32 32 = Option.none := by kernel_rfl
@[simp] theorem c44_3 : cvI Try.prog 44 3 = Option.some (Go.AM.Cv.toInt Go.IntKind.i64) := by kernel_rfl
end Go.AM
