/- Facts on the types. -/
import Derived.Test.YtmedlgfdabokaaaAmC
import Derived.Test.YtmedlgfdabokaaaProg
namespace Go.AM
open Go.RowKit Go.Proofs
theorem mx : Try.prog.follows .mixedOrders = true := by kernel_rfl
@[simp] theorem k0 : kdI Try.prog 0 = Option.some Go.AM.Kd.other := by kernel_rfl
@[simp] theorem t0 : tyI Try.prog 0 = Option.some (Bool.false, 1) := by kernel_rfl
@[simp] theorem a0 : apI Try.prog 0 = Option.none := by kernel_rfl
@[simp] theorem z0 : zA Try.prog 0 = Option.none := by kernel_rfl
@[simp] theorem k1 : kdI Try.prog 1 = Option.some Go.AM.Kd.fn := by kernel_rfl
@[simp] theorem t1 : tyI Try.prog 1 = Option.some (Bool.false, 1) := by kernel_rfl
@[simp] theorem z1 : zA Try.prog 1 = Option.some (Go.AM.AV.v Go.Value.nilFunc) := by kernel_rfl
@[simp] theorem k3 : kdI Try.prog 3 = Option.some Go.AM.Kd.int := by kernel_rfl
@[simp] theorem t3 : tyI Try.prog 3 = Option.some (Bool.false, 1) := by kernel_rfl
@[simp] theorem a3 : apI Try.prog 3 = Option.some (1, 8) := by kernel_rfl
@[simp] theorem z3 : zA Try.prog 3 = Option.some (Go.AM.AV.v (Go.Value.int Go.IntKind.i64 0)) := by kernel_rfl
@[simp] theorem k4 : kdI Try.prog 4 = Option.some Go.AM.Kd.bool := by kernel_rfl
@[simp] theorem t4 : tyI Try.prog 4 = Option.some (Bool.false, 1) := by kernel_rfl
@[simp] theorem a4 : apI Try.prog 4 = Option.some (1, 1) := by kernel_rfl
@[simp] theorem z4 : zA Try.prog 4 = Option.some (Go.AM.AV.v (Go.Value.bool Bool.false)) := by kernel_rfl
@[simp] theorem k5 : kdI Try.prog 5 = Option.some Go.AM.Kd.int := by kernel_rfl
@[simp] theorem t5 : tyI Try.prog 5 = Option.some (Bool.false, 1) := by kernel_rfl
@[simp] theorem a5 : apI Try.prog 5 = Option.some (1, 1) := by kernel_rfl
@[simp] theorem z5 : zA Try.prog 5 = Option.some (Go.AM.AV.v (Go.Value.int Go.IntKind.u8 0)) := by kernel_rfl
@[simp] theorem k9 : kdI Try.prog 9 = Option.some Go.AM.Kd.str := by kernel_rfl
@[simp] theorem t9 : tyI Try.prog 9 = Option.some (Bool.false, 1) := by kernel_rfl
@[simp] theorem a9 : apI Try.prog 9 = Option.some (1, 16) := by kernel_rfl
@[simp] theorem z9 : zA Try.prog 9 = Option.some (Go.AM.AV.v (Go.Value.string { data := { toList := [] } })) := by kernel_rfl
@[simp] theorem k23 : kdI Try.prog 23 = Option.some Go.AM.Kd.other := by kernel_rfl
@[simp] theorem t23 : tyI Try.prog 23 = Option.some (Bool.true, 8) := by kernel_rfl
@[simp] theorem a23 : apI Try.prog 23 = Option.some (8, 56) := by kernel_rfl
@[simp] theorem z23 : zA Try.prog 23 = Option.some (Go.AM.AV.agg [Go.AM.AV.v (Go.Value.int Go.IntKind.i64 0), Go.AM.AV.v (Go.Value.int Go.IntKind.i64 0), Go.AM.AV.v (Go.Value.bool Bool.false), Go.AM.AV.v (Go.Value.bool Bool.false), Go.AM.AV.v (Go.Value.int Go.IntKind.i64 0), Go.AM.AV.v (Go.Value.int Go.IntKind.i64 0), Go.AM.AV.v (Go.Value.int Go.IntKind.i64 0), Go.AM.AV.v (Go.Value.int Go.IntKind.i64 0)]) := by kernel_rfl
@[simp] theorem S23 : stI Try.prog 23 = Option.some [(0, 1), (1, 1), (2, 1), (3, 1), (4, 1), (5, 1), (6, 1), (7, 1)] := by kernel_rfl
@[simp] theorem r23 : arI Try.prog 23 = Option.none := by kernel_rfl
@[simp] theorem f23_0 : fdI Try.prog 23 0 = Option.some (0, Bool.false, 1) := by kernel_rfl
@[simp] theorem ft23_0 : ftI Try.prog 23 0 = 3 := by kernel_rfl
@[simp] theorem f23_1 : fdI Try.prog 23 1 = Option.some (1, Bool.false, 1) := by kernel_rfl
@[simp] theorem ft23_1 : ftI Try.prog 23 1 = 3 := by kernel_rfl
@[simp] theorem f23_2 : fdI Try.prog 23 2 = Option.some (2, Bool.false, 1) := by kernel_rfl
@[simp] theorem ft23_2 : ftI Try.prog 23 2 = 4 := by kernel_rfl
@[simp] theorem f23_3 : fdI Try.prog 23 3 = Option.some (3, Bool.false, 1) := by kernel_rfl
@[simp] theorem ft23_3 : ftI Try.prog 23 3 = 4 := by kernel_rfl
@[simp] theorem f23_4 : fdI Try.prog 23 4 = Option.some (4, Bool.false, 1) := by kernel_rfl
@[simp] theorem ft23_4 : ftI Try.prog 23 4 = 3 := by kernel_rfl
@[simp] theorem f23_5 : fdI Try.prog 23 5 = Option.some (5, Bool.false, 1) := by kernel_rfl
@[simp] theorem ft23_5 : ftI Try.prog 23 5 = 3 := by kernel_rfl
@[simp] theorem f23_6 : fdI Try.prog 23 6 = Option.some (6, Bool.false, 1) := by kernel_rfl
@[simp] theorem ft23_6 : ftI Try.prog 23 6 = 3 := by kernel_rfl
@[simp] theorem f23_7 : fdI Try.prog 23 7 = Option.some (7, Bool.false, 1) := by kernel_rfl
@[simp] theorem ft23_7 : ftI Try.prog 23 7 = 3 := by kernel_rfl
@[simp] theorem k24 : kdI Try.prog 24 = Option.some Go.AM.Kd.sl := by kernel_rfl
@[simp] theorem t24 : tyI Try.prog 24 = Option.some (Bool.false, 1) := by kernel_rfl
@[simp] theorem s24 : slI Try.prog 24 = Option.some (35, Bool.false, 1) := by kernel_rfl
@[simp] theorem a24 : apI Try.prog 24 = Option.some (1, 24) := by kernel_rfl
@[simp] theorem z24 : zA Try.prog 24 = Option.some (Go.AM.AV.lst Go.AM.Fl.nil 1 []) := by kernel_rfl
@[simp] theorem k27 : kdI Try.prog 27 = Option.some Go.AM.Kd.int := by kernel_rfl
@[simp] theorem t27 : tyI Try.prog 27 = Option.some (Bool.false, 1) := by kernel_rfl
@[simp] theorem a27 : apI Try.prog 27 = Option.some (1, 8) := by kernel_rfl
@[simp] theorem z27 : zA Try.prog 27 = Option.some (Go.AM.AV.v (Go.Value.int Go.IntKind.i64 0)) := by kernel_rfl
@[simp] theorem k28 : kdI Try.prog 28 = Option.some Go.AM.Kd.other := by kernel_rfl
@[simp] theorem t28 : tyI Try.prog 28 = Option.some (Bool.false, 1) := by kernel_rfl
@[simp] theorem a28 : apI Try.prog 28 = Option.none := by kernel_rfl
@[simp] theorem z28 : zA Try.prog 28 = Option.none := by kernel_rfl
@[simp] theorem k34 : kdI Try.prog 34 = Option.some Go.AM.Kd.int := by kernel_rfl
@[simp] theorem t34 : tyI Try.prog 34 = Option.some (Bool.false, 1) := by kernel_rfl
@[simp] theorem a34 : apI Try.prog 34 = Option.some (1, 8) := by kernel_rfl
@[simp] theorem z34 : zA Try.prog 34 = Option.some (Go.AM.AV.v (Go.Value.int Go.IntKind.u64 0)) := by kernel_rfl
@[simp] theorem k35 : kdI Try.prog 35 = Option.some Go.AM.Kd.sl := by kernel_rfl
@[simp] theorem t35 : tyI Try.prog 35 = Option.some (Bool.false, 1) := by kernel_rfl
@[simp] theorem s35 : slI Try.prog 35 = Option.some (5, Bool.false, 1) := by kernel_rfl
@[simp] theorem a35 : apI Try.prog 35 = Option.some (1, 24) := by kernel_rfl
@[simp] theorem z35 : zA Try.prog 35 = Option.some (Go.AM.AV.lst Go.AM.Fl.nil 1 []) := by kernel_rfl
@[simp] theorem k38 : kdI Try.prog 38 = Option.some Go.AM.Kd.other := by kernel_rfl
@[simp] theorem t38 : tyI Try.prog 38 = Option.some (Bool.false, 1) := by kernel_rfl
@[simp] theorem a38 : apI Try.prog 38 = Option.none := by kernel_rfl
@[simp] theorem z38 : zA Try.prog 38 = Option.none := by kernel_rfl
@[simp] theorem k48 : kdI Try.prog 48 = Option.some Go.AM.Kd.other := by kernel_rfl
@[simp] theorem t48 : tyI Try.prog 48 = Option.some (Bool.false, 1) := by kernel_rfl
@[simp] theorem a48 : apI Try.prog 48 = Option.none := by kernel_rfl
@[simp] theorem z48 : zA Try.prog 48 = Option.none := by kernel_rfl
@[simp] theorem c3_5 : cvI Try.prog 3 5 = Option.some (Go.AM.Cv.toInt Go.IntKind.u8) := by kernel_rfl
@[simp] theorem c3_34 : cvI Try.prog 3 34 = Option.some (Go.AM.Cv.toInt Go.IntKind.u64) := by kernel_rfl
@[simp] theorem c5_3 : cvI Try.prog 5 3 = Option.some (Go.AM.Cv.toInt Go.IntKind.i64) := by kernel_rfl
@[simp] theorem c34_3 : cvI Try.prog 34 3 = Option.some (Go.AM.Cv.toInt Go.IntKind.i64) := by kernel_rfl
@[simp] theorem c35_9 : cvI Try.prog 35 9 = Option.some Go.AM.Cv.b2s := by kernel_rfl
end Go.AM
