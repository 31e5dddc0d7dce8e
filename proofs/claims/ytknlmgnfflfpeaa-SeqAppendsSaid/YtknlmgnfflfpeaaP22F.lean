/- Facts on the types. -/
import Derived.Test.YtknlmgnfflfpeaaAmC
import Derived.Test.YtknlmgnfflfpeaaProg
namespace Go.AM
open Go.RowKit Go.Proofs
theorem mx : Try.prog.follows .mixedOrders = true := by kernel_rfl
@[simp] theorem k0 : kdI Try.prog 0 = Option.some Go.AM.Kd.other := by kernel_rfl
@[simp] theorem t0 : tyI Try.prog 0 = Option.some (Bool.false, 1) := by kernel_rfl
@[simp] theorem a0 : apI Try.prog 0 = Option.none := by kernel_rfl
@[simp] theorem z0 : zA Try.prog 0 = Option.none := by kernel_rfl
@[simp] theorem k1 : kdI Try.prog 1 = Option.some Go.AM.Kd.fn := by kernel_rfl
@[simp] theorem t1 : tyI Try.prog 1 = Option.some (Bool.false, 1) := by kernel_rfl
@[simp] theorem z1 : zA Try.prog 1 = Option.some (Go.AM.AV.v Go.Value.nilFunc) := by kernel_rfl
@[simp] theorem k3 : kdI Try.prog 3 = Option.some Go.AM.Kd.int := by kernel_rfl
@[simp] theorem t3 : tyI Try.prog 3 = Option.some (Bool.false, 1) := by kernel_rfl
@[simp] theorem a3 : apI Try.prog 3 = Option.some (1, 8) := by kernel_rfl
@[simp] theorem z3 : zA Try.prog 3 = Option.some (Go.AM.AV.v (Go.Value.int Go.IntKind.i64 0)) := by kernel_rfl
@[simp] theorem k4 : kdI Try.prog 4 = Option.some Go.AM.Kd.bool := by kernel_rfl
@[simp] theorem t4 : tyI Try.prog 4 = Option.some (Bool.false, 1) := by kernel_rfl
@[simp] theorem a4 : apI Try.prog 4 = Option.some (1, 1) := by kernel_rfl
@[simp] theorem z4 : zA Try.prog 4 = Option.some (Go.AM.AV.v (Go.Value.bool Bool.false)) := by kernel_rfl
@[simp] theorem k5 : kdI Try.prog 5 = Option.some Go.AM.Kd.int := by kernel_rfl
@[simp] theorem t5 : tyI Try.prog 5 = Option.some (Bool.false, 1) := by kernel_rfl
@[simp] theorem a5 : apI Try.prog 5 = Option.some (1, 1) := by kernel_rfl
@[simp] theorem z5 : zA Try.prog 5 = Option.some (Go.AM.AV.v (Go.Value.int Go.IntKind.u8 0)) := by kernel_rfl
@[simp] theorem k9 : kdI Try.prog 9 = Option.some Go.AM.Kd.str := by kernel_rfl
@[simp] theorem t9 : tyI Try.prog 9 = Option.some (Bool.false, 1) := by kernel_rfl
@[simp] theorem a9 : apI Try.prog 9 = Option.some (1, 16) := by kernel_rfl
@[simp] theorem z9 : zA Try.prog 9 = Option.some (Go.AM.AV.v (Go.Value.string { data := { toList := [] } })) := by kernel_rfl
@[simp] theorem k23 : kdI Try.prog 23 = Option.some Go.AM.Kd.other := by kernel_rfl
@[simp] theorem t23 : tyI Try.prog 23 = Option.some (Bool.true, 8) := by kernel_rfl
@[simp] theorem a23 : apI Try.prog 23 = Option.some (8, 56) := by kernel_rfl
@[simp] theorem z23 : zA Try.prog 23 = Option.some (Go.AM.AV.agg [Go.AM.AV.v (Go.Value.int Go.IntKind.i64 0), Go.AM.AV.v (Go.Value.int Go.IntKind.i64 0), Go.AM.AV.v (Go.Value.bool Bool.false), Go.AM.AV.v (Go.Value.bool Bool.false), Go.AM.AV.v (Go.Value.int Go.IntKind.i64 0), Go.AM.AV.v (Go.Value.int Go.IntKind.i64 0), Go.AM.AV.v (Go.Value.int Go.IntKind.i64 0), Go.AM.AV.v (Go.Value.int Go.IntKind.i64 0)]) := by kernel_rfl
@[simp] theorem S23 : stI Try.prog 23 = Option.some [(0, 1), (1, 1), (2, 1), (3, 1), (4, 1), (5, 1), (6, 1), (7, 1)] := by kernel_rfl
@[simp] theorem r23 : arI Try.prog 23 = Option.none := by kernel_rfl
@[simp] theorem f23_0 : fdI Try.prog 23 0 = Option.some (0, Bool.false, 1) := by kernel_rfl
@[simp] theorem ft23_0 : ftI Try.prog 23 0 = 3 := by kernel_rfl
@[simp] theorem f23_1 : fdI Try.prog 23 1 = Option.some (1, Bool.false, 1) := by kernel_rfl
@[simp] theorem ft23_1 : ftI Try.prog 23 1 = 3 := by kernel_rfl
@[simp] theorem f23_2 : fdI Try.prog 23 2 = Option.some (2, Bool.false, 1) := by kernel_rfl
@[simp] theorem ft23_2 : ftI Try.prog 23 2 = 4 := by kernel_rfl
@[simp] theorem f23_3 : fdI Try.prog 23 3 = Option.some (3, Bool.false, 1) := by kernel_rfl
@[simp] theorem ft23_3 : ftI Try.prog 23 3 = 4 := by kernel_rfl
@[simp] theorem f23_4 : fdI Try.prog 23 4 = Option.some (4, Bool.false, 1) := by kernel_rfl
@[simp] theorem ft23_4 : ftI Try.prog 23 4 = 3 := by kernel_rfl
@[simp] theorem f23_5 : fdI Try.prog 23 5 = Option.some (5, Bool.false, 1) := by kernel_rfl
@[simp] theorem ft23_5 : ftI Try.prog 23 5 = 3 := by kernel_rfl
@[simp] theorem f23_6 : fdI Try.prog 23 6 = Option.some (6, Bool.false, 1) := by kernel_rfl
@[simp] theorem ft23_6 : ftI Try.prog 23 6 = 3 := by kernel_rfl
@[simp] theorem f23_7 : fdI Try.prog 23 7 = Option.some (7, Bool.false, 1) := by kernel_rfl
@[simp] theorem ft23_7 : ftI Try.prog 23 7 = 3 := by kernel_rfl
@[simp] theorem k24 : kdI Try.prog 24 = Option.some Go.AM.Kd.sl := by kernel_rfl
@[simp] theorem t24 : tyI Try.prog 24 = Option.some (Bool.false, 1) := by kernel_rfl
@[simp] theorem s24 : slI Try.prog 24 = Option.some (47, Bool.false, 1) := by kernel_rfl
@[simp] theorem a24 : apI Try.prog 24 = Option.some (1, 24) := by kernel_rfl
@[simp] theorem z24 : zA Try.prog 24 = Option.some (Go.AM.AV.lst Go.AM.Fl.nil 1 []) := by kernel_rfl
@[simp] theorem k26 : kdI Try.prog 26 = Option.some Go.AM.Kd.sl := by kernel_rfl
@[simp] theorem t26 : tyI Try.prog 26 = Option.some (Bool.false, 1) := by kernel_rfl
@[simp] theorem s26 : slI Try.prog 26 = Option.some (46, Bool.false, 1) := by kernel_rfl
@[simp] theorem a26 : apI Try.prog 26 = Option.some (1, 24) := by kernel_rfl
@[simp] theorem z26 : zA Try.prog 26 = Option.some (Go.AM.AV.lst Go.AM.Fl.nil 1 []) := by kernel_rfl
@[simp] theorem k27 : kdI Try.prog 27 = Option.some Go.AM.Kd.int := by kernel_rfl
@[simp] theorem t27 : tyI Try.prog 27 = Option.some (Bool.false, 1) := by kernel_rfl
@[simp] theorem a27 : apI Try.prog 27 = Option.some (1, 8) := by kernel_rfl
@[simp] theorem z27 : zA Try.prog 27 = Option.some (Go.AM.AV.v (Go.Value.int Go.IntKind.i64 0)) := by kernel_rfl
@[simp] theorem k28 : kdI Try.prog 28 = Option.some Go.AM.Kd.other := by kernel_rfl
@[simp] theorem t28 : tyI Try.prog 28 = Option.some (Bool.false, 1) := by kernel_rfl
@[simp] theorem a28 : apI Try.prog 28 = Option.none := by kernel_rfl
@[simp] theorem z28 : zA Try.prog 28 = Option.none := by kernel_rfl
@[simp] theorem k30 : kdI Try.prog 30 = Option.some Go.AM.Kd.other := by kernel_rfl
@[simp] theorem t30 : tyI Try.prog 30 = Option.some (Bool.false, 1) := by kernel_rfl
@[simp] theorem a30 : apI Try.prog 30 = Option.none := by kernel_rfl
@[simp] theorem z30 : zA Try.prog 30 = Option.none := by kernel_rfl
@[simp] theorem k39 : kdI Try.prog 39 = Option.some Go.AM.Kd.sl := by kernel_rfl
@[simp] theorem t39 : tyI Try.prog 39 = Option.some (Bool.false, 1) := by kernel_rfl
@[simp] theorem s39 : slI Try.prog 39 = Option.some (26, Bool.false, 1) := by kernel_rfl
@[simp] theorem a39 : apI Try.prog 39 = Option.some (1, 24) := by kernel_rfl
@[simp] theorem z39 : zA Try.prog 39 = Option.some (Go.AM.AV.lst Go.AM.Fl.nil 1 []) := by kernel_rfl
@[simp] theorem k42 : kdI Try.prog 42 = Option.some Go.AM.Kd.other := by kernel_rfl
@[simp] theorem t42 : tyI Try.prog 42 = Option.some (Bool.false, 1) := by kernel_rfl
@[simp] theorem a42 : apI Try.prog 42 = Option.none := by kernel_rfl
@[simp] theorem z42 : zA Try.prog 42 = Option.none := by kernel_rfl
@[simp] theorem k46 : kdI Try.prog 46 = Option.some Go.AM.Kd.sl := by kernel_rfl
@[simp] theorem t46 : tyI Try.prog 46 = Option.some (Bool.false, 1) := by kernel_rfl
@[simp] theorem s46 : slI Try.prog 46 = Option.some (49, Bool.true, 4) := by kernel_rfl
@[simp] theorem a46 : apI Try.prog 46 = Option.some (1, 24) := by kernel_rfl
@[simp] theorem z46 : zA Try.prog 46 = Option.some (Go.AM.AV.lst Go.AM.Fl.nil 4 []) := by kernel_rfl
@[simp] theorem k47 : kdI Try.prog 47 = Option.some Go.AM.Kd.sl := by kernel_rfl
@[simp] theorem t47 : tyI Try.prog 47 = Option.some (Bool.false, 1) := by kernel_rfl
@[simp] theorem s47 : slI Try.prog 47 = Option.some (5, Bool.false, 1) := by kernel_rfl
@[simp] theorem a47 : apI Try.prog 47 = Option.some (1, 24) := by kernel_rfl
@[simp] theorem z47 : zA Try.prog 47 = Option.some (Go.AM.AV.lst Go.AM.Fl.nil 1 []) := by kernel_rfl
@[simp] theorem k49 : kdI Try.prog 49 = Option.some Go.AM.Kd.other := by kernel_rfl
@[simp] theorem t49 : tyI Try.prog 49 = Option.some (Bool.true, 4) := by kernel_rfl
@[simp] theorem a49 : apI Try.prog 49 = Option.some (4, 64) := by kernel_rfl
@[simp] theorem z49 : zA Try.prog 49 = Option.some (Go.AM.AV.agg [Go.AM.AV.v (Go.Value.int Go.IntKind.i64 0), Go.AM.AV.lst Go.AM.Fl.nil 1 [], Go.AM.AV.lst Go.AM.Fl.nil 1 [], Go.AM.AV.v (Go.Value.bool Bool.false)]) := by kernel_rfl
@[simp] theorem S49 : stI Try.prog 49 = Option.some [(0, 1), (1, 1), (2, 1), (3, 1)] := by kernel_rfl
@[simp] theorem r49 : arI Try.prog 49 = Option.none := by kernel_rfl
@[simp] theorem f49_0 : fdI Try.prog 49 0 = Option.some (0, Bool.false, 1) := by kernel_rfl
@[simp] theorem ft49_0 : ftI Try.prog 49 0 = 3 := by kernel_rfl
@[simp] theorem f49_1 : fdI Try.prog 49 1 = Option.some (1, Bool.false, 1) := by kernel_rfl
@[simp] theorem ft49_1 : ftI Try.prog 49 1 = 47 := by kernel_rfl
@[simp] theorem f49_2 : fdI Try.prog 49 2 = Option.some (2, Bool.false, 1) := by kernel_rfl
@[simp] theorem ft49_2 : ftI Try.prog 49 2 = 47 := by kernel_rfl
@[simp] theorem f49_3 : fdI Try.prog 49 3 = Option.some (3, Bool.false, 1) := by kernel_rfl
@[simp] theorem ft49_3 : ftI Try.prog 49 3 = 4 := by kernel_rfl
@[simp] theorem k54 : kdI Try.prog 54 = Option.some (Go.AM.Kd.arr 2) := by kernel_rfl
@[simp] theorem t54 : tyI Try.prog 54 = Option.some (Bool.true, 2) := by kernel_rfl
@[simp] theorem a54 : apI Try.prog 54 = Option.some (2, 48) := by kernel_rfl
@[simp] theorem z54 : zA Try.prog 54 = Option.some (Go.AM.AV.agg [Go.AM.AV.lst Go.AM.Fl.nil 1 [], Go.AM.AV.lst Go.AM.Fl.nil 1 []]) := by kernel_rfl
@[simp] theorem S54 : stI Try.prog 54 = Option.none := by kernel_rfl
@[simp] theorem r54 : arI Try.prog 54 = Option.some (2, 24, Bool.false, 1) := by kernel_rfl
@[simp] theorem k65 : kdI Try.prog 65 = Option.some Go.AM.Kd.fn := by kernel_rfl
@[simp] theorem t65 : tyI Try.prog 65 = Option.some (Bool.false, 1) := by kernel_rfl
@[simp] theorem z65 : zA Try.prog 65 = Option.some (Go.AM.AV.v Go.Value.nilFunc) := by kernel_rfl
@[simp] theorem k66 : kdI Try.prog 66 = Option.some Go.AM.Kd.fn := by kernel_rfl
@[simp] theorem t66 : tyI Try.prog 66 = Option.some (Bool.false, 1) := by kernel_rfl
@[simp] theorem z66 : zA Try.prog 66 = Option.some (Go.AM.AV.v Go.Value.nilFunc) := by kernel_rfl
@[simp] theorem k69 : kdI Try.prog 69 = Option.some Go.AM.Kd.sl := by kernel_rfl
@[simp] theorem t69 : tyI Try.prog 69 = Option.some (Bool.false, 1) := by kernel_rfl
@[simp] theorem s69 : slI Try.prog 69 = Option.some (9, Bool.false, 1) := by kernel_rfl
@[simp] theorem a69 : apI Try.prog 69 = Option.some (1, 24) := by kernel_rfl
@[simp] theorem z69 : zA Try.prog 69 = Option.some (Go.AM.AV.lst Go.AM.Fl.nil 1 []) := by kernel_rfl
@[simp] theorem k74 : kdI Try.prog 74 = Option.some Go.AM.Kd.fn := by kernel_rfl
@[simp] theorem t74 : tyI Try.prog 74 = Option.some (Bool.false, 1) := by kernel_rfl
@[simp] theorem z74 : zA Try.prog 74 = Option.some (Go.AM.AV.v Go.Value.nilFunc) := by kernel_rfl
@[simp] theorem k80 : kdI Try.prog 80 = Option.some Go.AM.Kd.other := by kernel_rfl
@[simp] theorem t80 : tyI Try.prog 80 = Option.some (Bool.false, 1) := by kernel_rfl
@[simp] theorem a80 : apI Try.prog 80 = Option.none := by kernel_rfl
@[simp] theorem z80 : zA Try.prog 80 = Option.none := by kernel_rfl
@[simp] theorem k82 : kdI Try.prog 82 = Option.some Go.AM.Kd.fn := by kernel_rfl
@[simp] theorem t82 : tyI Try.prog 82 = Option.some (Bool.false, 1) := by kernel_rfl
@[simp] theorem z82 : zA Try.prog 82 = Option.some (Go.AM.AV.v Go.Value.nilFunc) := by kernel_rfl
@[simp] theorem k83 : kdI Try.prog 83 = Option.some Go.AM.Kd.fn := by kernel_rfl
@[simp] theorem t83 : tyI Try.prog 83 = Option.some (Bool.false, 1) := by kernel_rfl
@[simp] theorem z83 : zA Try.prog 83 = Option.some (Go.AM.AV.v Go.Value.nilFunc) := by kernel_rfl
@[simp] theorem k84 : kdI Try.prog 84 = Option.some Go.AM.Kd.fn := by kernel_rfl
@[simp] theorem t84 : tyI Try.prog 84 = Option.some (Bool.false, 1) := by kernel_rfl
@[simp] theorem z84 : zA Try.prog 84 = Option.some (Go.AM.AV.v Go.Value.nilFunc) := by kernel_rfl
@[simp] theorem k86 : kdI Try.prog 86 = Option.some Go.AM.Kd.fn := by kernel_rfl
@[simp] theorem t86 : tyI Try.prog 86 = Option.some (Bool.false, 1) := by kernel_rfl
@[simp] theorem z86 : zA Try.prog 86 = Option.some (Go.AM.AV.v Go.Value.nilFunc) := by kernel_rfl
@[simp] theorem k91 : kdI Try.prog 91 = Option.some Go.AM.Kd.fn := by kernel_rfl
@[simp] theorem t91 : tyI Try.prog 91 = Option.some (Bool.false, 1) := by kernel_rfl
@[simp] theorem z91 : zA Try.prog 91 = Option.some (Go.AM.AV.v Go.Value.nilFunc) := by kernel_rfl
@[simp] theorem k93 : kdI Try.prog 93 = Option.some Go.AM.Kd.other := by kernel_rfl
@[simp] theorem t93 : tyI Try.prog 93 = Option.some (Bool.false, 1) := by kernel_rfl
@[simp] theorem a93 : apI Try.prog 93 = Option.none := by kernel_rfl
@[simp] theorem z93 : zA Try.prog 93 = Option.none := by kernel_rfl
@[simp] theorem c3_5 : cvI Try.prog 3 5 = Option.some (Go.AM.Cv.toInt Go.IntKind.u8) := by kernel_rfl
@[simp] theorem c5_3 : cvI Try.prog 5 3 = Option.some (Go.AM.Cv.toInt Go.IntKind.i64) := by kernel_rfl
@[simp] theorem c9_47 : cvI Try.prog 9 47 = Option.some (Go.AM.Cv.s2b 5) := by kernel_rfl
@[simp] theorem c47_9 : cvI Try.prog 47 9 = Option.some Go.AM.Cv.b2s := by kernel_rfl
end Go.AM
