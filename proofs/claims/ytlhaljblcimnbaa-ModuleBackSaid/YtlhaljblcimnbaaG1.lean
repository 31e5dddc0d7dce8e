/- Parts of the walk: C31F C31A C31B C31C C31D C31E C31G. -/
import Derived.Test.YtlhaljblcimnbaaProg
import Derived.Lib.Strings
import Derived.Lib.Slices
import Derived.Lib.Walk
import Derived.Lib.Bytealg
import Derived.Lib.Builder
import Derived.Shelf.Strings.Builder1
import Derived.Lib.UnsafeStr
import Derived.Lib.TrimU
import Derived.Lib.OthersKept
import Derived.Deep.LoopGhost
import Derived.Shelf.Strings.IndexFuncSpace
import Derived.Test.YtlhaljblcimnbaaAmD
namespace Go.AM
open Go.RowKit Go.Proofs
theorem mx : Try.prog.follows .mixedOrders = true := by kernel_rfl
@[simp] theorem k0 : kdI Try.prog 0 = Option.some Go.AM.Kd.other := by kernel_rfl
@[simp] theorem t0 : tyI Try.prog 0 = Option.some (Bool.false, 1) := by kernel_rfl
@[simp] theorem a0 : apI Try.prog 0 = Option.none := by kernel_rfl
@[simp] theorem z0 : zA Try.prog 0 = Option.none := by kernel_rfl
@[simp] theorem k3 : kdI Try.prog 3 = Option.some Go.AM.Kd.int := by kernel_rfl
@[simp] theorem t3 : tyI Try.prog 3 = Option.some (Bool.false, 1) := by kernel_rfl
@[simp] theorem a3 : apI Try.prog 3 = Option.some (1, 8) := by kernel_rfl
@[simp] theorem z3 : zA Try.prog 3 = Option.some (Go.AM.AV.v (Go.Value.int Go.IntKind.i64 0)) := by kernel_rfl
@[simp] theorem k4 : kdI Try.prog 4 = Option.some Go.AM.Kd.bool := by kernel_rfl
@[simp] theorem t4 : tyI Try.prog 4 = Option.some (Bool.false, 1) := by kernel_rfl
@[simp] theorem a4 : apI Try.prog 4 = Option.some (1, 1) := by kernel_rfl
@[simp] theorem z4 : zA Try.prog 4 = Option.some (Go.AM.AV.v (Go.Value.bool Bool.false)) := by kernel_rfl
@[simp] theorem k5 : kdI Try.prog 5 = Option.some Go.AM.Kd.int := by kernel_rfl
@[simp] theorem t5 : tyI Try.prog 5 = Option.some (Bool.false, 1) := by kernel_rfl
@[simp] theorem a5 : apI Try.prog 5 = Option.some (1, 1) := by kernel_rfl
@[simp] theorem z5 : zA Try.prog 5 = Option.some (Go.AM.AV.v (Go.Value.int Go.IntKind.u8 0)) := by kernel_rfl
@[simp] theorem k9 : kdI Try.prog 9 = Option.some Go.AM.Kd.str := by kernel_rfl
@[simp] theorem t9 : tyI Try.prog 9 = Option.some (Bool.false, 1) := by kernel_rfl
@[simp] theorem a9 : apI Try.prog 9 = Option.some (1, 16) := by kernel_rfl
@[simp] theorem z9 : zA Try.prog 9 = Option.some (Go.AM.AV.v (Go.Value.string { data := { toList := [] } })) := by kernel_rfl
@[simp] theorem k20 : kdI Try.prog 20 = Option.some Go.AM.Kd.other := by kernel_rfl
@[simp] theorem t20 : tyI Try.prog 20 = Option.some (Bool.false, 1) := by kernel_rfl
@[simp] theorem z20 : zA Try.prog 20 = Option.some (Go.AM.AV.v Go.Value.nilIface) := by kernel_rfl
@[simp] theorem k21 : kdI Try.prog 21 = Option.some Go.AM.Kd.int := by kernel_rfl
@[simp] theorem t21 : tyI Try.prog 21 = Option.some (Bool.false, 1) := by kernel_rfl
@[simp] theorem a21 : apI Try.prog 21 = Option.some (1, 4) := by kernel_rfl
@[simp] theorem z21 : zA Try.prog 21 = Option.some (Go.AM.AV.v (Go.Value.int Go.IntKind.i32 0)) := by kernel_rfl
@[simp] theorem k22 : kdI Try.prog 22 = Option.some Go.AM.Kd.sl := by kernel_rfl
@[simp] theorem t22 : tyI Try.prog 22 = Option.some (Bool.false, 1) := by kernel_rfl
@[simp] theorem s22 : slI Try.prog 22 = Option.some (78, Bool.true, 5) := by kernel_rfl
@[simp] theorem a22 : apI Try.prog 22 = Option.some (1, 24) := by kernel_rfl
@[simp] theorem z22 : zA Try.prog 22 = Option.some (Go.AM.AV.lst Go.AM.Fl.nil 5 []) := by kernel_rfl
@[simp] theorem k23 : kdI Try.prog 23 = Option.some Go.AM.Kd.sl := by kernel_rfl
@[simp] theorem t23 : tyI Try.prog 23 = Option.some (Bool.false, 1) := by kernel_rfl
@[simp] theorem s23 : slI Try.prog 23 = Option.some (73, Bool.true, 3) := by kernel_rfl
@[simp] theorem a23 : apI Try.prog 23 = Option.some (1, 24) := by kernel_rfl
@[simp] theorem z23 : zA Try.prog 23 = Option.some (Go.AM.AV.lst Go.AM.Fl.nil 3 []) := by kernel_rfl
@[simp] theorem k24 : kdI Try.prog 24 = Option.some Go.AM.Kd.sl := by kernel_rfl
@[simp] theorem t24 : tyI Try.prog 24 = Option.some (Bool.false, 1) := by kernel_rfl
@[simp] theorem s24 : slI Try.prog 24 = Option.some (80, Bool.true, 5) := by kernel_rfl
@[simp] theorem a24 : apI Try.prog 24 = Option.some (1, 24) := by kernel_rfl
@[simp] theorem z24 : zA Try.prog 24 = Option.some (Go.AM.AV.lst Go.AM.Fl.nil 5 []) := by kernel_rfl
@[simp] theorem k26 : kdI Try.prog 26 = Option.some Go.AM.Kd.other := by kernel_rfl
@[simp] theorem t26 : tyI Try.prog 26 = Option.some (Bool.true, 4) := by kernel_rfl
@[simp] theorem a26 : apI Try.prog 26 = Option.some (4, 88) := by kernel_rfl
@[simp] theorem z26 : zA Try.prog 26 = Option.some (Go.AM.AV.agg [Go.AM.AV.lst Go.AM.Fl.nil 5 [], Go.AM.AV.lst Go.AM.Fl.nil 3 [], Go.AM.AV.lst Go.AM.Fl.nil 5 [], Go.AM.AV.v (Go.Value.string { data := { toList := [] } })]) := by kernel_rfl
@[simp] theorem S26 : stI Try.prog 26 = Option.some [(0, 1), (1, 1), (2, 1), (3, 1)] := by kernel_rfl
@[simp] theorem r26 : arI Try.prog 26 = Option.none := by kernel_rfl
@[simp] theorem f26_0 : fdI Try.prog 26 0 = Option.some (0, Bool.false, 1) := by kernel_rfl
@[simp] theorem ft26_0 : ftI Try.prog 26 0 = 22 := by kernel_rfl
@[simp] theorem f26_1 : fdI Try.prog 26 1 = Option.some (1, Bool.false, 1) := by kernel_rfl
@[simp] theorem ft26_1 : ftI Try.prog 26 1 = 23 := by kernel_rfl
@[simp] theorem f26_2 : fdI Try.prog 26 2 = Option.some (2, Bool.false, 1) := by kernel_rfl
@[simp] theorem ft26_2 : ftI Try.prog 26 2 = 24 := by kernel_rfl
@[simp] theorem f26_3 : fdI Try.prog 26 3 = Option.some (3, Bool.false, 1) := by kernel_rfl
@[simp] theorem ft26_3 : ftI Try.prog 26 3 = 9 := by kernel_rfl
@[simp] theorem k27 : kdI Try.prog 27 = Option.some Go.AM.Kd.sl := by kernel_rfl
@[simp] theorem t27 : tyI Try.prog 27 = Option.some (Bool.false, 1) := by kernel_rfl
@[simp] theorem s27 : slI Try.prog 27 = Option.some (5, Bool.false, 1) := by kernel_rfl
@[simp] theorem a27 : apI Try.prog 27 = Option.some (1, 24) := by kernel_rfl
@[simp] theorem z27 : zA Try.prog 27 = Option.some (Go.AM.AV.lst Go.AM.Fl.nil 1 []) := by kernel_rfl
@[simp] theorem k28 : kdI Try.prog 28 = Option.some Go.AM.Kd.sl := by kernel_rfl
@[simp] theorem t28 : tyI Try.prog 28 = Option.some (Bool.false, 1) := by kernel_rfl
@[simp] theorem s28 : slI Try.prog 28 = Option.some (56, Bool.false, 1) := by kernel_rfl
@[simp] theorem a28 : apI Try.prog 28 = Option.some (1, 24) := by kernel_rfl
@[simp] theorem z28 : zA Try.prog 28 = Option.some (Go.AM.AV.lst Go.AM.Fl.nil 1 []) := by kernel_rfl
@[simp] theorem k30 : kdI Try.prog 30 = Option.some Go.AM.Kd.other := by kernel_rfl
@[simp] theorem t30 : tyI Try.prog 30 = Option.some (Bool.true, 5) := by kernel_rfl
@[simp] theorem a30 : apI Try.prog 30 = Option.some (5, 104) := by kernel_rfl
@[simp] theorem z30 : zA Try.prog 30 = Option.some (Go.AM.AV.agg [Go.AM.AV.lst Go.AM.Fl.nil 1 [], Go.AM.AV.lst Go.AM.Fl.nil 1 [], Go.AM.AV.lst Go.AM.Fl.nil 1 [], Go.AM.AV.v (Go.Value.int Go.IntKind.u8 0), Go.AM.AV.lst Go.AM.Fl.nil 1 []]) := by kernel_rfl
@[simp] theorem S30 : stI Try.prog 30 = Option.some [(0, 1), (1, 1), (2, 1), (3, 1), (4, 1)] := by kernel_rfl
@[simp] theorem r30 : arI Try.prog 30 = Option.none := by kernel_rfl
@[simp] theorem f30_0 : fdI Try.prog 30 0 = Option.some (0, Bool.false, 1) := by kernel_rfl
@[simp] theorem ft30_0 : ftI Try.prog 30 0 = 27 := by kernel_rfl
@[simp] theorem f30_1 : fdI Try.prog 30 1 = Option.some (1, Bool.false, 1) := by kernel_rfl
@[simp] theorem ft30_1 : ftI Try.prog 30 1 = 28 := by kernel_rfl
@[simp] theorem f30_2 : fdI Try.prog 30 2 = Option.some (2, Bool.false, 1) := by kernel_rfl
@[simp] theorem ft30_2 : ftI Try.prog 30 2 = 28 := by kernel_rfl
@[simp] theorem f30_3 : fdI Try.prog 30 3 = Option.some (3, Bool.false, 1) := by kernel_rfl
@[simp] theorem ft30_3 : ftI Try.prog 30 3 = 5 := by kernel_rfl
@[simp] theorem f30_4 : fdI Try.prog 30 4 = Option.some (4, Bool.false, 1) := by kernel_rfl
@[simp] theorem ft30_4 : ftI Try.prog 30 4 = 27 := by kernel_rfl
@[simp] theorem k37 : kdI Try.prog 37 = Option.some Go.AM.Kd.sl := by kernel_rfl
@[simp] theorem t37 : tyI Try.prog 37 = Option.some (Bool.false, 1) := by kernel_rfl
@[simp] theorem s37 : slI Try.prog 37 = Option.some (85, Bool.true, 3) := by kernel_rfl
@[simp] theorem a37 : apI Try.prog 37 = Option.some (1, 24) := by kernel_rfl
@[simp] theorem z37 : zA Try.prog 37 = Option.some (Go.AM.AV.lst Go.AM.Fl.nil 3 []) := by kernel_rfl
@[simp] theorem k38 : kdI Try.prog 38 = Option.some Go.AM.Kd.sl := by kernel_rfl
@[simp] theorem t38 : tyI Try.prog 38 = Option.some (Bool.false, 1) := by kernel_rfl
@[simp] theorem s38 : slI Try.prog 38 = Option.some (83, Bool.true, 4) := by kernel_rfl
@[simp] theorem a38 : apI Try.prog 38 = Option.some (1, 24) := by kernel_rfl
@[simp] theorem z38 : zA Try.prog 38 = Option.some (Go.AM.AV.lst Go.AM.Fl.nil 4 []) := by kernel_rfl
@[simp] theorem k40 : kdI Try.prog 40 = Option.some Go.AM.Kd.other := by kernel_rfl
@[simp] theorem t40 : tyI Try.prog 40 = Option.some (Bool.true, 4) := by kernel_rfl
@[simp] theorem a40 : apI Try.prog 40 = Option.some (4, 80) := by kernel_rfl
@[simp] theorem z40 : zA Try.prog 40 = Option.some (Go.AM.AV.agg [Go.AM.AV.lst Go.AM.Fl.nil 1 [], Go.AM.AV.lst Go.AM.Fl.nil 3 [], Go.AM.AV.lst Go.AM.Fl.nil 4 [], Go.AM.AV.v (Go.Value.int Go.IntKind.i64 0)]) := by kernel_rfl
@[simp] theorem S40 : stI Try.prog 40 = Option.some [(0, 1), (1, 1), (2, 1), (3, 1)] := by kernel_rfl
@[simp] theorem r40 : arI Try.prog 40 = Option.none := by kernel_rfl
@[simp] theorem f40_0 : fdI Try.prog 40 0 = Option.some (0, Bool.false, 1) := by kernel_rfl
@[simp] theorem ft40_0 : ftI Try.prog 40 0 = 27 := by kernel_rfl
@[simp] theorem f40_1 : fdI Try.prog 40 1 = Option.some (1, Bool.false, 1) := by kernel_rfl
@[simp] theorem ft40_1 : ftI Try.prog 40 1 = 37 := by kernel_rfl
@[simp] theorem f40_2 : fdI Try.prog 40 2 = Option.some (2, Bool.false, 1) := by kernel_rfl
@[simp] theorem ft40_2 : ftI Try.prog 40 2 = 38 := by kernel_rfl
@[simp] theorem f40_3 : fdI Try.prog 40 3 = Option.some (3, Bool.false, 1) := by kernel_rfl
@[simp] theorem ft40_3 : ftI Try.prog 40 3 = 3 := by kernel_rfl
@[simp] theorem k46 : kdI Try.prog 46 = Option.some Go.AM.Kd.sl := by kernel_rfl
@[simp] theorem t46 : tyI Try.prog 46 = Option.some (Bool.false, 1) := by kernel_rfl
@[simp] theorem s46 : slI Try.prog 46 = Option.some (30, Bool.true, 5) := by kernel_rfl
@[simp] theorem a46 : apI Try.prog 46 = Option.some (1, 24) := by kernel_rfl
@[simp] theorem z46 : zA Try.prog 46 = Option.some (Go.AM.AV.lst Go.AM.Fl.nil 5 []) := by kernel_rfl
@[simp] theorem k47 : kdI Try.prog 47 = Option.some Go.AM.Kd.sl := by kernel_rfl
@[simp] theorem t47 : tyI Try.prog 47 = Option.some (Bool.false, 1) := by kernel_rfl
@[simp] theorem s47 : slI Try.prog 47 = Option.some (27, Bool.false, 1) := by kernel_rfl
@[simp] theorem a47 : apI Try.prog 47 = Option.some (1, 24) := by kernel_rfl
@[simp] theorem z47 : zA Try.prog 47 = Option.some (Go.AM.AV.lst Go.AM.Fl.nil 1 []) := by kernel_rfl
@[simp] theorem k48 : kdI Try.prog 48 = Option.some Go.AM.Kd.sl := by kernel_rfl
@[simp] theorem t48 : tyI Try.prog 48 = Option.some (Bool.false, 1) := by kernel_rfl
@[simp] theorem s48 : slI Try.prog 48 = Option.some (26, Bool.true, 4) := by kernel_rfl
@[simp] theorem a48 : apI Try.prog 48 = Option.some (1, 24) := by kernel_rfl
@[simp] theorem z48 : zA Try.prog 48 = Option.some (Go.AM.AV.lst Go.AM.Fl.nil 4 []) := by kernel_rfl
@[simp] theorem k49 : kdI Try.prog 49 = Option.some Go.AM.Kd.int := by kernel_rfl
@[simp] theorem t49 : tyI Try.prog 49 = Option.some (Bool.false, 1) := by kernel_rfl
@[simp] theorem a49 : apI Try.prog 49 = Option.some (1, 8) := by kernel_rfl
@[simp] theorem z49 : zA Try.prog 49 = Option.some (Go.AM.AV.v (Go.Value.int Go.IntKind.i64 0)) := by kernel_rfl
@[simp] theorem k50 : kdI Try.prog 50 = Option.some Go.AM.Kd.other := by kernel_rfl
@[simp] theorem t50 : tyI Try.prog 50 = Option.some (Bool.false, 1) := by kernel_rfl
@[simp] theorem a50 : apI Try.prog 50 = Option.none := by kernel_rfl
@[simp] theorem z50 : zA Try.prog 50 = Option.none := by kernel_rfl
@[simp] theorem k52 : kdI Try.prog 52 = Option.some Go.AM.Kd.other := by kernel_rfl
@[simp] theorem t52 : tyI Try.prog 52 = Option.some (Bool.false, 1) := by kernel_rfl
@[simp] theorem a52 : apI Try.prog 52 = Option.none := by kernel_rfl
@[simp] theorem z52 : zA Try.prog 52 = Option.none := by kernel_rfl
@[simp] theorem k56 : kdI Try.prog 56 = Option.some Go.AM.Kd.int := by kernel_rfl
@[simp] theorem t56 : tyI Try.prog 56 = Option.some (Bool.false, 1) := by kernel_rfl
@[simp] theorem a56 : apI Try.prog 56 = Option.some (1, 2) := by kernel_rfl
@[simp] theorem z56 : zA Try.prog 56 = Option.some (Go.AM.AV.v (Go.Value.int Go.IntKind.u16 0)) := by kernel_rfl
@[simp] theorem k60 : kdI Try.prog 60 = Option.some (Go.AM.Kd.arr 4) := by kernel_rfl
@[simp] theorem t60 : tyI Try.prog 60 = Option.some (Bool.true, 4) := by kernel_rfl
@[simp] theorem a60 : apI Try.prog 60 = Option.some (4, 96) := by kernel_rfl
@[simp] theorem z60 : zA Try.prog 60 = Option.some (Go.AM.AV.agg [Go.AM.AV.lst Go.AM.Fl.nil 1 [], Go.AM.AV.lst Go.AM.Fl.nil 1 [], Go.AM.AV.lst Go.AM.Fl.nil 1 [], Go.AM.AV.lst Go.AM.Fl.nil 1 []]) := by kernel_rfl
@[simp] theorem S60 : stI Try.prog 60 = Option.none := by kernel_rfl
@[simp] theorem r60 : arI Try.prog 60 = Option.some (4, 47, Bool.false, 1) := by kernel_rfl
@[simp] theorem k64 : kdI Try.prog 64 = Option.some Go.AM.Kd.other := by kernel_rfl
@[simp] theorem t64 : tyI Try.prog 64 = Option.some (Bool.false, 1) := by kernel_rfl
@[simp] theorem a64 : apI Try.prog 64 = Option.none := by kernel_rfl
@[simp] theorem z64 : zA Try.prog 64 = Option.none := by kernel_rfl
@[simp] theorem k66 : kdI Try.prog 66 = Option.some Go.AM.Kd.other := by kernel_rfl
@[simp] theorem t66 : tyI Try.prog 66 = Option.some (Bool.false, 1) := by kernel_rfl
@[simp] theorem a66 : apI Try.prog 66 = Option.none := by kernel_rfl
@[simp] theorem z66 : zA Try.prog 66 = Option.none := by kernel_rfl
@[simp] theorem k69 : kdI Try.prog 69 = Option.some (Go.AM.Kd.arr 3) := by kernel_rfl
@[simp] theorem t69 : tyI Try.prog 69 = Option.some (Bool.true, 3) := by kernel_rfl
@[simp] theorem a69 : apI Try.prog 69 = Option.some (3, 72) := by kernel_rfl
@[simp] theorem z69 : zA Try.prog 69 = Option.some (Go.AM.AV.agg [Go.AM.AV.lst Go.AM.Fl.nil 1 [], Go.AM.AV.lst Go.AM.Fl.nil 1 [], Go.AM.AV.lst Go.AM.Fl.nil 1 []]) := by kernel_rfl
@[simp] theorem S69 : stI Try.prog 69 = Option.none := by kernel_rfl
@[simp] theorem r69 : arI Try.prog 69 = Option.some (3, 47, Bool.false, 1) := by kernel_rfl
@[simp] theorem k73 : kdI Try.prog 73 = Option.some Go.AM.Kd.other := by kernel_rfl
@[simp] theorem t73 : tyI Try.prog 73 = Option.some (Bool.true, 3) := by kernel_rfl
@[simp] theorem a73 : apI Try.prog 73 = Option.some (3, 40) := by kernel_rfl
@[simp] theorem z73 : zA Try.prog 73 = Option.some (Go.AM.AV.agg [Go.AM.AV.v (Go.Value.int Go.IntKind.i64 0), Go.AM.AV.v (Go.Value.int Go.IntKind.i64 0), Go.AM.AV.lst Go.AM.Fl.nil 1 []]) := by kernel_rfl
@[simp] theorem S73 : stI Try.prog 73 = Option.some [(0, 1), (1, 1), (2, 1)] := by kernel_rfl
@[simp] theorem r73 : arI Try.prog 73 = Option.none := by kernel_rfl
@[simp] theorem f73_0 : fdI Try.prog 73 0 = Option.some (0, Bool.false, 1) := by kernel_rfl
@[simp] theorem ft73_0 : ftI Try.prog 73 0 = 3 := by kernel_rfl
@[simp] theorem f73_1 : fdI Try.prog 73 1 = Option.some (1, Bool.false, 1) := by kernel_rfl
@[simp] theorem ft73_1 : ftI Try.prog 73 1 = 3 := by kernel_rfl
@[simp] theorem f73_2 : fdI Try.prog 73 2 = Option.some (2, Bool.false, 1) := by kernel_rfl
@[simp] theorem ft73_2 : ftI Try.prog 73 2 = 27 := by kernel_rfl
@[simp] theorem k74 : kdI Try.prog 74 = Option.some (Go.AM.Kd.arr 2) := by kernel_rfl
@[simp] theorem t74 : tyI Try.prog 74 = Option.some (Bool.true, 2) := by kernel_rfl
@[simp] theorem a74 : apI Try.prog 74 = Option.some (2, 48) := by kernel_rfl
@[simp] theorem z74 : zA Try.prog 74 = Option.some (Go.AM.AV.agg [Go.AM.AV.lst Go.AM.Fl.nil 1 [], Go.AM.AV.lst Go.AM.Fl.nil 1 []]) := by kernel_rfl
@[simp] theorem S74 : stI Try.prog 74 = Option.none := by kernel_rfl
@[simp] theorem r74 : arI Try.prog 74 = Option.some (2, 47, Bool.false, 1) := by kernel_rfl
@[simp] theorem k76 : kdI Try.prog 76 = Option.some (Go.AM.Kd.arr 7) := by kernel_rfl
@[simp] theorem t76 : tyI Try.prog 76 = Option.some (Bool.true, 7) := by kernel_rfl
@[simp] theorem a76 : apI Try.prog 76 = Option.some (7, 112) := by kernel_rfl
@[simp] theorem z76 : zA Try.prog 76 = Option.some (Go.AM.AV.agg [Go.AM.AV.v (Go.Value.string { data := { toList := [] } }), Go.AM.AV.v (Go.Value.string { data := { toList := [] } }), Go.AM.AV.v (Go.Value.string { data := { toList := [] } }), Go.AM.AV.v (Go.Value.string { data := { toList := [] } }), Go.AM.AV.v (Go.Value.string { data := { toList := [] } }), Go.AM.AV.v (Go.Value.string { data := { toList := [] } }), Go.AM.AV.v (Go.Value.string { data := { toList := [] } })]) := by kernel_rfl
@[simp] theorem S76 : stI Try.prog 76 = Option.none := by kernel_rfl
@[simp] theorem r76 : arI Try.prog 76 = Option.some (7, 9, Bool.false, 1) := by kernel_rfl
@[simp] theorem k78 : kdI Try.prog 78 = Option.some Go.AM.Kd.other := by kernel_rfl
@[simp] theorem t78 : tyI Try.prog 78 = Option.some (Bool.true, 5) := by kernel_rfl
@[simp] theorem a78 : apI Try.prog 78 = Option.some (5, 48) := by kernel_rfl
@[simp] theorem z78 : zA Try.prog 78 = Option.some (Go.AM.AV.agg [Go.AM.AV.v (Go.Value.string { data := { toList := [] } }), Go.AM.AV.v (Go.Value.int Go.IntKind.i64 0), Go.AM.AV.v (Go.Value.int Go.IntKind.i64 0), Go.AM.AV.v (Go.Value.int Go.IntKind.i64 0), Go.AM.AV.v (Go.Value.int Go.IntKind.i64 0)]) := by kernel_rfl
@[simp] theorem S78 : stI Try.prog 78 = Option.some [(0, 1), (1, 1), (2, 1), (3, 1), (4, 1)] := by kernel_rfl
@[simp] theorem r78 : arI Try.prog 78 = Option.none := by kernel_rfl
@[simp] theorem f78_0 : fdI Try.prog 78 0 = Option.some (0, Bool.false, 1) := by kernel_rfl
@[simp] theorem ft78_0 : ftI Try.prog 78 0 = 9 := by kernel_rfl
@[simp] theorem f78_1 : fdI Try.prog 78 1 = Option.some (1, Bool.false, 1) := by kernel_rfl
@[simp] theorem ft78_1 : ftI Try.prog 78 1 = 3 := by kernel_rfl
@[simp] theorem f78_2 : fdI Try.prog 78 2 = Option.some (2, Bool.false, 1) := by kernel_rfl
@[simp] theorem ft78_2 : ftI Try.prog 78 2 = 3 := by kernel_rfl
@[simp] theorem f78_3 : fdI Try.prog 78 3 = Option.some (3, Bool.false, 1) := by kernel_rfl
@[simp] theorem ft78_3 : ftI Try.prog 78 3 = 3 := by kernel_rfl
@[simp] theorem f78_4 : fdI Try.prog 78 4 = Option.some (4, Bool.false, 1) := by kernel_rfl
@[simp] theorem ft78_4 : ftI Try.prog 78 4 = 3 := by kernel_rfl
@[simp] theorem k80 : kdI Try.prog 80 = Option.some Go.AM.Kd.other := by kernel_rfl
@[simp] theorem t80 : tyI Try.prog 80 = Option.some (Bool.true, 5) := by kernel_rfl
@[simp] theorem a80 : apI Try.prog 80 = Option.some (5, 40) := by kernel_rfl
@[simp] theorem z80 : zA Try.prog 80 = Option.some (Go.AM.AV.agg [Go.AM.AV.v (Go.Value.int Go.IntKind.i64 0), Go.AM.AV.v (Go.Value.int Go.IntKind.i64 0), Go.AM.AV.v (Go.Value.int Go.IntKind.i64 0), Go.AM.AV.v (Go.Value.int Go.IntKind.i64 0), Go.AM.AV.v (Go.Value.bool Bool.false)]) := by kernel_rfl
@[simp] theorem S80 : stI Try.prog 80 = Option.some [(0, 1), (1, 1), (2, 1), (3, 1), (4, 1)] := by kernel_rfl
@[simp] theorem r80 : arI Try.prog 80 = Option.none := by kernel_rfl
@[simp] theorem f80_0 : fdI Try.prog 80 0 = Option.some (0, Bool.false, 1) := by kernel_rfl
@[simp] theorem ft80_0 : ftI Try.prog 80 0 = 3 := by kernel_rfl
@[simp] theorem f80_1 : fdI Try.prog 80 1 = Option.some (1, Bool.false, 1) := by kernel_rfl
@[simp] theorem ft80_1 : ftI Try.prog 80 1 = 3 := by kernel_rfl
@[simp] theorem f80_2 : fdI Try.prog 80 2 = Option.some (2, Bool.false, 1) := by kernel_rfl
@[simp] theorem ft80_2 : ftI Try.prog 80 2 = 3 := by kernel_rfl
@[simp] theorem f80_3 : fdI Try.prog 80 3 = Option.some (3, Bool.false, 1) := by kernel_rfl
@[simp] theorem ft80_3 : ftI Try.prog 80 3 = 3 := by kernel_rfl
@[simp] theorem f80_4 : fdI Try.prog 80 4 = Option.some (4, Bool.false, 1) := by kernel_rfl
@[simp] theorem ft80_4 : ftI Try.prog 80 4 = 4 := by kernel_rfl
@[simp] theorem k83 : kdI Try.prog 83 = Option.some Go.AM.Kd.other := by kernel_rfl
@[simp] theorem t83 : tyI Try.prog 83 = Option.some (Bool.true, 4) := by kernel_rfl
@[simp] theorem a83 : apI Try.prog 83 = Option.some (4, 32) := by kernel_rfl
@[simp] theorem z83 : zA Try.prog 83 = Option.some (Go.AM.AV.agg [Go.AM.AV.v (Go.Value.int Go.IntKind.i64 0), Go.AM.AV.v (Go.Value.int Go.IntKind.i64 0), Go.AM.AV.v (Go.Value.int Go.IntKind.i64 0), Go.AM.AV.v (Go.Value.int Go.IntKind.i64 0)]) := by kernel_rfl
@[simp] theorem S83 : stI Try.prog 83 = Option.some [(0, 1), (1, 1), (2, 1), (3, 1)] := by kernel_rfl
@[simp] theorem r83 : arI Try.prog 83 = Option.none := by kernel_rfl
@[simp] theorem f83_0 : fdI Try.prog 83 0 = Option.some (0, Bool.false, 1) := by kernel_rfl
@[simp] theorem ft83_0 : ftI Try.prog 83 0 = 3 := by kernel_rfl
@[simp] theorem f83_1 : fdI Try.prog 83 1 = Option.some (1, Bool.false, 1) := by kernel_rfl
@[simp] theorem ft83_1 : ftI Try.prog 83 1 = 3 := by kernel_rfl
@[simp] theorem f83_2 : fdI Try.prog 83 2 = Option.some (2, Bool.false, 1) := by kernel_rfl
@[simp] theorem ft83_2 : ftI Try.prog 83 2 = 3 := by kernel_rfl
@[simp] theorem f83_3 : fdI Try.prog 83 3 = Option.some (3, Bool.false, 1) := by kernel_rfl
@[simp] theorem ft83_3 : ftI Try.prog 83 3 = 3 := by kernel_rfl
@[simp] theorem k85 : kdI Try.prog 85 = Option.some Go.AM.Kd.other := by kernel_rfl
@[simp] theorem t85 : tyI Try.prog 85 = Option.some (Bool.true, 3) := by kernel_rfl
@[simp] theorem a85 : apI Try.prog 85 = Option.some (3, 24) := by kernel_rfl
@[simp] theorem z85 : zA Try.prog 85 = Option.some (Go.AM.AV.agg [Go.AM.AV.v (Go.Value.int Go.IntKind.i64 0), Go.AM.AV.v (Go.Value.int Go.IntKind.i64 0), Go.AM.AV.v (Go.Value.bool Bool.false)]) := by kernel_rfl
@[simp] theorem S85 : stI Try.prog 85 = Option.some [(0, 1), (1, 1), (2, 1)] := by kernel_rfl
@[simp] theorem r85 : arI Try.prog 85 = Option.none := by kernel_rfl
@[simp] theorem f85_0 : fdI Try.prog 85 0 = Option.some (0, Bool.false, 1) := by kernel_rfl
@[simp] theorem ft85_0 : ftI Try.prog 85 0 = 3 := by kernel_rfl
@[simp] theorem f85_1 : fdI Try.prog 85 1 = Option.some (1, Bool.false, 1) := by kernel_rfl
@[simp] theorem ft85_1 : ftI Try.prog 85 1 = 3 := by kernel_rfl
@[simp] theorem f85_2 : fdI Try.prog 85 2 = Option.some (2, Bool.false, 1) := by kernel_rfl
@[simp] theorem ft85_2 : ftI Try.prog 85 2 = 4 := by kernel_rfl
@[simp] theorem k90 : kdI Try.prog 90 = Option.some Go.AM.Kd.ptr := by kernel_rfl
@[simp] theorem t90 : tyI Try.prog 90 = Option.some (Bool.false, 1) := by kernel_rfl
@[simp] theorem z90 : zA Try.prog 90 = Option.some (Go.AM.AV.v (Go.Value.pointer Option.none)) := by kernel_rfl
@[simp] theorem k91 : kdI Try.prog 91 = Option.some Go.AM.Kd.ptr := by kernel_rfl
@[simp] theorem t91 : tyI Try.prog 91 = Option.some (Bool.false, 1) := by kernel_rfl
@[simp] theorem z91 : zA Try.prog 91 = Option.some (Go.AM.AV.v (Go.Value.pointer Option.none)) := by kernel_rfl
@[simp] theorem k92 : kdI Try.prog 92 = Option.some Go.AM.Kd.ptr := by kernel_rfl
@[simp] theorem t92 : tyI Try.prog 92 = Option.some (Bool.false, 1) := by kernel_rfl
@[simp] theorem z92 : zA Try.prog 92 = Option.some (Go.AM.AV.v (Go.Value.pointer Option.none)) := by kernel_rfl
@[simp] theorem k95 : kdI Try.prog 95 = Option.some Go.AM.Kd.sl := by kernel_rfl
@[simp] theorem t95 : tyI Try.prog 95 = Option.some (Bool.false, 1) := by kernel_rfl
@[simp] theorem s95 : slI Try.prog 95 = Option.some (3, Bool.false, 1) := by kernel_rfl
@[simp] theorem a95 : apI Try.prog 95 = Option.some (1, 24) := by kernel_rfl
@[simp] theorem z95 : zA Try.prog 95 = Option.some (Go.AM.AV.lst Go.AM.Fl.nil 1 []) := by kernel_rfl
@[simp] theorem k96 : kdI Try.prog 96 = Option.some Go.AM.Kd.sl := by kernel_rfl
@[simp] theorem t96 : tyI Try.prog 96 = Option.some (Bool.false, 1) := by kernel_rfl
@[simp] theorem s96 : slI Try.prog 96 = Option.some (9, Bool.false, 1) := by kernel_rfl
@[simp] theorem a96 : apI Try.prog 96 = Option.some (1, 24) := by kernel_rfl
@[simp] theorem z96 : zA Try.prog 96 = Option.some (Go.AM.AV.lst Go.AM.Fl.nil 1 []) := by kernel_rfl
@[simp] theorem k97 : kdI Try.prog 97 = Option.some Go.AM.Kd.ptr := by kernel_rfl
@[simp] theorem t97 : tyI Try.prog 97 = Option.some (Bool.false, 1) := by kernel_rfl
@[simp] theorem z97 : zA Try.prog 97 = Option.some (Go.AM.AV.v (Go.Value.pointer Option.none)) := by kernel_rfl
@[simp] theorem k98 : kdI Try.prog 98 = Option.some Go.AM.Kd.ptr := by kernel_rfl
@[simp] theorem t98 : tyI Try.prog 98 = Option.some (Bool.false, 1) := by kernel_rfl
@[simp] theorem z98 : zA Try.prog 98 = Option.some (Go.AM.AV.v (Go.Value.pointer Option.none)) := by kernel_rfl
@[simp] theorem k99 : kdI Try.prog 99 = Option.some Go.AM.Kd.fn := by kernel_rfl
@[simp] theorem t99 : tyI Try.prog 99 = Option.some (Bool.false, 1) := by kernel_rfl
@[simp] theorem z99 : zA Try.prog 99 = Option.some (Go.AM.AV.v Go.Value.nilFunc) := by kernel_rfl
@[simp] theorem k100 : kdI Try.prog 100 = Option.some Go.AM.Kd.fn := by kernel_rfl
@[simp] theorem t100 : tyI Try.prog 100 = Option.some (Bool.false, 1) := by kernel_rfl
@[simp] theorem z100 : zA Try.prog 100 = Option.some (Go.AM.AV.v Go.Value.nilFunc) := by kernel_rfl
@[simp] theorem k102 : kdI Try.prog 102 = Option.some Go.AM.Kd.fn := by kernel_rfl
@[simp] theorem t102 : tyI Try.prog 102 = Option.some (Bool.false, 1) := by kernel_rfl
@[simp] theorem z102 : zA Try.prog 102 = Option.some (Go.AM.AV.v Go.Value.nilFunc) := by kernel_rfl
@[simp] theorem k103 : kdI Try.prog 103 = Option.some Go.AM.Kd.other := by kernel_rfl
@[simp] theorem t103 : tyI Try.prog 103 = Option.some (Bool.false, 1) := by kernel_rfl
@[simp] theorem a103 : apI Try.prog 103 = Option.none := by kernel_rfl
@[simp] theorem z103 : zA Try.prog 103 = Option.none := by kernel_rfl
@[simp] theorem k107 : kdI Try.prog 107 = Option.some Go.AM.Kd.fn := by kernel_rfl
@[simp] theorem t107 : tyI Try.prog 107 = Option.some (Bool.false, 1) := by kernel_rfl
@[simp] theorem z107 : zA Try.prog 107 = Option.some (Go.AM.AV.v Go.Value.nilFunc) := by kernel_rfl
@[simp] theorem k109 : kdI Try.prog 109 = Option.some Go.AM.Kd.fn := by kernel_rfl
@[simp] theorem t109 : tyI Try.prog 109 = Option.some (Bool.false, 1) := by kernel_rfl
@[simp] theorem z109 : zA Try.prog 109 = Option.some (Go.AM.AV.v Go.Value.nilFunc) := by kernel_rfl
@[simp] theorem k110 : kdI Try.prog 110 = Option.some Go.AM.Kd.fn := by kernel_rfl
@[simp] theorem t110 : tyI Try.prog 110 = Option.some (Bool.false, 1) := by kernel_rfl
@[simp] theorem z110 : zA Try.prog 110 = Option.some (Go.AM.AV.v Go.Value.nilFunc) := by kernel_rfl
@[simp] theorem k115 : kdI Try.prog 115 = Option.some Go.AM.Kd.fn := by kernel_rfl
@[simp] theorem t115 : tyI Try.prog 115 = Option.some (Bool.false, 1) := by kernel_rfl
@[simp] theorem z115 : zA Try.prog 115 = Option.some (Go.AM.AV.v Go.Value.nilFunc) := by kernel_rfl
@[simp] theorem k116 : kdI Try.prog 116 = Option.some Go.AM.Kd.fn := by kernel_rfl
@[simp] theorem t116 : tyI Try.prog 116 = Option.some (Bool.false, 1) := by kernel_rfl
@[simp] theorem z116 : zA Try.prog 116 = Option.some (Go.AM.AV.v Go.Value.nilFunc) := by kernel_rfl
@[simp] theorem k117 : kdI Try.prog 117 = Option.some Go.AM.Kd.other := by kernel_rfl
@[simp] theorem t117 : tyI Try.prog 117 = Option.some (Bool.false, 1) := by kernel_rfl
@[simp] theorem a117 : apI Try.prog 117 = Option.none := by kernel_rfl
@[simp] theorem z117 : zA Try.prog 117 = Option.none := by kernel_rfl
@[simp] theorem k119 : kdI Try.prog 119 = Option.some Go.AM.Kd.fn := by kernel_rfl
@[simp] theorem t119 : tyI Try.prog 119 = Option.some (Bool.false, 1) := by kernel_rfl
@[simp] theorem z119 : zA Try.prog 119 = Option.some (Go.AM.AV.v Go.Value.nilFunc) := by kernel_rfl
@[simp] theorem k120 : kdI Try.prog 120 = Option.some Go.AM.Kd.fn := by kernel_rfl
@[simp] theorem t120 : tyI Try.prog 120 = Option.some (Bool.false, 1) := by kernel_rfl
@[simp] theorem z120 : zA Try.prog 120 = Option.some (Go.AM.AV.v Go.Value.nilFunc) := by kernel_rfl
@[simp] theorem k122 : kdI Try.prog 122 = Option.some Go.AM.Kd.fn := by kernel_rfl
@[simp] theorem t122 : tyI Try.prog 122 = Option.some (Bool.false, 1) := by kernel_rfl
@[simp] theorem z122 : zA Try.prog 122 = Option.some (Go.AM.AV.v Go.Value.nilFunc) := by kernel_rfl
@[simp] theorem k123 : kdI Try.prog 123 = Option.some Go.AM.Kd.fn := by kernel_rfl
@[simp] theorem t123 : tyI Try.prog 123 = Option.some (Bool.false, 1) := by kernel_rfl
@[simp] theorem z123 : zA Try.prog 123 = Option.some (Go.AM.AV.v Go.Value.nilFunc) := by kernel_rfl
@[simp] theorem k127 : kdI Try.prog 127 = Option.some Go.AM.Kd.ptr := by kernel_rfl
@[simp] theorem t127 : tyI Try.prog 127 = Option.some (Bool.false, 1) := by kernel_rfl
@[simp] theorem z127 : zA Try.prog 127 = Option.some (Go.AM.AV.v (Go.Value.pointer Option.none)) := by kernel_rfl
@[simp] theorem k130 : kdI Try.prog 130 = Option.some Go.AM.Kd.int := by kernel_rfl
@[simp] theorem t130 : tyI Try.prog 130 = Option.some (Bool.false, 1) := by kernel_rfl
@[simp] theorem a130 : apI Try.prog 130 = Option.some (1, 8) := by kernel_rfl
@[simp] theorem z130 : zA Try.prog 130 = Option.some (Go.AM.AV.v (Go.Value.int Go.IntKind.u64 0)) := by kernel_rfl
@[simp] theorem k131 : kdI Try.prog 131 = Option.some Go.AM.Kd.ptr := by kernel_rfl
@[simp] theorem t131 : tyI Try.prog 131 = Option.some (Bool.false, 1) := by kernel_rfl
@[simp] theorem z131 : zA Try.prog 131 = Option.some (Go.AM.AV.v (Go.Value.pointer Option.none)) := by kernel_rfl
@[simp] theorem k132 : kdI Try.prog 132 = Option.some Go.AM.Kd.mp := by kernel_rfl
@[simp] theorem t132 : tyI Try.prog 132 = Option.some (Bool.false, 1) := by kernel_rfl
@[simp] theorem z132 : zA Try.prog 132 = Option.some (Go.AM.AV.v (Go.Value.map Option.none)) := by kernel_rfl
@[simp] theorem m132 : mpI Try.prog 132 = Option.some (Go.TypeDesc.int Go.IntKind.i64, 78) := by kernel_rfl
@[simp] theorem k133 : kdI Try.prog 133 = Option.some Go.AM.Kd.mp := by kernel_rfl
@[simp] theorem t133 : tyI Try.prog 133 = Option.some (Bool.false, 1) := by kernel_rfl
@[simp] theorem z133 : zA Try.prog 133 = Option.some (Go.AM.AV.v (Go.Value.map Option.none)) := by kernel_rfl
@[simp] theorem m133 : mpI Try.prog 133 = Option.some (Go.TypeDesc.string, 3) := by kernel_rfl
@[simp] theorem k135 : kdI Try.prog 135 = Option.some Go.AM.Kd.other := by kernel_rfl
@[simp] theorem t135 : tyI Try.prog 135 = Option.some (Bool.true, 3) := by kernel_rfl
@[simp] theorem a135 : apI Try.prog 135 = Option.some (3, 24) := by kernel_rfl
@[simp] theorem z135 : zA Try.prog 135 = Option.some (Go.AM.AV.agg [Go.AM.AV.v (Go.Value.map Option.none), Go.AM.AV.v (Go.Value.map Option.none), Go.AM.AV.v (Go.Value.int Go.IntKind.i64 0)]) := by kernel_rfl
@[simp] theorem S135 : stI Try.prog 135 = Option.some [(0, 1), (1, 1), (2, 1)] := by kernel_rfl
@[simp] theorem r135 : arI Try.prog 135 = Option.none := by kernel_rfl
@[simp] theorem f135_0 : fdI Try.prog 135 0 = Option.some (0, Bool.false, 1) := by kernel_rfl
@[simp] theorem ft135_0 : ftI Try.prog 135 0 = 132 := by kernel_rfl
@[simp] theorem f135_1 : fdI Try.prog 135 1 = Option.some (1, Bool.false, 1) := by kernel_rfl
@[simp] theorem ft135_1 : ftI Try.prog 135 1 = 133 := by kernel_rfl
@[simp] theorem f135_2 : fdI Try.prog 135 2 = Option.some (2, Bool.false, 1) := by kernel_rfl
@[simp] theorem ft135_2 : ftI Try.prog 135 2 = 3 := by kernel_rfl
@[simp] theorem k138 : kdI Try.prog 138 = Option.some Go.AM.Kd.other := by kernel_rfl
@[simp] theorem t138 : tyI Try.prog 138 = Option.some (Bool.false, 1) := by kernel_rfl
@[simp] theorem a138 : apI Try.prog 138 = Option.none := by kernel_rfl
@[simp] theorem z138 : zA Try.prog 138 = Option.none := by kernel_rfl
@[simp] theorem k140 : kdI Try.prog 140 = Option.some Go.AM.Kd.fn := by kernel_rfl
@[simp] theorem t140 : tyI Try.prog 140 = Option.some (Bool.false, 1) := by kernel_rfl
@[simp] theorem z140 : zA Try.prog 140 = Option.some (Go.AM.AV.v Go.Value.nilFunc) := by kernel_rfl
@[simp] theorem k141 : kdI Try.prog 141 = Option.some (Go.AM.Kd.arr 4) := by kernel_rfl
@[simp] theorem t141 : tyI Try.prog 141 = Option.some (Bool.true, 4) := by kernel_rfl
@[simp] theorem a141 : apI Try.prog 141 = Option.some (4, 64) := by kernel_rfl
@[simp] theorem z141 : zA Try.prog 141 = Option.some (Go.AM.AV.agg [Go.AM.AV.v (Go.Value.string { data := { toList := [] } }), Go.AM.AV.v (Go.Value.string { data := { toList := [] } }), Go.AM.AV.v (Go.Value.string { data := { toList := [] } }), Go.AM.AV.v (Go.Value.string { data := { toList := [] } })]) := by kernel_rfl
@[simp] theorem S141 : stI Try.prog 141 = Option.none := by kernel_rfl
@[simp] theorem r141 : arI Try.prog 141 = Option.some (4, 9, Bool.false, 1) := by kernel_rfl
@[simp] theorem k147 : kdI Try.prog 147 = Option.some Go.AM.Kd.fn := by kernel_rfl
@[simp] theorem t147 : tyI Try.prog 147 = Option.some (Bool.false, 1) := by kernel_rfl
@[simp] theorem z147 : zA Try.prog 147 = Option.some (Go.AM.AV.v Go.Value.nilFunc) := by kernel_rfl
@[simp] theorem k149 : kdI Try.prog 149 = Option.some Go.AM.Kd.fn := by kernel_rfl
@[simp] theorem t149 : tyI Try.prog 149 = Option.some (Bool.false, 1) := by kernel_rfl
@[simp] theorem z149 : zA Try.prog 149 = Option.some (Go.AM.AV.v Go.Value.nilFunc) := by kernel_rfl
@[simp] theorem k150 : kdI Try.prog 150 = Option.some Go.AM.Kd.other := by kernel_rfl
@[simp] theorem t150 : tyI Try.prog 150 = Option.some (Bool.false, 1) := by kernel_rfl
@[simp] theorem a150 : apI Try.prog 150 = Option.none := by kernel_rfl
@[simp] theorem z150 : zA Try.prog 150 = Option.none := by kernel_rfl
@[simp] theorem k153 : kdI Try.prog 153 = Option.some Go.AM.Kd.fn := by kernel_rfl
@[simp] theorem t153 : tyI Try.prog 153 = Option.some (Bool.false, 1) := by kernel_rfl
@[simp] theorem z153 : zA Try.prog 153 = Option.some (Go.AM.AV.v Go.Value.nilFunc) := by kernel_rfl
@[simp] theorem k154 : kdI Try.prog 154 = Option.some Go.AM.Kd.fn := by kernel_rfl
@[simp] theorem t154 : tyI Try.prog 154 = Option.some (Bool.false, 1) := by kernel_rfl
@[simp] theorem z154 : zA Try.prog 154 = Option.some (Go.AM.AV.v Go.Value.nilFunc) := by kernel_rfl
@[simp] theorem k155 : kdI Try.prog 155 = Option.some Go.AM.Kd.ptr := by kernel_rfl
@[simp] theorem t155 : tyI Try.prog 155 = Option.some (Bool.false, 1) := by kernel_rfl
@[simp] theorem z155 : zA Try.prog 155 = Option.some (Go.AM.AV.v (Go.Value.pointer Option.none)) := by kernel_rfl
@[simp] theorem k157 : kdI Try.prog 157 = Option.some Go.AM.Kd.other := by kernel_rfl
@[simp] theorem t157 : tyI Try.prog 157 = Option.some (Bool.true, 2) := by kernel_rfl
@[simp] theorem a157 : apI Try.prog 157 = Option.some (2, 32) := by kernel_rfl
@[simp] theorem z157 : zA Try.prog 157 = Option.some (Go.AM.AV.agg [Go.AM.AV.v (Go.Value.pointer Option.none), Go.AM.AV.lst Go.AM.Fl.nil 1 []]) := by kernel_rfl
@[simp] theorem S157 : stI Try.prog 157 = Option.some [(0, 1), (1, 1)] := by kernel_rfl
@[simp] theorem r157 : arI Try.prog 157 = Option.none := by kernel_rfl
@[simp] theorem f157_0 : fdI Try.prog 157 0 = Option.some (0, Bool.false, 1) := by kernel_rfl
@[simp] theorem ft157_0 : ftI Try.prog 157 0 = 155 := by kernel_rfl
@[simp] theorem f157_1 : fdI Try.prog 157 1 = Option.some (1, Bool.false, 1) := by kernel_rfl
@[simp] theorem ft157_1 : ftI Try.prog 157 1 = 27 := by kernel_rfl
@[simp] theorem k158 : kdI Try.prog 158 = Option.some Go.AM.Kd.other := by kernel_rfl
@[simp] theorem t158 : tyI Try.prog 158 = Option.some (Bool.false, 1) := by kernel_rfl
@[simp] theorem a158 : apI Try.prog 158 = Option.none := by kernel_rfl
@[simp] theorem z158 : zA Try.prog 158 = Option.none := by kernel_rfl
@[simp] theorem k161 : kdI Try.prog 161 = Option.some Go.AM.Kd.other := by kernel_rfl
@[simp] theorem t161 : tyI Try.prog 161 = Option.some (Bool.false, 1) := by kernel_rfl
@[simp] theorem z161 : zA Try.prog 161 = Option.some (Go.AM.AV.v Go.Value.nilIface) := by kernel_rfl
@[simp] theorem k165 : kdI Try.prog 165 = Option.some (Go.AM.Kd.arr 4) := by kernel_rfl
@[simp] theorem t165 : tyI Try.prog 165 = Option.some (Bool.true, 4) := by kernel_rfl
@[simp] theorem a165 : apI Try.prog 165 = Option.some (4, 32) := by kernel_rfl
@[simp] theorem z165 : zA Try.prog 165 = Option.some (Go.AM.AV.agg [Go.AM.AV.v Go.Value.nilFunc, Go.AM.AV.v Go.Value.nilFunc, Go.AM.AV.v Go.Value.nilFunc, Go.AM.AV.v Go.Value.nilFunc]) := by kernel_rfl
@[simp] theorem S165 : stI Try.prog 165 = Option.none := by kernel_rfl
@[simp] theorem r165 : arI Try.prog 165 = Option.some (4, 107, Bool.false, 1) := by kernel_rfl
@[simp] theorem k167 : kdI Try.prog 167 = Option.some Go.AM.Kd.other := by kernel_rfl
@[simp] theorem t167 : tyI Try.prog 167 = Option.some (Bool.false, 1) := by kernel_rfl
@[simp] theorem a167 : apI Try.prog 167 = Option.none := by kernel_rfl
@[simp] theorem z167 : zA Try.prog 167 = Option.none := by kernel_rfl
@[simp] theorem k172 : kdI Try.prog 172 = Option.some Go.AM.Kd.other := by kernel_rfl
@[simp] theorem t172 : tyI Try.prog 172 = Option.some (Bool.false, 1) := by kernel_rfl
@[simp] theorem a172 : apI Try.prog 172 = Option.none := by kernel_rfl
@[simp] theorem z172 : zA Try.prog 172 = Option.none := by kernel_rfl
@[simp] theorem k177 : kdI Try.prog 177 = Option.some Go.AM.Kd.ptr := by kernel_rfl
@[simp] theorem t177 : tyI Try.prog 177 = Option.some (Bool.false, 1) := by kernel_rfl
@[simp] theorem z177 : zA Try.prog 177 = Option.some (Go.AM.AV.v (Go.Value.pointer Option.none)) := by kernel_rfl
@[simp] theorem k178 : kdI Try.prog 178 = Option.some Go.AM.Kd.int := by kernel_rfl
@[simp] theorem t178 : tyI Try.prog 178 = Option.some (Bool.false, 1) := by kernel_rfl
@[simp] theorem a178 : apI Try.prog 178 = Option.some (1, 4) := by kernel_rfl
@[simp] theorem z178 : zA Try.prog 178 = Option.some (Go.AM.AV.v (Go.Value.int Go.IntKind.u32 0)) := by kernel_rfl
@[simp] theorem k179 : kdI Try.prog 179 = Option.some Go.AM.Kd.other := by kernel_rfl
@[simp] theorem t179 : tyI Try.prog 179 = Option.some (Bool.false, 1) := by kernel_rfl
@[simp] theorem a179 : apI Try.prog 179 = Option.none := by kernel_rfl
@[simp] theorem z179 : zA Try.prog 179 = Option.none := by kernel_rfl
@[simp] theorem k181 : kdI Try.prog 181 = Option.some Go.AM.Kd.int := by kernel_rfl
@[simp] theorem t181 : tyI Try.prog 181 = Option.some (Bool.false, 1) := by kernel_rfl
@[simp] theorem a181 : apI Try.prog 181 = Option.some (1, 8) := by kernel_rfl
@[simp] theorem z181 : zA Try.prog 181 = Option.some (Go.AM.AV.v (Go.Value.int Go.IntKind.u64 0)) := by kernel_rfl
@[simp] theorem k182 : kdI Try.prog 182 = Option.some Go.AM.Kd.other := by kernel_rfl
@[simp] theorem t182 : tyI Try.prog 182 = Option.some (Bool.false, 1) := by kernel_rfl
@[simp] theorem a182 : apI Try.prog 182 = Option.none := by kernel_rfl
@[simp] theorem z182 : zA Try.prog 182 = Option.none := by kernel_rfl
@[simp] theorem k184 : kdI Try.prog 184 = Option.some Go.AM.Kd.other := by kernel_rfl
@[simp] theorem t184 : tyI Try.prog 184 = Option.some (Bool.false, 1) := by kernel_rfl
@[simp] theorem a184 : apI Try.prog 184 = Option.some (1, 8) := by kernel_rfl
@[simp] theorem z184 : zA Try.prog 184 = Option.some (Go.AM.AV.v (Go.Value.pointer Option.none)) := by kernel_rfl
@[simp] theorem k187 : kdI Try.prog 187 = Option.some Go.AM.Kd.fn := by kernel_rfl
@[simp] theorem t187 : tyI Try.prog 187 = Option.some (Bool.false, 1) := by kernel_rfl
@[simp] theorem z187 : zA Try.prog 187 = Option.some (Go.AM.AV.v Go.Value.nilFunc) := by kernel_rfl
@[simp] theorem c3_5 : cvI Try.prog 3 5 = Option.some (Go.AM.Cv.toInt Go.IntKind.u8) := by kernel_rfl
@[simp] theorem c3_130 : cvI Try.prog 3 130 = Option.some (Go.AM.Cv.toInt Go.IntKind.u64) := by kernel_rfl
@[simp] theorem c5_3 : cvI Try.prog 5 3 = Option.some (Go.AM.Cv.toInt Go.IntKind.i64) := by kernel_rfl
@[simp] theorem c27_9 : cvI Try.prog 27 9 = Option.some Go.AM.Cv.b2s := by kernel_rfl
@[simp] theorem c56_3 : cvI Try.prog 56 3 = Option.some (Go.AM.Cv.toInt Go.IntKind.i64) := by kernel_rfl
@[simp] theorem c130_3 : cvI Try.prog 130 3 = Option.some (Go.AM.Cv.toInt Go.IntKind.i64) := by kernel_rfl
@[simp] theorem c130_178 : cvI Try.prog 130 178 = Option.some (Go.AM.Cv.toInt Go.IntKind.u32) := by kernel_rfl
@[simp] theorem c155_184 : cvI Try.prog 155 184 = Option.none := by kernel_rfl
@[simp] theorem c178_130 : cvI Try.prog 178 130 = Option.some (Go.AM.Cv.toInt Go.IntKind.u64) := by kernel_rfl
@[simp] theorem c178_181 : cvI Try.prog 178 181 = Option.some (Go.AM.Cv.toInt Go.IntKind.u64) := by kernel_rfl
@[simp] theorem c181_178 : cvI Try.prog 181 178 = Option.some (Go.AM.Cv.toInt Go.IntKind.u32) := by kernel_rfl
@[simp] theorem c184_155 : cvI Try.prog 184 155 = Option.none := by kernel_rfl
end Go.AM
namespace Go.AM
open Go.RowKit Go.Proofs
set_option linter.unusedSimpArgs false
set_option linter.unusedVariables false
set_option maxHeartbeats 1000000
set_option maxRecDepth 100000 in
theorem calls113 (s : ByteArray) (c : Int) (w : World) : Calls Try.prog 113 #[.string s, .int .u8 c] w fun e w' => e = .returned (.int .i64 (Lib.indexByte s.data.toList c.toNat.toUInt8)) ∧ w' = w := by
 go_enter Try.func113, Try.ntmps113
 go_wp2
 rw [run_callFunc_extern Try.func118 (by kernel_rfl) (by kernel_rfl) (by kernel_rfl) (e := Extern.BytealgIndexByte.indexByte) (by kernel_rfl), Lib.run_indexByteString]
 simp only [Result.andThen]
 rw [Oper.upon_value]
 go_wp2
 go_ret
 exact ⟨rfl, rfl⟩
theorem ib113_sound (s : ByteArray) (c : Int) : Sound Try.prog 113 [.v (.string s), .v (.int .u8 c)] (.v (.int .i64 (Lib.indexByte s.data.toList c.toNat.toUInt8))) := by
 refine sound_of_calls (us := [.string s, .int .u8 c]) ⟨_, Try.func113, by decide +kernel, by kernel_rfl⟩ fun w => (calls113 s c w).mono ?_
 rintro e w' ⟨rfl, rfl⟩
 exact ⟨rfl, 0, rfl⟩
theorem ib103_sound (s : ByteArray) (c : Int) : Sound Try.prog 103 [.v (.string s), .v (.int .u8 c)] (.v (.int .i64 (Lib.indexByte s.data.toList c.toNat.toUInt8))) := by
 refine zl9 Try.func103 rfl (by decide +kernel) (by simp [Try.f103]) rfl rfl (rs := [.tmp 4]) rfl ?_
 rw [show Try.f103.ntmps = 8 from rfl]
 refine yt9 [0, 1] (by simp; rfl) ?_
 refine W_rK [4] ?_
 refine yq9 2 (by simp; rfl) rfl ?_
 refine yj9 (by simp) (by first | (simp; done) | (simp; rfl)) (ib113_sound s c) (by simp; rfl) ?_
 refine yr9 (by simp; rfl) ?_
 refine zr9 ?_
 repeat (first | refine yl9 ?_ | refine yc9 ?_)
 simp [retQ]
def zc7 : List UInt8 := ([64, 90, 127, 123, 91, 108, 80, 125, 77, 93, 92, 78, 107, 96, 75, 97, 240, 241, 242, 243, 244, 245, 246, 247, 248, 249, 122, 94, 76, 126, 110, 111, 124, 193, 194, 195, 196, 197, 198, 199, 200, 201, 209, 210, 211, 212, 213] : List UInt8).append
 [214, 215, 216, 217, 226, 227, 228, 229, 230, 231, 232, 233, 186, 224, 187, 176, 109, 121, 129, 130, 131, 132, 133, 134, 135, 136, 137, 145, 146, 147, 148, 149, 150, 151, 152, 153, 162, 163, 164, 165, 166, 167, 168, 169, 192, 79, 208, 161]
def chI (b : UInt8) : Int := Lib.indexByte zc7 b
def chM (b : UInt8) : UInt8 × Bool := if chI b < 0 then (0, false) else (UInt8.ofNat (32 + (chI b).toNat), true)
theorem chI_bounds (b : UInt8) : -1 ≤ chI b ∧ chI b < 95 := by
 have : ∀ n : Nat, n < 256 → -1 ≤ chI (UInt8.ofNat n) ∧ chI (UInt8.ofNat n) < 95 := by decide +kernel
 have h := this b.toNat b.toNat_lt
 rwa [UInt8.ofNat_toNat] at h
theorem char_sound (b : UInt8) : Sound Try.prog 90 [.v (.int .u8 b.toNat)] (.tup [.v (.int .u8 (chM b).1.toNat), .v (.bool (chM b).2)]) := by
 refine zl9 Try.func90 rfl (by decide +kernel) (by simp [Try.f90]) rfl rfl (rs := [.tmp 2, .tmp 3]) rfl ?_
 rw [show Try.f90.ntmps = 12 from rfl]
 have hib := ib103_sound ⟨zc7.toArray⟩ b.toNat
 have hb : ((b.toNat : Int).toNat.toUInt8) = b := by rw [Int.toNat_natCast]; exact UInt8.ofNat_toNat
 rw [hb, show (ByteArray.mk zc7.toArray).data.toList = zc7 from rfl, show Lib.indexByte zc7 b = chI b from rfl] at hib
 obtain ⟨c1, c2⟩ := chI_bounds b
 refine yt9 [0] (by simp; rfl) ?_
 refine W_rK [4] ?_
 refine yq9 1 (by simp; rfl) rfl ?_
 refine yj9 (f := 103) (args := [.v (.string ⟨zc7.toArray⟩), .v (.int .u8 b.toNat)]) (by simp) (by simp; exact ⟨rfl, rfl⟩) hib (by simp; rfl) ?_
 refine yr9 (by simp; rfl) ?_
 refine yk9 ?_
 by_cases h : chI b < 0
 ·have hM : chM b = (0, false) := by rw [chM, if_pos h]
  refine W_cT [4, 8] (by simp [h]; rfl) rfl ?_
  refine yt9 [2, 3] (by simp; rfl) ?_
  refine zr9 ?_
  repeat (first | refine yl9 ?_ | refine yc9 ?_)
  simp [retQ, hM]
 ·have hM : chM b = (UInt8.ofNat (32 + (chI b).toNat), true) := by rw [chM, if_neg h]
  have w1 : IntKind.i64.wrap (32 + chI b) = 32 + chI b := w64 (by omega) (by omega)
  have w2 : IntKind.u8.wrap (32 + chI b) = ((UInt8.ofNat (32 + (chI b).toNat)).toNat : Nat) := by
   rw [UInt8.toNat_ofNat']
   simp only [IntKind.wrap_u8]
   omega
  refine W_cF [4, 8] (by simp [h]; rfl) rfl ?_
  refine yh9 ?_
  refine yt9 [2, 3] (by simp [w1, w2]; rfl) ?_
  refine zr9 ?_
  repeat (first | refine yl9 ?_ | refine yc9 ?_)
  simp [retQ, hM]
end Go.AM
namespace Go.AM
open Go.RowKit Go.Proofs
set_option linter.unusedSimpArgs false
set_option linter.unusedVariables false
set_option maxHeartbeats 1000000
theorem u155 : Try.prog.underlying 155 = some (.pointer 157) := by kernel_rfl
theorem u184 : Try.prog.underlying 184 = some .unsafePointer := by kernel_rfl
theorem info157 : ∃ j, Try.prog.info? 157 = some j ∧ j.size = 2 := Option.map_eq_some_iff.1 (show (Try.prog.info? 157).map (·.size) = some 2 by kernel_rfl)
set_option maxRecDepth 100000 in
theorem cc_used (b : Nat) (w : World) (h0 : w.cell? ⟨b, 0, none⟩ = some (.pointer (some ⟨b, 0, none⟩))) :
  Calls Try.prog 104 #[.pointer (some ⟨b, 0, none⟩)] w fun e w' => e = .returned (.tuple #[]) ∧ w' = w := by
 obtain ⟨j, hj, _⟩ := info157
 go_enter Try.func104, Try.ntmps104
 go_wp2
 rw [Lib.run_neq_ptr_same w _ u155 hj]
 go_wp2
 go_end0
 exact ⟨rfl, rfl⟩
set_option maxRecDepth 100000 in
theorem cc_fresh (b : Nat) (w : World) (h0 : w.cell? ⟨b, 0, none⟩ = some (.pointer none)) (hsh : w.shape? b = some (157, 2)) (hfz : w.frozen? ⟨b, 0, none⟩ = false) :
  Calls Try.prog 104 #[.pointer (some ⟨b, 0, none⟩)] w fun e w' => e = .returned (.tuple #[]) ∧ w' = w.setCell ⟨b, 0, none⟩ (.pointer (some ⟨b, 0, none⟩)) := by
 obtain ⟨j, hj, hjs⟩ := info157
 go_enter Try.func104, Try.ntmps104
 go_wp2
 rw [Lib.run_to_unsafe w ⟨b, 0, none⟩ u155 u184 hj (by rw [hjs]; decide) hsh (Nat.zero_lt_succ 1)]
 simp only [Result.andThen]
 rw [Oper.upon_value]
 go_wp2
 rw [run_callFunc_extern Try.func114 (by kernel_rfl) (by kernel_rfl) (by kernel_rfl) (e := Extern.AbiNoEscape.same) (by kernel_rfl)]
 rw [Lib.run_noEscape]
 simp only [Result.andThen]
 rw [Oper.upon_value]
 go_wp2
 rw [Lib.run_from_unsafe w ⟨b, 0, none⟩ u184 u155 hj hsh (by kernel_rfl)]
 simp only [Result.andThen]
 rw [Oper.upon_value]
 go_wp2
 go_end0
 exact ⟨rfl, rfl⟩
theorem st155 (b : Nat) (w : World) (h0 : w.cell? ⟨b, 0, none⟩ = some (.pointer none)) (hfz : w.frozen? ⟨b, 0, none⟩ = false) :
  (Instr.storeAt 155 (.pointer (some ⟨b, 0, none⟩)) (.pointer (some ⟨b, 0, none⟩))).run Try.prog w = .ok () (w.setCell ⟨b, 0, none⟩ (.pointer (some ⟨b, 0, none⟩))) := by
 simp [Instr.storeAt, storeVar, go_sem, h0, hfz]
theorem cc_callW_fresh {h : List AObj} {id : Nat} {x : AV} (hid : h[id]? = some (.cells 157 [.v (.pointer none), x])) : wn9 Try.prog 104 [.loc id 0] h fun r h' => r = .tup [] ∧ h' = h.set id (.cells 157 [.loc id 0, x]) := by
 refine ⟨⟨_, Try.func104, by decide +kernel, by kernel_rfl⟩, fun F n c w vals hF hro hb hdf hh ra => ?_⟩
 cases ra with
 | cons hr ho hl =>
 cases hl
 cases hr with
 | loc hno =>
 obtain ⟨hbase, hpm, how, cur, hcur, hlen, hcc⟩ := hh.obj id _ hid
 have hc0 : cur.getD 0 undef = .pointer none := (hcc 0 _ rfl).1.v_inv
 have hsz : cur.size = 2 := by rw [← hlen]; rfl
 have hcell : w.cell? ⟨c.ob id, 0, none⟩ = some (.pointer none) := by
  rw [Array.getD_eq_getD_getElem?, Array.getElem?_eq_getElem (by omega)] at hc0
  simp only [World.cell?, hcur, Option.isSome_none, Bool.false_eq_true, if_false]
  rw [Array.getElem?_eq_getElem (by omega)]
  exact congrArg some hc0
 have hsh : w.shape? (c.ob id) = some (157, 2) := by simp [World.shape?, hcur, hsz]
 have hfz : w.frozen? ⟨c.ob id, 0, none⟩ = false := by simp [World.frozen?, hcur]
 have hs0 : SimSt Try.prog c w ⟨0, [], h⟩ { tmps := #[], defers := [] } := ⟨rfl, hb, fun i x hx => (by cases hx), hh, ⟨[], rfl, .nil, by simp⟩⟩
 obtain ⟨w1, hrun, hext, hsim⟩ := evStore_sound (t := 155) (addr := .loc id 0) (x := .loc id 0) (s' := ⟨0, [], h.set id (.cells 157 [.loc id 0, x])⟩) hs0 (by simp [evStore, hid, AV.cellsK, AV.kone, AV.koneL, ys9]) (Rep.loc hno) (Rep.loc hno) (.none rfl)
 rw [st155 _ _ hcell hfz] at hrun
 cases hrun
 refine (wj9 hF (cc_fresh (c.ob id) w hcell hsh hfz)).mono ?_
 rintro e w' ⟨rfl, rfl⟩
 exact ⟨_, c, .tup [], _, rfl, ⟨rfl, rfl⟩, hext, hsim.h, .tup rfl (by simp), .none rfl⟩
theorem cc_callW_used {h : List AObj} {id : Nat} {x : AV} (hid : h[id]? = some (.cells 157 [.loc id 0, x])) : wn9 Try.prog 104 [.loc id 0] h fun r h' => r = .tup [] ∧ h' = h := by
 refine ⟨⟨_, Try.func104, by decide +kernel, by kernel_rfl⟩, fun F n c w vals hF hro hb hdf hh ra => ?_⟩
 cases ra with
 | cons hr ho hl =>
 cases hl
 cases hr with
 | loc hno =>
 obtain ⟨hbase, hpm, how, cur, hcur, hlen, hcc⟩ := hh.obj id _ hid
 have hsz : cur.size = 2 := by rw [← hlen]; rfl
 have hc0 : cur.getD 0 undef = .pointer (some ⟨c.ob id, 0, none⟩) := by
  have := (hcc 0 _ rfl).1
  generalize cur.getD 0 undef = u0 at this
  cases this
  rfl
 have hcell : w.cell? ⟨c.ob id, 0, none⟩ = some (.pointer (some ⟨c.ob id, 0, none⟩)) := by
  rw [Array.getD_eq_getD_getElem?, Array.getElem?_eq_getElem (by omega)] at hc0
  simp only [World.cell?, hcur, Option.isSome_none, Bool.false_eq_true, if_false]
  rw [Array.getElem?_eq_getElem (by omega)]
  exact congrArg some hc0
 refine (wj9 hF (cc_used (c.ob id) w hcell)).mono ?_
 rintro e w' ⟨rfl, rfl⟩
 exact ⟨_, c, .tup [], _, rfl, ⟨rfl, rfl⟩, Ext.refl c _, hh, .tup rfl (by simp), .none rfl⟩
end Go.AM
namespace Go.AM
open Go.RowKit Go.Proofs
set_option linter.unusedSimpArgs false
set_option linter.unusedVariables false
set_option maxHeartbeats 2000000
def bldX (x : AV) (l : List UInt8) : Prop := (l = [] ∧ x = .lst .nil 1 []) ∨ (l ≠ [] ∧ x = .lst (.tip 5 29) 1 (byL l))
theorem wb_callW (p x : AV) (l : List UInt8) (c : UInt8) (hp : p = .v (.pointer none) ∨ p = .loc 0 0) (hx : bldX x l) (hl : l.length ≤ 1000000) :
  wn9 Try.prog 91 [.loc 0 0, .v (.int .u8 c.toNat)] [.cells 157 [p, x]] fun r h' => r = .v .nilIface ∧ ∃ x', bldX x' (l ++ [c]) ∧ h' = [.cells 157 [.loc 0 0, x']] := by
 refine zk9 Try.func91 rfl (by decide +kernel) (by simp [Try.f91]) (rs := [.tmp 4]) rfl ?_
 rw [show Try.f91.ntmps = 17 from rfl]
 have hcc : wn9 Try.prog 104 [.loc 0 0] [.cells 157 [p, x]] fun r h' => r = .tup [] ∧ h' = [.cells 157 [.loc 0 0, x]] := by
  rcases hp with rfl | rfl
  ·exact cc_callW_fresh (id := 0) (x := x) rfl
  ·exact cc_callW_used (id := 0) (x := x) rfl
 refine yt9 [0, 1] (by simp; rfl) ?_
 refine W_rK [0, 1] ?_
 refine yq9 1 (by simp; rfl) rfl ?_
 refine zg9 (f := 104) (args := [.loc 0 0]) (by simp) (by simp) (hcc.mono ?_)
 rintro r h' ⟨rfl, rfl⟩
 refine ⟨_, by simp; rfl, ?_⟩
 refine yr9 (by simp; rfl) ?_
 have fin : ∀ x', bldX x' (l ++ [c]) → retW Try.prog [.tmp 4] 1 (fun r h' => r = .v .nilIface ∧ ∃ x', bldX x' (l ++ [c]) ∧ h' = [.cells 157 [.loc 0 0, x']]) .ret ⟨17, [(4, .v .nilIface)], [.cells 157 [.loc 0 0, x']]⟩ := by
  intro x' h1
  refine ⟨.inr rfl, .v .nilIface, .v .nilIface, _, 1, rfl, .inl ⟨rfl, rfl⟩, by simp, by simp, rfl, ?_, rfl, x', h1, rfl⟩
  rcases h1 with ⟨h2, rfl⟩ | ⟨h2, rfl⟩ <;> simp [yg9, AObj.under, AV.underL, AV.under]
 rcases hx with ⟨rfl, rfl⟩ | ⟨hne, rfl⟩
 ·refine yt9 [] (by simp [ys9, catK, AV.cellsK, AV.kone, AV.koneL]; rfl) ?_
  refine yt9 [4] (by simp; rfl) ?_
  refine zr9 ?_
  repeat (first | refine yl9 ?_ | refine yc9 ?_)
  have := fin (.lst (.tip 5 29) 1 (byL ([] ++ [c]))) (.inr ⟨by simp, rfl⟩)
  simpa [byL] using this
 ·refine yt9 [] (by simp [ys9, catK, AV.cellsK, AV.kone, AV.koneL, show l.length + 1 ≤ 140737488355328 by omega]; rfl) ?_
  refine yt9 [4] (by simp; rfl) ?_
  refine zr9 ?_
  repeat (first | refine yl9 ?_ | refine yc9 ?_)
  have := fin (.lst (.tip 5 29) 1 (byL (l ++ [c]))) (.inr ⟨by simp, rfl⟩)
  simpa [byL] using this
theorem u177 : Try.prog.underlying 177 = some (.pointer 5) := by kernel_rfl
set_option maxRecDepth 100000 in
theorem str_ne (b g cap : Nat) (p : Value) (cur : Array Value) (l : List UInt8) (w : World) (h0 : l ≠ []) (hbk : w.heap[b]? = some (.cells #[p, .slice (some ⟨g, 0, none⟩) l.length cap] 157 (0, 0))) (hg : w.heap[g]? = some (.cells cur 5 (0, 0)))
  (hc : l.length ≤ cap) (hcm : cap ≤ maxLen) (hcs : cur.size = cap) (hcell : ∀ (j : Nat) (x : UInt8), l[j]? = some x → w.cell? ⟨g, j, none⟩ = some (.int .u8 x.toNat)) :
  Calls Try.prog 92 #[.pointer (some ⟨b, 0, none⟩)] w fun e w' => e = .returned (.string ⟨l.toArray⟩) ∧ w' = w.drew.freeze ⟨g, 0, none⟩ l.length := by
 have hl0 : l.length ≠ 0 := by simpa using h0
 have c1 : w.drew.cell? ⟨b, 1, none⟩ = some (.slice (some ⟨g, 0, none⟩) l.length cap) := by
  have : w.drew.heap[b]? = some (.cells #[p, .slice (some ⟨g, 0, none⟩) l.length cap] 157 (0, 0)) := hbk
  rw [Lib.cell_of_heap this]; rfl
 have hSD : (Builtin.unsafeSliceData_ #[27] 177 #[.slice (some ⟨g, 0, none⟩) l.length cap]).run Try.prog w.drew = .ok (.pointer (some ⟨g, 0, none⟩)) w.drew :=
  Lib.run_unsafeSliceData_row _ _ _ _ _ _ (by omega)
 have hUS : (Builtin.unsafeString_ #[177, 3] 9 #[.pointer (some ⟨g, 0, none⟩), .int .i64 l.length]).run Try.prog w.drew = .ok (.string ⟨l.toArray⟩) (w.drew.freeze ⟨g, 0, none⟩ l.length) := by
  refine Lib.run_unsafeString_row w.drew 177 3 9 5 u177 (by kernel_rfl) g cur.size (by have hg' : w.drew.heap[g]? = some (.cells cur 5 (0, 0)) := hg; simp [World.shape?, hg']) l h0 (by omega) (by unfold maxLen at hcm; omega) ?_
  intro j x hx
  have hz : (⟨g, 0, none⟩ : Addr).add j = ⟨g, j, none⟩ := by
   simp only [Addr.add, Nat.zero_add]
   split
   ·rename_i h; rw [h]
   ·rfl
  rw [hz]
  exact hcell j x hx
 have mixed := mx
 go_enter Try.func92, Try.ntmps92
 go_wp2
 go_region_o
 all_goals (go_wp2; go_ret; exact ⟨rfl, rfl⟩)
set_option maxRecDepth 100000 in
theorem str_nil (b : Nat) (p : Value) (w : World) (hbk : w.heap[b]? = some (.cells #[p, .slice none 0 0] 157 (0, 0))) :
  Calls Try.prog 92 #[.pointer (some ⟨b, 0, none⟩)] w fun e w' => e = .returned (.string ⟨#[]⟩) ∧ w' = w.drew := by
 have hUS := Lib.run_unsafeString_none (P := Try.prog) w.drew 177 3 9 none
 have c1 : w.drew.cell? ⟨b, 1, none⟩ = some (.slice none 0 0) := by
  have : w.drew.heap[b]? = some (.cells #[p, .slice none 0 0] 157 (0, 0)) := hbk
  rw [Lib.cell_of_heap this]; rfl
 have hSD : (Builtin.unsafeSliceData_ #[27] 177 #[.slice none 0 0]).run Try.prog w.drew = .ok (.pointer none) w.drew := rfl
 have mixed := mx
 go_enter Try.func92, Try.ntmps92
 go_wp2
 go_region_o
 all_goals (go_wp2; go_ret; exact ⟨rfl, rfl⟩)
theorem str_callW (p x : AV) (l : List UInt8) (hx : bldX x l) : wn9 Try.prog 92 [.loc 0 0] [.cells 157 [p, x]] fun r h' => r = .v (.string ⟨l.toArray⟩) ∧ h' = [.dead] := by
 refine ⟨⟨_, Try.func92, by decide +kernel, by kernel_rfl⟩, fun F n c w vals hF hro hb hdf hh ra => ?_⟩
 cases ra with
 | cons hr ho hl =>
 cases hl
 cases hr with
 | loc hno =>
 obtain ⟨hbase, hpm, how, cur, hcur, hlen, hcc⟩ := hh.obj 0 _ rfl
 have hsz : cur.size = 2 := by rw [← hlen]; rfl
 obtain ⟨hrv, hov, _⟩ := hcc 1 x rfl
 obtain ⟨v, hv⟩ : ∃ v, cur.getD 1 undef = v := ⟨_, rfl⟩
 obtain ⟨p0, hp0⟩ : ∃ v, cur.getD 0 undef = v := ⟨_, rfl⟩
 rw [hv] at hrv hov
 have hcur2 : cur = #[p0, v] := by
  apply Array.ext
  ·simp [hsz]
  ·intro i h1 h2
   have hi : i = 0 ∨ i = 1 := by omega
   rcases hi with rfl | rfl
   ·simp [Array.getD, hsz] at hp0; simpa using hp0
   ·simp [Array.getD, hsz] at hv; simpa using hv
 rw [hcur2] at hcur
 have hdead : ∀ w' : World, w.heap.size ≤ w'.heap.size → HSim Try.prog c w' [.dead] := fun w' hs' => ⟨by rw [hh.no]; rfl, fun i hi => Nat.lt_of_lt_of_le (hh.lt i hi) hs', hh.inj, fun i o hi => by
  cases i with
  | zero => simp at hi; subst hi; trivial
  | succ i => simp at hi⟩
 rcases hx with ⟨rfl, rfl⟩ | ⟨hne, rfl⟩
 ·obtain ⟨a, m, cap, u, rfl, hn, hcap, hmax, _, _, _, hz, hfit, _, _⟩ := wf9 hrv
  have ha : a = none := by
   simp [Fl.fits] at hfit
   first | exact hfit | exact hfit.1
  obtain ⟨rfl, rfl⟩ := hz ha
  subst ha
  refine (wj9 hF (str_nil (c.ob 0) p0 w hcur)).mono ?_
  rintro e w' ⟨rfl, rfl⟩
  exact ⟨_, c, .v (.string ⟨#[]⟩), _, rfl, ⟨rfl, rfl⟩, xm9 c w, hdead _ (Nat.le_refl _), .v _, .none rfl⟩
 ·obtain ⟨a, m, cap, u, rfl, hn, hcap, hmax, _, _, _, hz, hfit, hcell, hrep⟩ := wf9 hrv
  have hm : m = l.length := by rw [← hn]; simp
  have hl0 : l.length ≠ 0 := by simpa using hne
  have hca : Try.prog.cellsOf 5 = 1 := by kernel_rfl
  have htip : TipAt Try.prog c w 5 29 a m cap := by
   cases hov with
   | none h => simp [AV.tl] at h
   | tip hT hs h => exact h
  rcases htip with ⟨_, h0, _⟩ | ⟨g, cur2, rfl, hgb, hg, hgs, hgpm, _, _⟩
  ·omega
  rw [hca] at hgs hgpm
  subst hm
  have hce : ∀ (j : Nat) (x : UInt8), l[j]? = some x → w.cell? ⟨g, j, none⟩ = some (.int .u8 x.toNat) := by
   intro j x hj
   have hjl : j < l.length := (List.getElem?_eq_some_iff.1 hj).1
   have h1 := (hcell _ j rfl (by omega)).1
   have hz : (⟨g, 0, none⟩ : Addr).add j = ⟨g, j, none⟩ := by
    simp only [Addr.add, Nat.zero_add]
    split
    ·rename_i h; rw [h]
    ·rfl
   rw [hz] at h1
   have h2 := hrep j 0 (.v (.int .u8 x.toNat)) (.v (.int .u8 x.toNat)) (by simp [byL, hj]) rfl
   rw [h1]
   have := h2.v_inv
   rw [Nat.mul_one, Nat.add_zero] at this
   rw [this]
  refine (wj9 hF (str_ne (c.ob 0) g cap p0 cur2 l w hne hcur hg hcap hmax (by omega) hce)).mono ?_
  rintro e w' ⟨rfl, rfl⟩
  have hext : Ext c w.drew c (w.drew.freeze ⟨g, 0, none⟩ l.length) := by
   have hgl : g < w.drew.heap.size := by
    have h3 : w.drew.heap[g]? = some (.cells cur2 5 (0, 0)) := hg
    exact (Array.getElem?_eq_some_iff.1 h3).1
   unfold World.freeze
   rw [if_neg hl0]
   refine { base := rfl, os := rfl, tape := rfl, output := rfl, size := by simp, below := fun b hb2 => ?_, cell := fun ad v hp hv => ?_, pm := fun _ _ => Nat.le_refl _, pmb := fun _ _ => rfl, owb := fun _ _ => rfl, no := Nat.le_refl _, ob := fun _ _ => rfl, dfr := fun b hb2 => ?_ }
   ·have hne2 : g ≠ b := fun h => hb2 (h ▸ hgb)
    simp [Array.getElem?_modify, hne2]
   ·by_cases hgb2 : g = ad.block
    ·have h3 : w.drew.heap[ad.block]? = some (.cells cur2 5 (0, 0)) := hgb2 ▸ hg
     simp only [World.cell?, Array.getElem?_modify, hgb2, if_true, h3] at hv ⊢
     exact hv
    ·simp only [World.cell?, Array.getElem?_modify, hgb2, if_false] at hv ⊢
     exact hv
   ·by_cases hgb2 : g = b
    ·have h3 : w.drew.heap[b]? = some (.cells cur2 5 (0, 0)) := hgb2 ▸ hg
     rw [h3] at hb2
     cases hb2
    ·simp [Array.getElem?_modify, hgb2, hb2]
  exact ⟨_, c, .v (.string ⟨l.toArray⟩), _, rfl, ⟨rfl, rfl⟩, (xm9 c w).trans hext, hdead _ hext.size, .v _, .none rfl⟩
end Go.AM
namespace Go.AM
open Go.RowKit Go.Proofs
set_option linter.unusedSimpArgs false
set_option linter.unusedVariables false
set_option maxHeartbeats 2000000
def dec1 (b : UInt8) : UInt8 := if (chM b).2 then (chM b).1 else 46
def decM (l : List UInt8) : List UInt8 := l.map dec1
def strB (l : List UInt8) : AV := .v (.string ⟨l.toArray⟩)
theorem yd7 (l : List UInt8) (hl : l.length ≤ 100000) : Sound Try.prog 61 [.lst .any 1 (byL l)] (strB (decM l)) := by
 refine zl9 Try.func61 rfl (by decide +kernel) (by simp [Try.f61]) rfl rfl (rs := [.tmp 2]) rfl ?_
 rw [show Try.f61.ntmps = 25 from rfl]
 refine yt9 [0] (by simp; rfl) ?_
 refine yt9 [0, 3] (by simp; rfl) ?_
 refine yk9 ?_
 refine yt9 [3, 8, 9, 10] (by simp; rfl) ?_
 refine yf9 ?_
 refine zn9 (fun k s => ∃ (i : Nat) (p x : AV), k = l.length - i ∧ i ≤ l.length ∧ (p = .v (.pointer none) ∨ p = .loc 0 0) ∧ bldX x (decM (l.take i)) ∧
  s = ⟨25, [(3, .loc 0 0), (8, .lst .any 1 (byL l)), (9, .v (.int .i64 (l.length : Nat))), (10, .v (.int .i64 (i : Nat)))], [.cells 157 [p, x]]⟩) (k := l.length) ⟨0, _, _, rfl, by omega, .inl rfl, .inl ⟨rfl, rfl⟩, by simp⟩ ?_
 rintro k s ⟨i, p, x, rfl, hi, hp, hx, rfl⟩
 by_cases c : i < l.length
 ·have ci : (i : Int) < l.length := by omega
  obtain ⟨b, hb⟩ : ∃ b, l[i]? = some b := ⟨_, List.getElem?_eq_getElem c⟩
  have hb2 : l[i]'c = b := by rw [List.getElem?_eq_getElem c] at hb; exact Option.some.inj hb
  have wi := w64 (n := (i : Int) + 1) (by omega) (by omega)
  have htk : decM (l.take (i + 1)) = decM (l.take i) ++ [dec1 b] := by
   rw [List.take_add_one, hb]; simp [decM]
  have hlen : (decM (l.take i)).length ≤ 1000000 := by simp [decM]; omega
  refine yt9 [3, 8, 9, 10, 11] (by simp [c]; rfl) ?_
  refine yk9 ?_
  refine yd9 rfl (fun h => ?_) (fun h => by simp at h)
  refine yh9 ?_
  refine yk9 ?_
  refine yf9 ?_
  refine yt9 [3, 8, 9, 10, 5] (by simp [c, ci, hb2]; rfl) ?_
  refine W_rK [3, 8, 9, 10, 6, 7] ?_
  refine yq9 1 (by simp; rfl) rfl ?_
  refine yj9 (by simp) (by first | (simp; done) | (simp; rfl)) (char_sound b) (by simp; rfl) ?_
  refine yr9 (by simp; rfl) ?_
  refine yk9 ?_
  have fin : ∀ (h' : List AObj), (∃ x', bldX x' (decM (l.take i) ++ [dec1 b]) ∧ h' = [.cells 157 [.loc 0 0, x']]) →
    ∃ k', k' < l.length - i ∧ ∃ (i' : Nat) (p x : AV), k' = l.length - i' ∧ i' ≤ l.length ∧ (p = .v (.pointer none) ∨ p = .loc 0 0) ∧ bldX x (decM (l.take i')) ∧
     (⟨25, [(3, .loc 0 0), (8, .lst .any 1 (byL l)), (9, .v (.int .i64 (l.length : Nat))), (10, .v (.int .i64 ((i : Int) + 1)))], h'⟩ : St) = ⟨25, [(3, .loc 0 0), (8, .lst .any 1 (byL l)), (9, .v (.int .i64 (l.length : Nat))), (10, .v (.int .i64 (i' : Nat)))], [.cells 157 [p, x]]⟩ := by
   rintro h' ⟨x', hx', rfl⟩
   exact ⟨_, by omega, i + 1, _, x', rfl, by omega, .inr rfl, by rw [htk]; exact hx', by simp⟩
  cases hok : (chM b).2 with
  | false =>
   have hd : dec1 b = 46 := by simp [dec1, hok]
   rw [hd] at fin
   refine W_cT [3, 8, 9, 10, 6, 20] (by simp [hok]; rfl) rfl ?_
   refine zs9 [3, 8, 9, 10, 6] (by simp; rfl) ?_
   refine W_rE [3, 8, 9, 10] ?_
   refine yq9 1 (by simp; rfl) rfl ?_
   refine zg9 (f := 91) (args := [.loc 0 0, .v (.int .u8 (46 : UInt8).toNat)]) (by simp) (by first | (simp; done) | (simp; rfl)) ((wb_callW p x _ 46 hp hx hlen).mono ?_)
   rintro r h' ⟨rfl, hx'⟩
   refine ⟨_, by simp; rfl, ?_⟩
   refine yr9 (by simp; rfl) ?_
   refine zs9 [3, 8, 9, 10] (by simp [wi]; rfl) ?_
   exact fin _ hx'
  | true =>
   have hd : dec1 b = (chM b).1 := by simp [dec1, hok]
   rw [hd] at fin
   refine W_cF [3, 8, 9, 10, 6, 20] (by simp [hok]; rfl) rfl ?_
   refine yh9 ?_
   refine W_rE [3, 8, 9, 10] ?_
   refine yq9 1 (by simp; rfl) rfl ?_
   refine zg9 (f := 91) (args := [.loc 0 0, .v (.int .u8 (chM b).1.toNat)]) (by simp) (by first | (simp; done) | (simp; rfl)) ((wb_callW p x _ (chM b).1 hp hx hlen).mono ?_)
   rintro r h' ⟨rfl, hx'⟩
   refine ⟨_, by simp; rfl, ?_⟩
   refine yr9 (by simp; rfl) ?_
   refine zs9 [3, 8, 9, 10] (by simp [wi]; rfl) ?_
   exact fin _ hx'
 have hie : i = l.length := by omega
 subst hie
 rw [List.take_length] at hx
 refine yt9 [3, 8, 9, 10, 11] (by simp; rfl) ?_
 refine yk9 ?_
 refine yd9 rfl (fun h => by simp at h) (fun h => ?_)
 refine zh9 ?_
 refine W_rK [2] ?_
 refine zg9 (f := 92) (args := [.loc 0 0]) (by simp) (by first | (simp; done) | (simp; rfl)) ((str_callW p x _ hx).mono ?_)
 rintro r h' ⟨rfl, rfl⟩
 refine ⟨_, by simp; rfl, ?_⟩
 refine yr9 (by simp; rfl) ?_
 refine zr9 ?_
 repeat (first | refine yl9 ?_ | refine yc9 ?_)
 simp [retQ, strB]
def trimM (l : List UInt8) : List UInt8 := (l.reverse.dropWhile (· == 64)).reverse
theorem trim_drop (l : List UInt8) (n : Nat) (hn : n ≤ l.length) (h : ∀ (j : Nat) (b : UInt8), n ≤ j → l[j]? = some b → b = 64) (hs : n = 0 ∨ ∃ b, l[n - 1]? = some b ∧ b ≠ 64) : trimM l = l.take n := by
 have hsp : l = l.take n ++ List.replicate (l.length - n) 64 := by
  apply List.ext_getElem?
  intro j
  by_cases hj : j < n
  ·rw [List.getElem?_append_left (by simp; omega), List.getElem?_take, if_pos hj]
  ·rw [List.getElem?_append_right (by simp; omega), List.getElem?_replicate]
   have hlt : (l.take n).length = n := by simp; omega
   rw [hlt]
   by_cases hj2 : j < l.length
   ·rw [if_pos (by omega), List.getElem?_eq_getElem hj2]
    exact congrArg some (h j _ (by omega) (List.getElem?_eq_getElem hj2))
   ·rw [if_neg (by omega), List.getElem?_eq_none (by omega)]
 have hrev : l.reverse = List.replicate (l.length - n) 64 ++ (l.take n).reverse := by
  conv => lhs; rw [hsp]
  rw [List.reverse_append, List.reverse_replicate]
 have hdw : ∀ (k : Nat) (r : List UInt8), (List.replicate k (64 : UInt8) ++ r).dropWhile (· == 64) = r.dropWhile (· == 64) := by
  intro k r
  induction k with
  | zero => simp
  | succ k ih => rw [List.replicate_succ, List.cons_append, List.dropWhile_cons]; simp
 unfold trimM
 rw [hrev, hdw]
 rcases hs with rfl | ⟨b, hb, hne⟩
 ·simp
 ·have hn0 : 0 < n := by
   rcases Nat.eq_zero_or_pos n with h0 | h0
   ·subst h0
    simp at hb
    have := h 0 b (Nat.le_refl _) (by simpa using hb)
    exact absurd this hne
   ·exact h0
  have hbl : l[n - 1]'(by omega) = b := by
   have := List.getElem?_eq_getElem (l := l) (i := n - 1) (by omega)
   rw [this] at hb
   exact Option.some.inj hb
  have : (l.take n).reverse = b :: (l.take (n - 1)).reverse := by
   have h2 : l.take n = l.take (n - 1) ++ [b] := by
    have h3 : n - 1 + 1 = n := by omega
    rw [← h3, List.take_add_one]
    rw [Nat.add_sub_cancel, hb]
    rfl
   rw [h2, List.reverse_append]
   rfl
  rw [this, List.dropWhile_cons]
  simp only [beq_iff_eq, hne, if_false]
  rw [← this, List.reverse_reverse]
theorem trim_sound (l : List UInt8) (hl : l.length ≤ 100000) : Sound Try.prog 65 [.lst .any 1 (byL l)] (strB (decM (trimM l))) := by
 refine zl9 Try.func65 rfl (by decide +kernel) (by simp [Try.f65]) rfl rfl (rs := [.tmp 2]) rfl ?_
 rw [show Try.f65.ntmps = 22 from rfl]
 refine yt9 [0] (by simp; rfl) ?_
 refine yt9 [0, 3] (by simp; rfl) ?_
 refine yk9 ?_
 refine yf9 ?_
 refine zn9 (fun k s => k ≤ l.length ∧ (∀ (j : Nat) (b : UInt8), k ≤ j → l[j]? = some b → b = 64) ∧ s = ⟨22, [(0, .lst .any 1 (byL l)), (3, .v (.int .i64 (k : Nat)))], []⟩) (k := l.length) ⟨Nat.le_refl _, fun j b hj hb => by have := (List.getElem?_eq_some_iff.1 hb).1; omega, by simp⟩ ?_
 rintro k s ⟨hk, hall, rfl⟩
 refine yk9 ?_
 have done : trimM l = l.take k → ∀ σ, σ = (⟨22, [(0, .lst .any 1 (byL l)), (3, .v (.int .i64 (k : Nat)))], []⟩ : St) → True := fun _ _ _ => trivial
 by_cases k0 : k = 0
 ·subst k0
  have hT : trimM l = [] := by rw [trim_drop l 0 (by omega) hall (.inl rfl)]; rfl
  refine W_cF [0, 3, 15] (by simp; rfl) rfl ?_
  refine zh9 ?_
  refine W_rK [2] ?_
  refine yq9 3 (by simp [← xw9]; rfl) rfl ?_
  refine yj9 (by simp) (by first | (simp; done) | (simp; rfl)) (show Sound Try.prog 61 [.lst .any 1 []] (strB (decM [])) from yd7 [] (by simp)) (by simp [strB]; rfl) ?_
  refine yr9 (by simp; rfl) ?_
  refine zr9 ?_
  repeat (first | refine yl9 ?_ | refine yc9 ?_)
  simp [retQ, strB, hT]
 have kp : 0 < k := by omega
 have kp' : (0 : Int) < k := by omega
 have wk : IntKind.i64.wrap ((k : Int) - 1) = ((k - 1 : Nat) : Int) := by rw [w64 (by omega) (by omega)]; omega
 obtain ⟨b, hb⟩ : ∃ b, l[k - 1]? = some b := ⟨_, List.getElem?_eq_getElem (by omega)⟩
 have hbb : (byL l)[k - 1]? = some (.v (.int .u8 b.toNat)) := by simp [byL, hb]
 have hb2 : l[k - 1]'(by omega) = b := by rw [List.getElem?_eq_getElem (by omega)] at hb; exact Option.some.inj hb
 have hkl : k - 1 < l.length := by omega
 by_cases h64 : b = 64
 ·subst h64
  refine W_cT [0, 3, 15] (by simp [kp, kp', wk, hb2, hkl]; rfl) rfl ?_
  refine yh9 ?_
  refine yf9 ?_
  refine zs9 [0, 3] (by simp [wk]; rfl) ?_
  refine ⟨k - 1, by omega, by omega, fun j b2 hj hb3 => ?_, rfl⟩
  by_cases hjk : j = k - 1
  ·subst hjk
   rw [hb] at hb3
   exact (Option.some.inj hb3).symm
  ·exact hall j b2 (by omega) hb3
 ·have hT : trimM l = l.take k := trim_drop l k hk hall (.inr ⟨b, hb, h64⟩)
  have h64' : ((b.toNat : Int) == 64) = false := by
   rw [beq_eq_false_iff_ne]
   intro h
   apply h64
   apply UInt8.toNat_inj.1
   show b.toNat = 64
   omega
  refine W_cF [0, 3, 15] (by simp [kp, kp', wk, hb2, hkl, h64']; rfl) rfl ?_
  refine zh9 ?_
  refine W_rK [2] ?_
  refine yq9 3 (by simp [← xw9, hk]; rfl) rfl ?_
  refine yj9 (by simp) (by first | (simp; done) | (simp; rfl)) (yd7 (l.take k) (by simp; omega)) (by simp [strB]; rfl) ?_
  refine yr9 (by simp; rfl) ?_
  refine zr9 ?_
  repeat (first | refine yl9 ?_ | refine yc9 ?_)
  simp [retQ, strB, hT]
end Go.AM
namespace Go.AM
open Go.RowKit Go.Proofs
set_option linter.unusedSimpArgs false
set_option linter.unusedVariables false
set_option maxHeartbeats 4000000
def okC (r : Int) : Bool := decide (65 ≤ r ∧ r ≤ 90) || decide (48 ≤ r ∧ r ≤ 57) || decide (r = 64) || decide (r = 35) || decide (r = 36)
theorem clos116_sound (r : Int) : Sound Try.prog 116 [.v (.int .i32 r)] (.v (.bool (!okC r))) := by
 refine zl9 Try.func116 rfl (by decide +kernel) (by simp [Try.f116]) rfl rfl (rs := [.tmp 2]) rfl ?_
 rw [show Try.f116.ntmps = 29 from rfl]
 have e5 : (r != 64) = !decide (r = 64) := by by_cases h : r = 64 <;> simp [h]
 have e6 : (r != 35) = !decide (r = 35) := by by_cases h : r = 35 <;> simp [h]
 have e7 : (r != 36) = !decide (r = 36) := by by_cases h : r = 36 <;> simp [h]
 refine yt9 [0] (by simp; rfl) ?_
 by_cases h1 : r < 65 <;> by_cases h2 : 90 < r <;> by_cases h3 : r < 48 <;> by_cases h4 : 57 < r <;> by_cases h5 : r = 64 <;> by_cases h6 : r = 35 <;> by_cases h7 : r = 36 <;>
  first
  | omega
  | (refine W_rK [2] ?_
     refine yq9 9 (by simp [h1, h2, h3, h4]; rfl) rfl ?_
     refine yq9 9 (by simp [h1, h2, h3, h4, h5, h6, h7, e5, e6, e7]; rfl) rfl ?_
     refine yr9 (by simp [h5, h6, h7, e5, e6, e7]; rfl) ?_
     refine zr9 ?_
     repeat (first | refine yl9 ?_ | refine yc9 ?_)
     have hok : okC r = !(!okC r) := by simp
     simp [retQ, okC, h1, h2, h3, h4, h5, h6, h7]
     try omega)
theorem calls_of_sound {P : Program} {f : FuncId} {us : List Value} {u : Value} (h : Sound P f (us.map .v) (.v u)) (w : World) : Calls P f us.toArray w fun e w' => e = .returned u ∧ Below w.heap.size w w' := by
 have hr : ∀ (us : List Value) (c : Ctx), RepL P c w (us.map .v) us := fun us c => by
  induction us with
  | nil => exact .nil
  | cons u us ih => exact .cons (.v u) (.none rfl) ih
 have := h.2 Fence.wide 0 ⟨fun b => w.heap.size ≤ b, fun _ => 0, fun _ => 0, 0, fun _ => 0⟩ w us 1 good_wide rfl rfl (fun b hb => hb) (hr us _)
 refine (callsIn_wide.1 this).mono ?_
 rintro e w' ⟨u', c', rfl, hp, hrep, _⟩
 have := hrep.v_inv
 subst this
 exact ⟨rfl, hp.os, hp.tape, hp.output, hp.size, hp.block⟩
def vs9 (s : ByteArray) : Nat → Nat → Int
 | 0, _ => -1
 | f + 1, pos => if pos < s.size then (if okC (Utf8.decode s pos).1 then vs9 s f (pos + (Utf8.decode s pos).2) else (pos : Int)) else -1
theorem symFrom_end (s : ByteArray) (f pos : Nat) (h : ¬ pos < s.size) : vs9 s f pos = -1 := by
 cases f with
 | zero => rfl
 | succ f => rw [vs9, if_neg h]
set_option maxRecDepth 1000000 in
theorem calls120 (s : ByteArray) (w : World) : Calls Try.prog 120 #[.string s, .func (.func 116) #[] #[], .bool true] w fun e w' => e = .returned (.int .i64 (vs9 s s.size 0)) ∧ Below w.heap.size w w' := by
 have e116 : ∀ args w, (callFunc 116 args).run Try.prog w = .ok (.enter 116 args) w := enters_of Try.func116 (by kernel_rfl) rfl
 go_enter Try.func120, Try.ntmps120
 go_wp2
 go_loopg [] s.size (fun g wx => ∃ pos : Nat, wx.heap[w.heap.size]? = some (.stringIter s pos) ∧ Below w.heap.size w wx ∧ vs9 s g pos = vs9 s s.size 0 ∧ s.size ≤ pos + g)
 case atStart => exact ⟨0, World.iter_heap w s 0, (Below.refl _ w).alloc (Nat.le_refl _) _, rfl, by omega⟩
 case round =>
  obtain ⟨pos, hit, hbw, hleft, hfu⟩ := hrel
  have hsz : w.heap.size < wr.heap.size := (Array.getElem?_eq_some_iff.1 hit).1
  by_cases hp : pos < s.size
  ·obtain ⟨g, rfl⟩ : ∃ g, gk = g + 1 := ⟨gk - 1, by omega⟩
   have hnx : ∀ ty, (Instr.next (.pointer (some ⟨w.heap.size, 0, none⟩)) true ty).run Try.prog wr = _ := fun ty => Lib.run_next_any_at wr w.heap.size s pos ty hit hp
   have hwd := Lib.width_pos s pos
   obtain ⟨R, hR⟩ : ∃ R, (Utf8.decode s pos).1 = R := ⟨_, rfl⟩
   obtain ⟨K, hK⟩ : ∃ K, (Utf8.decode s pos).2 = K := ⟨_, rfl⟩
   simp only [vs9, hp, if_true, hR, hK] at hleft
   rw [hR, hK] at hnx
   rw [hK] at hwd
   have hit2 := Lib.iterAt_heap wr w.heap.size s pos (pos + K) hit
   have hbw2 := Lib.below_iterAt hbw (k := w.heap.size) (Nat.le_refl _) s (pos + K)
   obtain ⟨W, hWd⟩ : ∃ W, wr.iterAt w.heap.size s (pos + K) = W := ⟨_, rfl⟩
   rw [hWd] at hnx hit2 hbw2
   have cS := calls_of_sound (us := [.int .i32 (R : Int)]) (clos116_sound (R : Int)) W
   have hWs : w.heap.size < W.heap.size := (Array.getElem?_eq_some_iff.1 hit2).1
   cases hsp : okC (R : Int) with
   | true =>
    rw [hsp] at cS
    simp only [hsp, if_true] at hleft
    simp only [Bool.not_true] at cS
    go_wp2_with (go_at_fn 116; go_fit cS; rintro e W' ⟨rfl, hb⟩)
    go_roundg g
    case measure => omega
    case rel => exact ⟨pos + K, (hb.block w.heap.size hWs).trans hit2, hbw2.trans (hb.mono (by omega)), hleft, by omega⟩
   | false =>
    rw [hsp] at cS
    simp only [hsp, Bool.false_eq_true, if_false] at hleft
    simp only [Bool.not_false] at cS
    go_wp2_with (go_at_fn 116; go_fit cS; rintro e W' ⟨rfl, hb⟩)
    go_ret
    exact ⟨by rw [← hleft] <;> rfl, hbw2.trans (hb.mono (by omega))⟩
  ·have hnx : ∀ ty, (Instr.next (.pointer (some ⟨w.heap.size, 0, none⟩)) true ty).run Try.prog wr = _ := fun ty => Lib.run_next_end_at wr w.heap.size s pos ty hit hp
   rw [symFrom_end s gk pos hp] at hleft
   go_wp2
   go_ret
   exact ⟨by rw [← hleft] <;> rfl, hbw⟩
end Go.AM
namespace Go.AM
open Go.RowKit Go.Proofs
set_option linter.unusedSimpArgs false
set_option linter.unusedVariables false
set_option maxHeartbeats 4000000
theorem decodeN_big (n b0 b1 b2 b3 : Nat) (h : 128 ≤ b0) : 128 ≤ (Lib.decodeN n b0 b1 b2 b3).1 := by
 unfold Lib.decodeN
 rw [if_neg (by omega)]
 repeat' split
 all_goals first | (simp; done) | (dsimp only; omega)
theorem okC_big {r : Int} (h : 128 ≤ r) : okC r = false := by
 simp only [okC, Bool.or_eq_false_iff, decide_eq_false_iff_not]
 omega
theorem symFrom_all (s : ByteArray) : ∀ (f pos : Nat), s.size ≤ pos + f → (vs9 s f pos = -1 ↔ ∀ j, pos ≤ j → j < s.size → okC ((s.get! j).toNat : Nat) = true)
 | 0, pos, h => by
  rw [vs9]
  exact ⟨fun _ j h1 h2 => by omega, fun _ => rfl⟩
 | f + 1, pos, h => by
  rw [vs9]
  by_cases hp : pos < s.size
  ·rw [if_pos hp]
   have hd := Lib.decode_at s pos
   by_cases hb : (s.get! pos).toNat < 128
   ·have h1 : Utf8.decode s pos = ((s.get! pos).toNat, 1) := by rw [hd, Lib.decodeN, if_pos hb]
    rw [h1]
    by_cases ho : okC ((s.get! pos).toNat : Nat) = true
    ·rw [if_pos ho, symFrom_all s f (pos + 1) (by omega)]
     refine ⟨fun h2 j h3 h4 => ?_, fun h2 j h3 h4 => h2 j (by omega) h4⟩
     by_cases hj : j = pos
     ·subst hj; exact ho
     ·exact h2 j (by omega) h4
    ·rw [if_neg ho]
     exact ⟨fun h2 => by omega, fun h2 => absurd (h2 pos (Nat.le_refl _) hp) ho⟩
   ·have hbig : 128 ≤ (Utf8.decode s pos).1 := by rw [hd]; exact decodeN_big _ _ _ _ _ (by omega)
    rw [if_neg (by rw [okC_big (by omega)]; simp)]
    refine ⟨fun h2 => by omega, fun h2 => ?_⟩
    have := h2 pos (Nat.le_refl _) hp
    rw [okC_big (by omega)] at this
    cases this
  ·rw [if_neg hp]
   exact ⟨fun _ j h1 h2 => by omega, fun _ => rfl⟩
theorem if120_sound (s : ByteArray) : Sound Try.prog 120 [.v (.string s), .fn (.func 116) [] [], .v (.bool true)] (.v (.int .i64 (vs9 s s.size 0))) := by
 refine ⟨⟨_, Try.func120, by decide +kernel, by kernel_rfl⟩, fun F n c w vals T hF hro hT hb ra => ?_⟩
 cases ra with
 | cons h1 _ r1 =>
 cases r1 with
 | cons h2 _ r2 =>
 cases r2 with
 | cons h3 _ r3 =>
 cases r3
 have e1 := h1.v_inv
 have e3 := h3.v_inv
 subst e1 e3
 cases h2 with
 | @fn f l1 l2 v1 v2 g1 g2 _ _ =>
 have z1 : v1 = #[] := Array.eq_empty_of_size_eq_zero (by rw [← g1]; rfl)
 have z2 : v2 = #[] := Array.eq_empty_of_size_eq_zero (by rw [← g2]; rfl)
 subst z1 z2
 refine (wj9 hF (calls120 s w)).mono ?_
 rintro e w' ⟨rfl, hb2⟩
 exact ⟨_, c, rfl, ⟨rfl, rfl, rfl, hb2.os, hb2.tape, hb2.output, hb2.size, hb2.block, fun _ _ => rfl, fun _ _ => rfl⟩, .v _, .none rfl⟩
theorem if119_sound (s : ByteArray) : Sound Try.prog 119 [.v (.string s), .fn (.func 116) [] []] (.v (.int .i64 (vs9 s s.size 0))) := by
 refine zl9 Try.func119 rfl (by decide +kernel) (by simp [Try.f119]) rfl rfl (rs := [.tmp 4]) rfl ?_
 rw [show Try.f119.ntmps = 8 from rfl]
 refine yt9 [0, 1] (by simp; rfl) ?_
 refine W_rK [4] ?_
 refine yq9 2 (by simp; rfl) rfl ?_
 refine yj9 (by simp) (by first | (simp; done) | (simp; rfl)) (if120_sound s) (by simp; rfl) ?_
 refine yr9 (by simp; rfl) ?_
 refine zr9 ?_
 repeat (first | refine yl9 ?_ | refine yc9 ?_)
 simp [retQ]
theorem cf115_sound (s : ByteArray) : Sound Try.prog 115 [.v (.string s), .fn (.func 116) [] []] (.v (.bool (decide (0 ≤ vs9 s s.size 0)))) := by
 refine zl9 Try.func115 rfl (by decide +kernel) (by simp [Try.f115]) rfl rfl (rs := [.tmp 4]) rfl ?_
 rw [show Try.f115.ntmps = 9 from rfl]
 refine yt9 [0, 1] (by simp; rfl) ?_
 refine W_rK [4] ?_
 refine yq9 2 (by simp; rfl) rfl ?_
 refine yj9 (by simp) (by first | (simp; done) | (simp; rfl)) (if119_sound s) (by simp; rfl) ?_
 refine yr9 (by simp; rfl) ?_
 refine zr9 ?_
 repeat (first | refine yl9 ?_ | refine yc9 ?_)
 simp [retQ]
theorem symFrom_lo (s : ByteArray) : ∀ (f pos : Nat), vs9 s f pos = -1 ∨ 0 ≤ vs9 s f pos
 | 0, pos => .inl rfl
 | f + 1, pos => by
  rw [vs9]
  split
  ·split
   ·exact symFrom_lo s f _
   ·exact .inr (by omega)
  ·exact .inl rfl
@[simp] theorem sz_mk (l : List UInt8) : (ByteArray.mk l.toArray).size = l.length := by simp [ByteArray.size]
@[simp] theorem strA_eqlB (a b : List UInt8) : strA .eql ⟨a.toArray⟩ ⟨b.toArray⟩ = some (.v (.bool (a == b))) := by simp [strA, Lib.toList_data]
@[simp] theorem strA_neqB (a b : List UInt8) : strA .neq ⟨a.toArray⟩ ⟨b.toArray⟩ = some (.v (.bool (!(a == b)))) := by simp [strA, Lib.toList_data]
theorem get_mk (l : List UInt8) (j : Nat) (h : j < l.length) : (ByteArray.mk l.toArray).get! j = l[j] := by
 simp [ByteArray.get!, h]
def okB (b : UInt8) : Bool := okC (b.toNat : Nat)
def digB (b : UInt8) : Bool := decide (48 ≤ b.toNat) && decide (b.toNat ≤ 57)
def symM (l : List UInt8) : Bool := decide (1 ≤ l.length) && (decide (l.length ≤ 8) && (!(digB (l.headD 0)) && l.all okB))
theorem cont_eq (l : List UInt8) : decide (0 ≤ vs9 ⟨l.toArray⟩ (ByteArray.mk l.toArray).size 0) = !(l.all okB) := by
 have h1 := symFrom_all ⟨l.toArray⟩ (ByteArray.mk l.toArray).size 0 (by omega)
 have h2 := symFrom_lo ⟨l.toArray⟩ (ByteArray.mk l.toArray).size 0
 rw [sz_mk] at h1 h2 ⊢
 have h3 : (∀ j, 0 ≤ j → j < l.length → okC (((ByteArray.mk l.toArray).get! j).toNat : Nat) = true) ↔ l.all okB = true := by
  rw [List.all_eq_true]
  constructor
  ·intro h b hb
   obtain ⟨j, hj, rfl⟩ := List.mem_iff_getElem.1 hb
   have := h j (Nat.zero_le _) hj
   rwa [get_mk l j hj] at this
  ·intro h j _ hj
   rw [get_mk l j hj]
   exact h _ (List.getElem_mem hj)
 rw [h3] at h1
 cases ha : l.all okB with
 | true =>
  have := h1.2 ha
  rw [this]
  rfl
 | false =>
  have hne : ¬ vs9 ⟨l.toArray⟩ l.length 0 = -1 := fun h => by rw [h1.1 h] at ha; cases ha
  have : 0 ≤ vs9 ⟨l.toArray⟩ l.length 0 := by omega
  simp [this]
theorem symbol_sound (l : List UInt8) (hl : l.length ≤ 9223372036854775807) : Sound Try.prog 106 [strB l] (.v (.bool (symM l))) := by
 refine zl9 Try.func106 rfl (by decide +kernel) (by simp [Try.f106]) rfl rfl (rs := [.tmp 2]) rfl ?_
 rw [show Try.f106.ntmps = 25 from rfl]
 have hcf := cf115_sound ⟨l.toArray⟩
 rw [cont_eq] at hcf
 simp only [strB]
 refine yt9 [0] (by simp; rfl) ?_
 refine W_rK [2] ?_
 by_cases hnil : l = []
 ·subst hnil
  refine yq9 12 (by simp; rfl) rfl ?_
  refine yq9 7 (by simp; rfl) rfl ?_
  refine yr9 (by simp; rfl) ?_
  refine zr9 ?_
  repeat (first | refine yl9 ?_ | refine yc9 ?_)
  simp [retQ, symM]
 have hne : (l == []) = false := beq_eq_false_iff_ne.2 hnil
 have hpos : 0 < l.length := List.length_pos_iff.2 hnil
 have h1 : 1 ≤ l.length := hpos
 obtain ⟨b, hb⟩ : ∃ b, l[0]? = some b := ⟨_, List.getElem?_eq_getElem hpos⟩
 have hb2 : l[0]'hpos = b := by rw [List.getElem?_eq_getElem hpos] at hb; exact Option.some.inj hb
 have hhd : l.head?.getD 0 = b := by rw [List.head?_eq_getElem?, hb]; rfl
 by_cases h8 : l.length ≤ 8
 ·have h8' : (l.length : Int) ≤ 8 := by omega
  by_cases d1 : b.toNat < 48
  ·have d1' : (b.toNat : Int) < 48 := by omega
   have hd : digB b = false := by simp [digB]; omega
   refine yq9 12 (by simp [hne, h8, h8', hb, hb2, hpos, d1, d1']; rfl) rfl ?_
   refine yq9 7 (by simp [hne, h8, h8', hb, hb2, hpos, d1, d1']; rfl) rfl ?_
   refine yj9 (by simp) (by first | (simp; done) | (simp; rfl)) hcf (by simp; rfl) ?_
   refine yr9 (by simp; rfl) ?_
   refine zr9 ?_
   repeat (first | refine yl9 ?_ | refine yc9 ?_)
   simp [retQ, symM, h1, h8, hhd, hd]
  ·have d1' : ¬ (b.toNat : Int) < 48 := by omega
   by_cases d2 : 57 < b.toNat
   ·have d2' : (57 : Int) < b.toNat := by omega
    have hd : digB b = false := by simp [digB]; omega
    refine yq9 12 (by simp [hne, h8, h8', hb, hb2, hpos, d1, d1', d2, d2']; rfl) rfl ?_
    refine yq9 7 (by simp [hne, h8, h8', hb, hb2, hpos, d1, d1', d2, d2']; rfl) rfl ?_
    refine yj9 (by simp) (by first | (simp; done) | (simp; rfl)) hcf (by simp; rfl) ?_
    refine yr9 (by simp; rfl) ?_
    refine zr9 ?_
    repeat (first | refine yl9 ?_ | refine yc9 ?_)
    simp [retQ, symM, h1, h8, hhd, hd]
   ·have d2' : ¬ (57 : Int) < b.toNat := by omega
    have hd : digB b = true := by simp [digB]; omega
    refine yq9 12 (by simp [hne, h8, h8', hb, hb2, hpos, d1, d1', d2, d2']; rfl) rfl ?_
    refine yq9 7 (by simp [hne, h8, h8', hb, hb2, hpos, d1, d1', d2, d2']; rfl) rfl ?_
    refine yr9 (by simp; rfl) ?_
    refine zr9 ?_
    repeat (first | refine yl9 ?_ | refine yc9 ?_)
    simp [retQ, symM, h1, h8, hhd, hd]
 ·have h8' : ¬ (l.length : Int) ≤ 8 := by omega
  refine yq9 12 (by simp [hne, h8, h8', hb, hb2, hpos, hne]; rfl) rfl ?_
  refine yq9 7 (by simp [hne, h8, h8', hb, hb2, hpos, hne]; rfl) rfl ?_
  refine yr9 (by simp; rfl) ?_
  refine zr9 ?_
  repeat (first | refine yl9 ?_ | refine yc9 ?_)
  simp [retQ, symM, h8]
end Go.AM
