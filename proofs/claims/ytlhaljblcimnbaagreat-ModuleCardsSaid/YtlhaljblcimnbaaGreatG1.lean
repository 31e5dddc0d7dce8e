/- Parts of the walk: Z31F Z31A Z31B Z31C Z31D Z31E Z31G. -/
import Derived.Test.YtlhaljblcimnbaaGreatProg
import Derived.Lib.Strings
import Derived.Lib.Slices
import Derived.Lib.Walk
import Derived.Lib.Bytealg
import Derived.Lib.Builder
import Derived.Shelf.Strings.Builder1
import Derived.Lib.UnsafeStr
import Derived.Lib.TrimU
import Derived.Lib.OthersKept
import Derived.Deep.LoopGhost
import Derived.Shelf.Strings.IndexFuncSpace
import Derived.Test.YtlhaljblcimnbaaGreatAmD
namespace Go.AM
open Go.RowKit Go.Proofs
theorem mx:Tryz.prog.follows .mixedOrders=true:=by kernel_rfl
@[simp] theorem k0:kdI Tryz.prog 0=Option.some Go.AM.Kd.other:=by kernel_rfl
@[simp] theorem t0:tyI Tryz.prog 0=Option.some (Bool.false,1):=by kernel_rfl
@[simp] theorem a0:apI Tryz.prog 0=Option.none:=by kernel_rfl
@[simp] theorem z0:zA Tryz.prog 0=Option.none:=by kernel_rfl
@[simp] theorem k3:kdI Tryz.prog 3=Option.some Go.AM.Kd.int:=by kernel_rfl
@[simp] theorem t3:tyI Tryz.prog 3=Option.some (Bool.false,1):=by kernel_rfl
@[simp] theorem a3:apI Tryz.prog 3=Option.some (1,8):=by kernel_rfl
@[simp] theorem z3:zA Tryz.prog 3=Option.some (Go.AM.AV.v (Go.Value.int Go.IntKind.i64 0)):=by kernel_rfl
@[simp] theorem k4:kdI Tryz.prog 4=Option.some Go.AM.Kd.bool:=by kernel_rfl
@[simp] theorem t4:tyI Tryz.prog 4=Option.some (Bool.false,1):=by kernel_rfl
@[simp] theorem a4:apI Tryz.prog 4=Option.some (1,1):=by kernel_rfl
@[simp] theorem z4:zA Tryz.prog 4=Option.some (Go.AM.AV.v (Go.Value.bool Bool.false)):=by kernel_rfl
@[simp] theorem k5:kdI Tryz.prog 5=Option.some Go.AM.Kd.int:=by kernel_rfl
@[simp] theorem t5:tyI Tryz.prog 5=Option.some (Bool.false,1):=by kernel_rfl
@[simp] theorem a5:apI Tryz.prog 5=Option.some (1,1):=by kernel_rfl
@[simp] theorem z5:zA Tryz.prog 5=Option.some (Go.AM.AV.v (Go.Value.int Go.IntKind.u8 0)):=by kernel_rfl
@[simp] theorem k9:kdI Tryz.prog 9=Option.some Go.AM.Kd.str:=by kernel_rfl
@[simp] theorem t9:tyI Tryz.prog 9=Option.some (Bool.false,1):=by kernel_rfl
@[simp] theorem a9:apI Tryz.prog 9=Option.some (1,16):=by kernel_rfl
@[simp] theorem z9:zA Tryz.prog 9=Option.some (Go.AM.AV.v (Go.Value.string { data:={ toList:=[] } })):=by kernel_rfl
@[simp] theorem k20:kdI Tryz.prog 20=Option.some Go.AM.Kd.other:=by kernel_rfl
@[simp] theorem t20:tyI Tryz.prog 20=Option.some (Bool.false,1):=by kernel_rfl
@[simp] theorem z20:zA Tryz.prog 20=Option.some (Go.AM.AV.v Go.Value.nilIface):=by kernel_rfl
@[simp] theorem k21:kdI Tryz.prog 21=Option.some Go.AM.Kd.int:=by kernel_rfl
@[simp] theorem t21:tyI Tryz.prog 21=Option.some (Bool.false,1):=by kernel_rfl
@[simp] theorem a21:apI Tryz.prog 21=Option.some (1,4):=by kernel_rfl
@[simp] theorem z21:zA Tryz.prog 21=Option.some (Go.AM.AV.v (Go.Value.int Go.IntKind.i32 0)):=by kernel_rfl
@[simp] theorem k22:kdI Tryz.prog 22=Option.some Go.AM.Kd.sl:=by kernel_rfl
@[simp] theorem t22:tyI Tryz.prog 22=Option.some (Bool.false,1):=by kernel_rfl
@[simp] theorem s22:slI Tryz.prog 22=Option.some (23,Bool.false,1):=by kernel_rfl
@[simp] theorem a22:apI Tryz.prog 22=Option.some (1,24):=by kernel_rfl
@[simp] theorem z22:zA Tryz.prog 22=Option.some (Go.AM.AV.lst Go.AM.Fl.nil 1 []):=by kernel_rfl
@[simp] theorem k23:kdI Tryz.prog 23=Option.some Go.AM.Kd.sl:=by kernel_rfl
@[simp] theorem t23:tyI Tryz.prog 23=Option.some (Bool.false,1):=by kernel_rfl
@[simp] theorem s23:slI Tryz.prog 23=Option.some (5,Bool.false,1):=by kernel_rfl
@[simp] theorem a23:apI Tryz.prog 23=Option.some (1,24):=by kernel_rfl
@[simp] theorem z23:zA Tryz.prog 23=Option.some (Go.AM.AV.lst Go.AM.Fl.nil 1 []):=by kernel_rfl
@[simp] theorem k24:kdI Tryz.prog 24=Option.some Go.AM.Kd.sl:=by kernel_rfl
@[simp] theorem t24:tyI Tryz.prog 24=Option.some (Bool.false,1):=by kernel_rfl
@[simp] theorem s24:slI Tryz.prog 24=Option.some (27,Bool.false,1):=by kernel_rfl
@[simp] theorem a24:apI Tryz.prog 24=Option.some (1,24):=by kernel_rfl
@[simp] theorem z24:zA Tryz.prog 24=Option.some (Go.AM.AV.lst Go.AM.Fl.nil 1 []):=by kernel_rfl
@[simp] theorem k26:kdI Tryz.prog 26=Option.some Go.AM.Kd.other:=by kernel_rfl
@[simp] theorem t26:tyI Tryz.prog 26=Option.some (Bool.true,5):=by kernel_rfl
@[simp] theorem a26:apI Tryz.prog 26=Option.some (5,104):=by kernel_rfl
@[simp] theorem z26:zA Tryz.prog 26=Option.some (Go.AM.AV.agg [Go.AM.AV.lst Go.AM.Fl.nil 1 [],Go.AM.AV.lst Go.AM.Fl.nil 1 [],Go.AM.AV.lst Go.AM.Fl.nil 1 [],Go.AM.AV.v (Go.Value.int Go.IntKind.u8 0),Go.AM.AV.lst Go.AM.Fl.nil 1 []]):=by kernel_rfl
@[simp] theorem S26:stI Tryz.prog 26=Option.some [(0,1),(1,1),(2,1),(3,1),(4,1)]:=by kernel_rfl
@[simp] theorem r26:arI Tryz.prog 26=Option.none:=by kernel_rfl
@[simp] theorem f26_0:fdI Tryz.prog 26 0=Option.some (0,Bool.false,1):=by kernel_rfl
@[simp] theorem ft26_0:ftI Tryz.prog 26 0=23:=by kernel_rfl
@[simp] theorem f26_1:fdI Tryz.prog 26 1=Option.some (1,Bool.false,1):=by kernel_rfl
@[simp] theorem ft26_1:ftI Tryz.prog 26 1=24:=by kernel_rfl
@[simp] theorem f26_2:fdI Tryz.prog 26 2=Option.some (2,Bool.false,1):=by kernel_rfl
@[simp] theorem ft26_2:ftI Tryz.prog 26 2=24:=by kernel_rfl
@[simp] theorem f26_3:fdI Tryz.prog 26 3=Option.some (3,Bool.false,1):=by kernel_rfl
@[simp] theorem ft26_3:ftI Tryz.prog 26 3=5:=by kernel_rfl
@[simp] theorem f26_4:fdI Tryz.prog 26 4=Option.some (4,Bool.false,1):=by kernel_rfl
@[simp] theorem ft26_4:ftI Tryz.prog 26 4=23:=by kernel_rfl
@[simp] theorem k27:kdI Tryz.prog 27=Option.some Go.AM.Kd.int:=by kernel_rfl
@[simp] theorem t27:tyI Tryz.prog 27=Option.some (Bool.false,1):=by kernel_rfl
@[simp] theorem a27:apI Tryz.prog 27=Option.some (1,2):=by kernel_rfl
@[simp] theorem z27:zA Tryz.prog 27=Option.some (Go.AM.AV.v (Go.Value.int Go.IntKind.u16 0)):=by kernel_rfl
@[simp] theorem k29:kdI Tryz.prog 29=Option.some Go.AM.Kd.sl:=by kernel_rfl
@[simp] theorem t29:tyI Tryz.prog 29=Option.some (Bool.false,1):=by kernel_rfl
@[simp] theorem s29:slI Tryz.prog 29=Option.some (50,Bool.true,5):=by kernel_rfl
@[simp] theorem a29:apI Tryz.prog 29=Option.some (1,24):=by kernel_rfl
@[simp] theorem z29:zA Tryz.prog 29=Option.some (Go.AM.AV.lst Go.AM.Fl.nil 5 []):=by kernel_rfl
@[simp] theorem k30:kdI Tryz.prog 30=Option.some Go.AM.Kd.sl:=by kernel_rfl
@[simp] theorem t30:tyI Tryz.prog 30=Option.some (Bool.false,1):=by kernel_rfl
@[simp] theorem s30:slI Tryz.prog 30=Option.some (42,Bool.true,3):=by kernel_rfl
@[simp] theorem a30:apI Tryz.prog 30=Option.some (1,24):=by kernel_rfl
@[simp] theorem z30:zA Tryz.prog 30=Option.some (Go.AM.AV.lst Go.AM.Fl.nil 3 []):=by kernel_rfl
@[simp] theorem k31:kdI Tryz.prog 31=Option.some Go.AM.Kd.sl:=by kernel_rfl
@[simp] theorem t31:tyI Tryz.prog 31=Option.some (Bool.false,1):=by kernel_rfl
@[simp] theorem s31:slI Tryz.prog 31=Option.some (46,Bool.true,5):=by kernel_rfl
@[simp] theorem a31:apI Tryz.prog 31=Option.some (1,24):=by kernel_rfl
@[simp] theorem z31:zA Tryz.prog 31=Option.some (Go.AM.AV.lst Go.AM.Fl.nil 5 []):=by kernel_rfl
@[simp] theorem k33:kdI Tryz.prog 33=Option.some Go.AM.Kd.other:=by kernel_rfl
@[simp] theorem t33:tyI Tryz.prog 33=Option.some (Bool.true,4):=by kernel_rfl
@[simp] theorem a33:apI Tryz.prog 33=Option.some (4,88):=by kernel_rfl
@[simp] theorem z33:zA Tryz.prog 33=Option.some (Go.AM.AV.agg [Go.AM.AV.lst Go.AM.Fl.nil 5 [],Go.AM.AV.lst Go.AM.Fl.nil 3 [],Go.AM.AV.lst Go.AM.Fl.nil 5 [],Go.AM.AV.v (Go.Value.string { data:={ toList:=[] } })]):=by kernel_rfl
@[simp] theorem S33:stI Tryz.prog 33=Option.some [(0,1),(1,1),(2,1),(3,1)]:=by kernel_rfl
@[simp] theorem r33:arI Tryz.prog 33=Option.none:=by kernel_rfl
@[simp] theorem f33_0:fdI Tryz.prog 33 0=Option.some (0,Bool.false,1):=by kernel_rfl
@[simp] theorem ft33_0:ftI Tryz.prog 33 0=29:=by kernel_rfl
@[simp] theorem f33_1:fdI Tryz.prog 33 1=Option.some (1,Bool.false,1):=by kernel_rfl
@[simp] theorem ft33_1:ftI Tryz.prog 33 1=30:=by kernel_rfl
@[simp] theorem f33_2:fdI Tryz.prog 33 2=Option.some (2,Bool.false,1):=by kernel_rfl
@[simp] theorem ft33_2:ftI Tryz.prog 33 2=31:=by kernel_rfl
@[simp] theorem f33_3:fdI Tryz.prog 33 3=Option.some (3,Bool.false,1):=by kernel_rfl
@[simp] theorem ft33_3:ftI Tryz.prog 33 3=9:=by kernel_rfl
@[simp] theorem k37:kdI Tryz.prog 37=Option.some (Go.AM.Kd.arr 6):=by kernel_rfl
@[simp] theorem t37:tyI Tryz.prog 37=Option.some (Bool.true,6):=by kernel_rfl
@[simp] theorem a37:apI Tryz.prog 37=Option.some (6,144):=by kernel_rfl
@[simp] theorem z37:zA Tryz.prog 37=Option.some (Go.AM.AV.agg [Go.AM.AV.lst Go.AM.Fl.nil 1 [],Go.AM.AV.lst Go.AM.Fl.nil 1 [],Go.AM.AV.lst Go.AM.Fl.nil 1 [],Go.AM.AV.lst Go.AM.Fl.nil 1 [],Go.AM.AV.lst Go.AM.Fl.nil 1 [],Go.AM.AV.lst Go.AM.Fl.nil 1 []]):=by kernel_rfl
@[simp] theorem S37:stI Tryz.prog 37=Option.none:=by kernel_rfl
@[simp] theorem r37:arI Tryz.prog 37=Option.some (6,22,Bool.false,1):=by kernel_rfl
@[simp] theorem k42:kdI Tryz.prog 42=Option.some Go.AM.Kd.other:=by kernel_rfl
@[simp] theorem t42:tyI Tryz.prog 42=Option.some (Bool.true,3):=by kernel_rfl
@[simp] theorem a42:apI Tryz.prog 42=Option.some (3,40):=by kernel_rfl
@[simp] theorem z42:zA Tryz.prog 42=Option.some (Go.AM.AV.agg [Go.AM.AV.v (Go.Value.int Go.IntKind.i64 0),Go.AM.AV.v (Go.Value.int Go.IntKind.i64 0),Go.AM.AV.lst Go.AM.Fl.nil 1 []]):=by kernel_rfl
@[simp] theorem S42:stI Tryz.prog 42=Option.some [(0,1),(1,1),(2,1)]:=by kernel_rfl
@[simp] theorem r42:arI Tryz.prog 42=Option.none:=by kernel_rfl
@[simp] theorem f42_0:fdI Tryz.prog 42 0=Option.some (0,Bool.false,1):=by kernel_rfl
@[simp] theorem ft42_0:ftI Tryz.prog 42 0=3:=by kernel_rfl
@[simp] theorem f42_1:fdI Tryz.prog 42 1=Option.some (1,Bool.false,1):=by kernel_rfl
@[simp] theorem ft42_1:ftI Tryz.prog 42 1=3:=by kernel_rfl
@[simp] theorem f42_2:fdI Tryz.prog 42 2=Option.some (2,Bool.false,1):=by kernel_rfl
@[simp] theorem ft42_2:ftI Tryz.prog 42 2=23:=by kernel_rfl
@[simp] theorem k46:kdI Tryz.prog 46=Option.some Go.AM.Kd.other:=by kernel_rfl
@[simp] theorem t46:tyI Tryz.prog 46=Option.some (Bool.true,5):=by kernel_rfl
@[simp] theorem a46:apI Tryz.prog 46=Option.some (5,40):=by kernel_rfl
@[simp] theorem z46:zA Tryz.prog 46=Option.some (Go.AM.AV.agg [Go.AM.AV.v (Go.Value.int Go.IntKind.i64 0),Go.AM.AV.v (Go.Value.int Go.IntKind.i64 0),Go.AM.AV.v (Go.Value.int Go.IntKind.i64 0),Go.AM.AV.v (Go.Value.int Go.IntKind.i64 0),Go.AM.AV.v (Go.Value.bool Bool.false)]):=by kernel_rfl
@[simp] theorem S46:stI Tryz.prog 46=Option.some [(0,1),(1,1),(2,1),(3,1),(4,1)]:=by kernel_rfl
@[simp] theorem r46:arI Tryz.prog 46=Option.none:=by kernel_rfl
@[simp] theorem f46_0:fdI Tryz.prog 46 0=Option.some (0,Bool.false,1):=by kernel_rfl
@[simp] theorem ft46_0:ftI Tryz.prog 46 0=3:=by kernel_rfl
@[simp] theorem f46_1:fdI Tryz.prog 46 1=Option.some (1,Bool.false,1):=by kernel_rfl
@[simp] theorem ft46_1:ftI Tryz.prog 46 1=3:=by kernel_rfl
@[simp] theorem f46_2:fdI Tryz.prog 46 2=Option.some (2,Bool.false,1):=by kernel_rfl
@[simp] theorem ft46_2:ftI Tryz.prog 46 2=3:=by kernel_rfl
@[simp] theorem f46_3:fdI Tryz.prog 46 3=Option.some (3,Bool.false,1):=by kernel_rfl
@[simp] theorem ft46_3:ftI Tryz.prog 46 3=3:=by kernel_rfl
@[simp] theorem f46_4:fdI Tryz.prog 46 4=Option.some (4,Bool.false,1):=by kernel_rfl
@[simp] theorem ft46_4:ftI Tryz.prog 46 4=4:=by kernel_rfl
@[simp] theorem k50:kdI Tryz.prog 50=Option.some Go.AM.Kd.other:=by kernel_rfl
@[simp] theorem t50:tyI Tryz.prog 50=Option.some (Bool.true,5):=by kernel_rfl
@[simp] theorem a50:apI Tryz.prog 50=Option.some (5,48):=by kernel_rfl
@[simp] theorem z50:zA Tryz.prog 50=Option.some (Go.AM.AV.agg [Go.AM.AV.v (Go.Value.string { data:={ toList:=[] } }),Go.AM.AV.v (Go.Value.int Go.IntKind.i64 0),Go.AM.AV.v (Go.Value.int Go.IntKind.i64 0),Go.AM.AV.v (Go.Value.int Go.IntKind.i64 0),Go.AM.AV.v (Go.Value.int Go.IntKind.i64 0)]):=by kernel_rfl
@[simp] theorem S50:stI Tryz.prog 50=Option.some [(0,1),(1,1),(2,1),(3,1),(4,1)]:=by kernel_rfl
@[simp] theorem r50:arI Tryz.prog 50=Option.none:=by kernel_rfl
@[simp] theorem f50_0:fdI Tryz.prog 50 0=Option.some (0,Bool.false,1):=by kernel_rfl
@[simp] theorem ft50_0:ftI Tryz.prog 50 0=9:=by kernel_rfl
@[simp] theorem f50_1:fdI Tryz.prog 50 1=Option.some (1,Bool.false,1):=by kernel_rfl
@[simp] theorem ft50_1:ftI Tryz.prog 50 1=3:=by kernel_rfl
@[simp] theorem f50_2:fdI Tryz.prog 50 2=Option.some (2,Bool.false,1):=by kernel_rfl
@[simp] theorem ft50_2:ftI Tryz.prog 50 2=3:=by kernel_rfl
@[simp] theorem f50_3:fdI Tryz.prog 50 3=Option.some (3,Bool.false,1):=by kernel_rfl
@[simp] theorem ft50_3:ftI Tryz.prog 50 3=3:=by kernel_rfl
@[simp] theorem f50_4:fdI Tryz.prog 50 4=Option.some (4,Bool.false,1):=by kernel_rfl
@[simp] theorem ft50_4:ftI Tryz.prog 50 4=3:=by kernel_rfl
@[simp] theorem k52:kdI Tryz.prog 52=Option.some Go.AM.Kd.int:=by kernel_rfl
@[simp] theorem t52:tyI Tryz.prog 52=Option.some (Bool.false,1):=by kernel_rfl
@[simp] theorem a52:apI Tryz.prog 52=Option.some (1,8):=by kernel_rfl
@[simp] theorem z52:zA Tryz.prog 52=Option.some (Go.AM.AV.v (Go.Value.int Go.IntKind.i64 0)):=by kernel_rfl
@[simp] theorem k53:kdI Tryz.prog 53=Option.some Go.AM.Kd.other:=by kernel_rfl
@[simp] theorem t53:tyI Tryz.prog 53=Option.some (Bool.false,1):=by kernel_rfl
@[simp] theorem a53:apI Tryz.prog 53=Option.none:=by kernel_rfl
@[simp] theorem z53:zA Tryz.prog 53=Option.none:=by kernel_rfl
@[simp] theorem k55:kdI Tryz.prog 55=Option.some Go.AM.Kd.other:=by kernel_rfl
@[simp] theorem t55:tyI Tryz.prog 55=Option.some (Bool.false,1):=by kernel_rfl
@[simp] theorem a55:apI Tryz.prog 55=Option.none:=by kernel_rfl
@[simp] theorem z55:zA Tryz.prog 55=Option.none:=by kernel_rfl
@[simp] theorem k57:kdI Tryz.prog 57=Option.some Go.AM.Kd.sl:=by kernel_rfl
@[simp] theorem t57:tyI Tryz.prog 57=Option.some (Bool.false,1):=by kernel_rfl
@[simp] theorem s57:slI Tryz.prog 57=Option.some (33,Bool.true,4):=by kernel_rfl
@[simp] theorem a57:apI Tryz.prog 57=Option.some (1,24):=by kernel_rfl
@[simp] theorem z57:zA Tryz.prog 57=Option.some (Go.AM.AV.lst Go.AM.Fl.nil 4 []):=by kernel_rfl
@[simp] theorem k58:kdI Tryz.prog 58=Option.some Go.AM.Kd.other:=by kernel_rfl
@[simp] theorem t58:tyI Tryz.prog 58=Option.some (Bool.false,1):=by kernel_rfl
@[simp] theorem a58:apI Tryz.prog 58=Option.none:=by kernel_rfl
@[simp] theorem z58:zA Tryz.prog 58=Option.none:=by kernel_rfl
@[simp] theorem k60:kdI Tryz.prog 60=Option.some Go.AM.Kd.other:=by kernel_rfl
@[simp] theorem t60:tyI Tryz.prog 60=Option.some (Bool.false,1):=by kernel_rfl
@[simp] theorem a60:apI Tryz.prog 60=Option.none:=by kernel_rfl
@[simp] theorem z60:zA Tryz.prog 60=Option.none:=by kernel_rfl
@[simp] theorem k64:kdI Tryz.prog 64=Option.some Go.AM.Kd.other:=by kernel_rfl
@[simp] theorem t64:tyI Tryz.prog 64=Option.some (Bool.false,1):=by kernel_rfl
@[simp] theorem a64:apI Tryz.prog 64=Option.none:=by kernel_rfl
@[simp] theorem z64:zA Tryz.prog 64=Option.none:=by kernel_rfl
@[simp] theorem k67:kdI Tryz.prog 67=Option.some Go.AM.Kd.sl:=by kernel_rfl
@[simp] theorem t67:tyI Tryz.prog 67=Option.some (Bool.false,1):=by kernel_rfl
@[simp] theorem s67:slI Tryz.prog 67=Option.some (3,Bool.false,1):=by kernel_rfl
@[simp] theorem a67:apI Tryz.prog 67=Option.some (1,24):=by kernel_rfl
@[simp] theorem z67:zA Tryz.prog 67=Option.some (Go.AM.AV.lst Go.AM.Fl.nil 1 []):=by kernel_rfl
@[simp] theorem k68:kdI Tryz.prog 68=Option.some Go.AM.Kd.sl:=by kernel_rfl
@[simp] theorem t68:tyI Tryz.prog 68=Option.some (Bool.false,1):=by kernel_rfl
@[simp] theorem s68:slI Tryz.prog 68=Option.some (9,Bool.false,1):=by kernel_rfl
@[simp] theorem a68:apI Tryz.prog 68=Option.some (1,24):=by kernel_rfl
@[simp] theorem z68:zA Tryz.prog 68=Option.some (Go.AM.AV.lst Go.AM.Fl.nil 1 []):=by kernel_rfl
@[simp] theorem k72:kdI Tryz.prog 72=Option.some Go.AM.Kd.other:=by kernel_rfl
@[simp] theorem t72:tyI Tryz.prog 72=Option.some (Bool.true,4):=by kernel_rfl
@[simp] theorem a72:apI Tryz.prog 72=Option.some (4,32):=by kernel_rfl
@[simp] theorem z72:zA Tryz.prog 72=Option.some (Go.AM.AV.agg [Go.AM.AV.v (Go.Value.int Go.IntKind.i64 0),Go.AM.AV.v (Go.Value.int Go.IntKind.i64 0),Go.AM.AV.v (Go.Value.int Go.IntKind.i64 0),Go.AM.AV.v (Go.Value.int Go.IntKind.i64 0)]):=by kernel_rfl
@[simp] theorem S72:stI Tryz.prog 72=Option.some [(0,1),(1,1),(2,1),(3,1)]:=by kernel_rfl
@[simp] theorem r72:arI Tryz.prog 72=Option.none:=by kernel_rfl
@[simp] theorem f72_0:fdI Tryz.prog 72 0=Option.some (0,Bool.false,1):=by kernel_rfl
@[simp] theorem ft72_0:ftI Tryz.prog 72 0=3:=by kernel_rfl
@[simp] theorem f72_1:fdI Tryz.prog 72 1=Option.some (1,Bool.false,1):=by kernel_rfl
@[simp] theorem ft72_1:ftI Tryz.prog 72 1=3:=by kernel_rfl
@[simp] theorem f72_2:fdI Tryz.prog 72 2=Option.some (2,Bool.false,1):=by kernel_rfl
@[simp] theorem ft72_2:ftI Tryz.prog 72 2=3:=by kernel_rfl
@[simp] theorem f72_3:fdI Tryz.prog 72 3=Option.some (3,Bool.false,1):=by kernel_rfl
@[simp] theorem ft72_3:ftI Tryz.prog 72 3=3:=by kernel_rfl
@[simp] theorem k73:kdI Tryz.prog 73=Option.some Go.AM.Kd.sl:=by kernel_rfl
@[simp] theorem t73:tyI Tryz.prog 73=Option.some (Bool.false,1):=by kernel_rfl
@[simp] theorem s73:slI Tryz.prog 73=Option.some (72,Bool.true,4):=by kernel_rfl
@[simp] theorem a73:apI Tryz.prog 73=Option.some (1,24):=by kernel_rfl
@[simp] theorem z73:zA Tryz.prog 73=Option.some (Go.AM.AV.lst Go.AM.Fl.nil 4 []):=by kernel_rfl
@[simp] theorem k74:kdI Tryz.prog 74=Option.some Go.AM.Kd.sl:=by kernel_rfl
@[simp] theorem t74:tyI Tryz.prog 74=Option.some (Bool.false,1):=by kernel_rfl
@[simp] theorem s74:slI Tryz.prog 74=Option.some (123,Bool.true,3):=by kernel_rfl
@[simp] theorem a74:apI Tryz.prog 74=Option.some (1,24):=by kernel_rfl
@[simp] theorem z74:zA Tryz.prog 74=Option.some (Go.AM.AV.lst Go.AM.Fl.nil 3 []):=by kernel_rfl
@[simp] theorem k76:kdI Tryz.prog 76=Option.some Go.AM.Kd.other:=by kernel_rfl
@[simp] theorem t76:tyI Tryz.prog 76=Option.some (Bool.true,4):=by kernel_rfl
@[simp] theorem a76:apI Tryz.prog 76=Option.some (4,80):=by kernel_rfl
@[simp] theorem z76:zA Tryz.prog 76=Option.some (Go.AM.AV.agg [Go.AM.AV.lst Go.AM.Fl.nil 1 [],Go.AM.AV.lst Go.AM.Fl.nil 3 [],Go.AM.AV.lst Go.AM.Fl.nil 4 [],Go.AM.AV.v (Go.Value.int Go.IntKind.i64 0)]):=by kernel_rfl
@[simp] theorem S76:stI Tryz.prog 76=Option.some [(0,1),(1,1),(2,1),(3,1)]:=by kernel_rfl
@[simp] theorem r76:arI Tryz.prog 76=Option.none:=by kernel_rfl
@[simp] theorem f76_0:fdI Tryz.prog 76 0=Option.some (0,Bool.false,1):=by kernel_rfl
@[simp] theorem ft76_0:ftI Tryz.prog 76 0=23:=by kernel_rfl
@[simp] theorem f76_1:fdI Tryz.prog 76 1=Option.some (1,Bool.false,1):=by kernel_rfl
@[simp] theorem ft76_1:ftI Tryz.prog 76 1=74:=by kernel_rfl
@[simp] theorem f76_2:fdI Tryz.prog 76 2=Option.some (2,Bool.false,1):=by kernel_rfl
@[simp] theorem ft76_2:ftI Tryz.prog 76 2=73:=by kernel_rfl
@[simp] theorem f76_3:fdI Tryz.prog 76 3=Option.some (3,Bool.false,1):=by kernel_rfl
@[simp] theorem ft76_3:ftI Tryz.prog 76 3=3:=by kernel_rfl
@[simp] theorem k80:kdI Tryz.prog 80=Option.some Go.AM.Kd.other:=by kernel_rfl
@[simp] theorem t80:tyI Tryz.prog 80=Option.some (Bool.false,1):=by kernel_rfl
@[simp] theorem a80:apI Tryz.prog 80=Option.none:=by kernel_rfl
@[simp] theorem z80:zA Tryz.prog 80=Option.none:=by kernel_rfl
@[simp] theorem k82:kdI Tryz.prog 82=Option.some (Go.AM.Kd.arr 4):=by kernel_rfl
@[simp] theorem t82:tyI Tryz.prog 82=Option.some (Bool.true,4):=by kernel_rfl
@[simp] theorem a82:apI Tryz.prog 82=Option.some (4,64):=by kernel_rfl
@[simp] theorem z82:zA Tryz.prog 82=Option.some (Go.AM.AV.agg [Go.AM.AV.v (Go.Value.string { data:={ toList:=[] } }),Go.AM.AV.v (Go.Value.string { data:={ toList:=[] } }),Go.AM.AV.v (Go.Value.string { data:={ toList:=[] } }),Go.AM.AV.v (Go.Value.string { data:={ toList:=[] } })]):=by kernel_rfl
@[simp] theorem S82:stI Tryz.prog 82=Option.none:=by kernel_rfl
@[simp] theorem r82:arI Tryz.prog 82=Option.some (4,9,Bool.false,1):=by kernel_rfl
@[simp] theorem k85:kdI Tryz.prog 85=Option.some Go.AM.Kd.ptr:=by kernel_rfl
@[simp] theorem t85:tyI Tryz.prog 85=Option.some (Bool.false,1):=by kernel_rfl
@[simp] theorem z85:zA Tryz.prog 85=Option.some (Go.AM.AV.v (Go.Value.pointer Option.none)):=by kernel_rfl
@[simp] theorem k88:kdI Tryz.prog 88=Option.some Go.AM.Kd.int:=by kernel_rfl
@[simp] theorem t88:tyI Tryz.prog 88=Option.some (Bool.false,1):=by kernel_rfl
@[simp] theorem a88:apI Tryz.prog 88=Option.some (1,8):=by kernel_rfl
@[simp] theorem z88:zA Tryz.prog 88=Option.some (Go.AM.AV.v (Go.Value.int Go.IntKind.u64 0)):=by kernel_rfl
@[simp] theorem k92:kdI Tryz.prog 92=Option.some Go.AM.Kd.fn:=by kernel_rfl
@[simp] theorem t92:tyI Tryz.prog 92=Option.some (Bool.false,1):=by kernel_rfl
@[simp] theorem z92:zA Tryz.prog 92=Option.some (Go.AM.AV.v Go.Value.nilFunc):=by kernel_rfl
@[simp] theorem k93:kdI Tryz.prog 93=Option.some Go.AM.Kd.fn:=by kernel_rfl
@[simp] theorem t93:tyI Tryz.prog 93=Option.some (Bool.false,1):=by kernel_rfl
@[simp] theorem z93:zA Tryz.prog 93=Option.some (Go.AM.AV.v Go.Value.nilFunc):=by kernel_rfl
@[simp] theorem k94:kdI Tryz.prog 94=Option.some Go.AM.Kd.fn:=by kernel_rfl
@[simp] theorem t94:tyI Tryz.prog 94=Option.some (Bool.false,1):=by kernel_rfl
@[simp] theorem z94:zA Tryz.prog 94=Option.some (Go.AM.AV.v Go.Value.nilFunc):=by kernel_rfl
@[simp] theorem k95:kdI Tryz.prog 95=Option.some Go.AM.Kd.fn:=by kernel_rfl
@[simp] theorem t95:tyI Tryz.prog 95=Option.some (Bool.false,1):=by kernel_rfl
@[simp] theorem z95:zA Tryz.prog 95=Option.some (Go.AM.AV.v Go.Value.nilFunc):=by kernel_rfl
@[simp] theorem k97:kdI Tryz.prog 97=Option.some Go.AM.Kd.fn:=by kernel_rfl
@[simp] theorem t97:tyI Tryz.prog 97=Option.some (Bool.false,1):=by kernel_rfl
@[simp] theorem z97:zA Tryz.prog 97=Option.some (Go.AM.AV.v Go.Value.nilFunc):=by kernel_rfl
@[simp] theorem k98:kdI Tryz.prog 98=Option.some Go.AM.Kd.other:=by kernel_rfl
@[simp] theorem t98:tyI Tryz.prog 98=Option.some (Bool.false,1):=by kernel_rfl
@[simp] theorem a98:apI Tryz.prog 98=Option.none:=by kernel_rfl
@[simp] theorem z98:zA Tryz.prog 98=Option.none:=by kernel_rfl
@[simp] theorem k102:kdI Tryz.prog 102=Option.some Go.AM.Kd.fn:=by kernel_rfl
@[simp] theorem t102:tyI Tryz.prog 102=Option.some (Bool.false,1):=by kernel_rfl
@[simp] theorem z102:zA Tryz.prog 102=Option.some (Go.AM.AV.v Go.Value.nilFunc):=by kernel_rfl
@[simp] theorem k104:kdI Tryz.prog 104=Option.some Go.AM.Kd.fn:=by kernel_rfl
@[simp] theorem t104:tyI Tryz.prog 104=Option.some (Bool.false,1):=by kernel_rfl
@[simp] theorem z104:zA Tryz.prog 104=Option.some (Go.AM.AV.v Go.Value.nilFunc):=by kernel_rfl
@[simp] theorem k105:kdI Tryz.prog 105=Option.some Go.AM.Kd.fn:=by kernel_rfl
@[simp] theorem t105:tyI Tryz.prog 105=Option.some (Bool.false,1):=by kernel_rfl
@[simp] theorem z105:zA Tryz.prog 105=Option.some (Go.AM.AV.v Go.Value.nilFunc):=by kernel_rfl
@[simp] theorem k108:kdI Tryz.prog 108=Option.some Go.AM.Kd.ptr:=by kernel_rfl
@[simp] theorem t108:tyI Tryz.prog 108=Option.some (Bool.false,1):=by kernel_rfl
@[simp] theorem z108:zA Tryz.prog 108=Option.some (Go.AM.AV.v (Go.Value.pointer Option.none)):=by kernel_rfl
@[simp] theorem k109:kdI Tryz.prog 109=Option.some Go.AM.Kd.mp:=by kernel_rfl
@[simp] theorem t109:tyI Tryz.prog 109=Option.some (Bool.false,1):=by kernel_rfl
@[simp] theorem z109:zA Tryz.prog 109=Option.some (Go.AM.AV.v (Go.Value.map Option.none)):=by kernel_rfl
@[simp] theorem m109:mpI Tryz.prog 109=Option.some (Go.TypeDesc.int Go.IntKind.i64,50):=by kernel_rfl
@[simp] theorem k110:kdI Tryz.prog 110=Option.some Go.AM.Kd.mp:=by kernel_rfl
@[simp] theorem t110:tyI Tryz.prog 110=Option.some (Bool.false,1):=by kernel_rfl
@[simp] theorem z110:zA Tryz.prog 110=Option.some (Go.AM.AV.v (Go.Value.map Option.none)):=by kernel_rfl
@[simp] theorem m110:mpI Tryz.prog 110=Option.some (Go.TypeDesc.string,3):=by kernel_rfl
@[simp] theorem k112:kdI Tryz.prog 112=Option.some Go.AM.Kd.other:=by kernel_rfl
@[simp] theorem t112:tyI Tryz.prog 112=Option.some (Bool.true,3):=by kernel_rfl
@[simp] theorem a112:apI Tryz.prog 112=Option.some (3,24):=by kernel_rfl
@[simp] theorem z112:zA Tryz.prog 112=Option.some (Go.AM.AV.agg [Go.AM.AV.v (Go.Value.map Option.none),Go.AM.AV.v (Go.Value.map Option.none),Go.AM.AV.v (Go.Value.int Go.IntKind.i64 0)]):=by kernel_rfl
@[simp] theorem S112:stI Tryz.prog 112=Option.some [(0,1),(1,1),(2,1)]:=by kernel_rfl
@[simp] theorem r112:arI Tryz.prog 112=Option.none:=by kernel_rfl
@[simp] theorem f112_0:fdI Tryz.prog 112 0=Option.some (0,Bool.false,1):=by kernel_rfl
@[simp] theorem ft112_0:ftI Tryz.prog 112 0=109:=by kernel_rfl
@[simp] theorem f112_1:fdI Tryz.prog 112 1=Option.some (1,Bool.false,1):=by kernel_rfl
@[simp] theorem ft112_1:ftI Tryz.prog 112 1=110:=by kernel_rfl
@[simp] theorem f112_2:fdI Tryz.prog 112 2=Option.some (2,Bool.false,1):=by kernel_rfl
@[simp] theorem ft112_2:ftI Tryz.prog 112 2=3:=by kernel_rfl
@[simp] theorem k115:kdI Tryz.prog 115=Option.some Go.AM.Kd.other:=by kernel_rfl
@[simp] theorem t115:tyI Tryz.prog 115=Option.some (Bool.false,1):=by kernel_rfl
@[simp] theorem a115:apI Tryz.prog 115=Option.none:=by kernel_rfl
@[simp] theorem z115:zA Tryz.prog 115=Option.none:=by kernel_rfl
@[simp] theorem k116:kdI Tryz.prog 116=Option.some Go.AM.Kd.fn:=by kernel_rfl
@[simp] theorem t116:tyI Tryz.prog 116=Option.some (Bool.false,1):=by kernel_rfl
@[simp] theorem z116:zA Tryz.prog 116=Option.some (Go.AM.AV.v Go.Value.nilFunc):=by kernel_rfl
@[simp] theorem k117:kdI Tryz.prog 117=Option.some Go.AM.Kd.fn:=by kernel_rfl
@[simp] theorem t117:tyI Tryz.prog 117=Option.some (Bool.false,1):=by kernel_rfl
@[simp] theorem z117:zA Tryz.prog 117=Option.some (Go.AM.AV.v Go.Value.nilFunc):=by kernel_rfl
@[simp] theorem k119:kdI Tryz.prog 119=Option.some Go.AM.Kd.fn:=by kernel_rfl
@[simp] theorem t119:tyI Tryz.prog 119=Option.some (Bool.false,1):=by kernel_rfl
@[simp] theorem z119:zA Tryz.prog 119=Option.some (Go.AM.AV.v Go.Value.nilFunc):=by kernel_rfl
@[simp] theorem k120:kdI Tryz.prog 120=Option.some Go.AM.Kd.fn:=by kernel_rfl
@[simp] theorem t120:tyI Tryz.prog 120=Option.some (Bool.false,1):=by kernel_rfl
@[simp] theorem z120:zA Tryz.prog 120=Option.some (Go.AM.AV.v Go.Value.nilFunc):=by kernel_rfl
@[simp] theorem k123:kdI Tryz.prog 123=Option.some Go.AM.Kd.other:=by kernel_rfl
@[simp] theorem t123:tyI Tryz.prog 123=Option.some (Bool.true,3):=by kernel_rfl
@[simp] theorem a123:apI Tryz.prog 123=Option.some (3,24):=by kernel_rfl
@[simp] theorem z123:zA Tryz.prog 123=Option.some (Go.AM.AV.agg [Go.AM.AV.v (Go.Value.int Go.IntKind.i64 0),Go.AM.AV.v (Go.Value.int Go.IntKind.i64 0),Go.AM.AV.v (Go.Value.bool Bool.false)]):=by kernel_rfl
@[simp] theorem S123:stI Tryz.prog 123=Option.some [(0,1),(1,1),(2,1)]:=by kernel_rfl
@[simp] theorem r123:arI Tryz.prog 123=Option.none:=by kernel_rfl
@[simp] theorem f123_0:fdI Tryz.prog 123 0=Option.some (0,Bool.false,1):=by kernel_rfl
@[simp] theorem ft123_0:ftI Tryz.prog 123 0=3:=by kernel_rfl
@[simp] theorem f123_1:fdI Tryz.prog 123 1=Option.some (1,Bool.false,1):=by kernel_rfl
@[simp] theorem ft123_1:ftI Tryz.prog 123 1=3:=by kernel_rfl
@[simp] theorem f123_2:fdI Tryz.prog 123 2=Option.some (2,Bool.false,1):=by kernel_rfl
@[simp] theorem ft123_2:ftI Tryz.prog 123 2=4:=by kernel_rfl
@[simp] theorem k126:kdI Tryz.prog 126=Option.some Go.AM.Kd.fn:=by kernel_rfl
@[simp] theorem t126:tyI Tryz.prog 126=Option.some (Bool.false,1):=by kernel_rfl
@[simp] theorem z126:zA Tryz.prog 126=Option.some (Go.AM.AV.v Go.Value.nilFunc):=by kernel_rfl
@[simp] theorem k127:kdI Tryz.prog 127=Option.some Go.AM.Kd.other:=by kernel_rfl
@[simp] theorem t127:tyI Tryz.prog 127=Option.some (Bool.false,1):=by kernel_rfl
@[simp] theorem a127:apI Tryz.prog 127=Option.none:=by kernel_rfl
@[simp] theorem z127:zA Tryz.prog 127=Option.none:=by kernel_rfl
@[simp] theorem k129:kdI Tryz.prog 129=Option.some Go.AM.Kd.ptr:=by kernel_rfl
@[simp] theorem t129:tyI Tryz.prog 129=Option.some (Bool.false,1):=by kernel_rfl
@[simp] theorem z129:zA Tryz.prog 129=Option.some (Go.AM.AV.v (Go.Value.pointer Option.none)):=by kernel_rfl
@[simp] theorem k131:kdI Tryz.prog 131=Option.some Go.AM.Kd.other:=by kernel_rfl
@[simp] theorem t131:tyI Tryz.prog 131=Option.some (Bool.true,2):=by kernel_rfl
@[simp] theorem a131:apI Tryz.prog 131=Option.some (2,32):=by kernel_rfl
@[simp] theorem z131:zA Tryz.prog 131=Option.some (Go.AM.AV.agg [Go.AM.AV.v (Go.Value.pointer Option.none),Go.AM.AV.lst Go.AM.Fl.nil 1 []]):=by kernel_rfl
@[simp] theorem S131:stI Tryz.prog 131=Option.some [(0,1),(1,1)]:=by kernel_rfl
@[simp] theorem r131:arI Tryz.prog 131=Option.none:=by kernel_rfl
@[simp] theorem f131_0:fdI Tryz.prog 131 0=Option.some (0,Bool.false,1):=by kernel_rfl
@[simp] theorem ft131_0:ftI Tryz.prog 131 0=129:=by kernel_rfl
@[simp] theorem f131_1:fdI Tryz.prog 131 1=Option.some (1,Bool.false,1):=by kernel_rfl
@[simp] theorem ft131_1:ftI Tryz.prog 131 1=23:=by kernel_rfl
@[simp] theorem k133:kdI Tryz.prog 133=Option.some Go.AM.Kd.other:=by kernel_rfl
@[simp] theorem t133:tyI Tryz.prog 133=Option.some (Bool.false,1):=by kernel_rfl
@[simp] theorem z133:zA Tryz.prog 133=Option.some (Go.AM.AV.v Go.Value.nilIface):=by kernel_rfl
@[simp] theorem k140:kdI Tryz.prog 140=Option.some Go.AM.Kd.fn:=by kernel_rfl
@[simp] theorem t140:tyI Tryz.prog 140=Option.some (Bool.false,1):=by kernel_rfl
@[simp] theorem z140:zA Tryz.prog 140=Option.some (Go.AM.AV.v Go.Value.nilFunc):=by kernel_rfl
@[simp] theorem k142:kdI Tryz.prog 142=Option.some Go.AM.Kd.fn:=by kernel_rfl
@[simp] theorem t142:tyI Tryz.prog 142=Option.some (Bool.false,1):=by kernel_rfl
@[simp] theorem z142:zA Tryz.prog 142=Option.some (Go.AM.AV.v Go.Value.nilFunc):=by kernel_rfl
@[simp] theorem k143:kdI Tryz.prog 143=Option.some (Go.AM.Kd.arr 4):=by kernel_rfl
@[simp] theorem t143:tyI Tryz.prog 143=Option.some (Bool.true,4):=by kernel_rfl
@[simp] theorem a143:apI Tryz.prog 143=Option.some (4,32):=by kernel_rfl
@[simp] theorem z143:zA Tryz.prog 143=Option.some (Go.AM.AV.agg [Go.AM.AV.v Go.Value.nilFunc,Go.AM.AV.v Go.Value.nilFunc,Go.AM.AV.v Go.Value.nilFunc,Go.AM.AV.v Go.Value.nilFunc]):=by kernel_rfl
@[simp] theorem S143:stI Tryz.prog 143=Option.none:=by kernel_rfl
@[simp] theorem r143:arI Tryz.prog 143=Option.some (4,102,Bool.false,1):=by kernel_rfl
@[simp] theorem k145:kdI Tryz.prog 145=Option.some Go.AM.Kd.other:=by kernel_rfl
@[simp] theorem t145:tyI Tryz.prog 145=Option.some (Bool.false,1):=by kernel_rfl
@[simp] theorem a145:apI Tryz.prog 145=Option.none:=by kernel_rfl
@[simp] theorem z145:zA Tryz.prog 145=Option.none:=by kernel_rfl
@[simp] theorem k146:kdI Tryz.prog 146=Option.some Go.AM.Kd.fn:=by kernel_rfl
@[simp] theorem t146:tyI Tryz.prog 146=Option.some (Bool.false,1):=by kernel_rfl
@[simp] theorem z146:zA Tryz.prog 146=Option.some (Go.AM.AV.v Go.Value.nilFunc):=by kernel_rfl
@[simp] theorem k147:kdI Tryz.prog 147=Option.some Go.AM.Kd.fn:=by kernel_rfl
@[simp] theorem t147:tyI Tryz.prog 147=Option.some (Bool.false,1):=by kernel_rfl
@[simp] theorem z147:zA Tryz.prog 147=Option.some (Go.AM.AV.v Go.Value.nilFunc):=by kernel_rfl
@[simp] theorem k151:kdI Tryz.prog 151=Option.some Go.AM.Kd.ptr:=by kernel_rfl
@[simp] theorem t151:tyI Tryz.prog 151=Option.some (Bool.false,1):=by kernel_rfl
@[simp] theorem z151:zA Tryz.prog 151=Option.some (Go.AM.AV.v (Go.Value.pointer Option.none)):=by kernel_rfl
@[simp] theorem k156:kdI Tryz.prog 156=Option.some Go.AM.Kd.other:=by kernel_rfl
@[simp] theorem t156:tyI Tryz.prog 156=Option.some (Bool.false,1):=by kernel_rfl
@[simp] theorem a156:apI Tryz.prog 156=Option.none:=by kernel_rfl
@[simp] theorem z156:zA Tryz.prog 156=Option.none:=by kernel_rfl
@[simp] theorem k159:kdI Tryz.prog 159=Option.some Go.AM.Kd.other:=by kernel_rfl
@[simp] theorem t159:tyI Tryz.prog 159=Option.some (Bool.false,1):=by kernel_rfl
@[simp] theorem a159:apI Tryz.prog 159=Option.some (1,8):=by kernel_rfl
@[simp] theorem z159:zA Tryz.prog 159=Option.some (Go.AM.AV.v (Go.Value.pointer Option.none)):=by kernel_rfl
@[simp] theorem k161:kdI Tryz.prog 161=Option.some Go.AM.Kd.int:=by kernel_rfl
@[simp] theorem t161:tyI Tryz.prog 161=Option.some (Bool.false,1):=by kernel_rfl
@[simp] theorem a161:apI Tryz.prog 161=Option.some (1,4):=by kernel_rfl
@[simp] theorem z161:zA Tryz.prog 161=Option.some (Go.AM.AV.v (Go.Value.int Go.IntKind.u32 0)):=by kernel_rfl
@[simp] theorem k162:kdI Tryz.prog 162=Option.some Go.AM.Kd.other:=by kernel_rfl
@[simp] theorem t162:tyI Tryz.prog 162=Option.some (Bool.false,1):=by kernel_rfl
@[simp] theorem a162:apI Tryz.prog 162=Option.none:=by kernel_rfl
@[simp] theorem z162:zA Tryz.prog 162=Option.none:=by kernel_rfl
@[simp] theorem k164:kdI Tryz.prog 164=Option.some Go.AM.Kd.int:=by kernel_rfl
@[simp] theorem t164:tyI Tryz.prog 164=Option.some (Bool.false,1):=by kernel_rfl
@[simp] theorem a164:apI Tryz.prog 164=Option.some (1,8):=by kernel_rfl
@[simp] theorem z164:zA Tryz.prog 164=Option.some (Go.AM.AV.v (Go.Value.int Go.IntKind.u64 0)):=by kernel_rfl
@[simp] theorem k165:kdI Tryz.prog 165=Option.some Go.AM.Kd.other:=by kernel_rfl
@[simp] theorem t165:tyI Tryz.prog 165=Option.some (Bool.false,1):=by kernel_rfl
@[simp] theorem a165:apI Tryz.prog 165=Option.none:=by kernel_rfl
@[simp] theorem z165:zA Tryz.prog 165=Option.none:=by kernel_rfl
@[simp] theorem k168:kdI Tryz.prog 168=Option.some Go.AM.Kd.fn:=by kernel_rfl
@[simp] theorem t168:tyI Tryz.prog 168=Option.some (Bool.false,1):=by kernel_rfl
@[simp] theorem z168:zA Tryz.prog 168=Option.some (Go.AM.AV.v Go.Value.nilFunc):=by kernel_rfl
@[simp] theorem c3_5:cvI Tryz.prog 3 5=Option.some (Go.AM.Cv.toInt Go.IntKind.u8):=by kernel_rfl
@[simp] theorem c3_88:cvI Tryz.prog 3 88=Option.some (Go.AM.Cv.toInt Go.IntKind.u64):=by kernel_rfl
@[simp] theorem c5_3:cvI Tryz.prog 5 3=Option.some (Go.AM.Cv.toInt Go.IntKind.i64):=by kernel_rfl
@[simp] theorem c23_9:cvI Tryz.prog 23 9=Option.some Go.AM.Cv.b2s:=by kernel_rfl
@[simp] theorem c27_3:cvI Tryz.prog 27 3=Option.some (Go.AM.Cv.toInt Go.IntKind.i64):=by kernel_rfl
@[simp] theorem c88_3:cvI Tryz.prog 88 3=Option.some (Go.AM.Cv.toInt Go.IntKind.i64):=by kernel_rfl
@[simp] theorem c88_161:cvI Tryz.prog 88 161=Option.some (Go.AM.Cv.toInt Go.IntKind.u32):=by kernel_rfl
@[simp] theorem c129_159:cvI Tryz.prog 129 159=Option.none:=by kernel_rfl
@[simp] theorem c159_129:cvI Tryz.prog 159 129=Option.none:=by kernel_rfl
@[simp] theorem c161_88:cvI Tryz.prog 161 88=Option.some (Go.AM.Cv.toInt Go.IntKind.u64):=by kernel_rfl
@[simp] theorem c161_164:cvI Tryz.prog 161 164=Option.some (Go.AM.Cv.toInt Go.IntKind.u64):=by kernel_rfl
@[simp] theorem c164_161:cvI Tryz.prog 164 161=Option.some (Go.AM.Cv.toInt Go.IntKind.u32):=by kernel_rfl
set_option linter.unusedSimpArgs false
set_option linter.unusedVariables false
set_option maxHeartbeats 8000000
set_option maxRecDepth 100000 in
theorem calls113 (s:ByteArray) (c:Int) (w:World):Calls Tryz.prog 96 #[.string s,.int .u8 c] w fun e w'=>e=.returned (.int .i64 (Lib.indexByte s.data.toList c.toNat.toUInt8))∧w'=w:=by
 go_enter Tryz.func96,Tryz.ntmps96
 go_wp2
 rw [run_callFunc_extern Tryz.func103 (by kernel_rfl) (by kernel_rfl) (by kernel_rfl) (e:=Extern.BytealgIndexByte.indexByte) (by kernel_rfl),Lib.run_indexByteString]
 simp only [Result.andThen]
 rw [Oper.upon_value]
 go_wp2
 go_ret
 exact ⟨rfl,rfl⟩
theorem vb5 (s:ByteArray) (c:Int):Sound Tryz.prog 96 [.v (.string s),.v (.int .u8 c)] (.v (.int .i64 (Lib.indexByte s.data.toList c.toNat.toUInt8))):=by
 refine zg6 (us:=[.string s,.int .u8 c]) ⟨_,Tryz.func96,by decide +kernel,by kernel_rfl⟩ fun w=>(calls113 s c w).mono ?_
 rintro e w' ⟨rfl,rfl⟩
 exact ⟨rfl,0,rfl⟩
theorem vn5 (s:ByteArray) (c:Int):Sound Tryz.prog 84 [.v (.string s),.v (.int .u8 c)] (.v (.int .i64 (Lib.indexByte s.data.toList c.toNat.toUInt8))):=by
 refine zh9 Tryz.func84 rfl (by decide +kernel) (by simp [Tryz.f84]) rfl rfl (rs:=[.tmp 4]) rfl ?_
 rw [show Tryz.f84.ntmps=8 from rfl]
 refine yt9 [0,1] (by simp;rfl) ?_
 refine W_rK [4] ?_
 refine yq9 2 (by simp;rfl) rfl ?_
 refine yd9 (by simp) (by first | (simp;done) | (simp;rfl)) (vb5 s c) (by simp;rfl) ?_
 refine yw9 (by simp;rfl) ?_
 refine yn9 ?_
 repeat (first | refine yg9 ?_ | refine yh9 ?_)
 simp [retQ]
def qd9 : List UInt8 := ([64, 90, 127, 123, 91, 108, 80, 125, 77, 93, 92, 78, 107, 96, 75, 97, 240, 241, 242, 243, 244, 245, 246, 247, 248, 249, 122, 94, 76, 126, 110, 111, 124, 193, 194, 195, 196, 197, 198, 199, 200, 201, 209, 210, 211, 212, 213] : List UInt8).append
 [214,215,216,217,226,227,228,229,230,231,232,233,186,224,187,176,109,121,129,130,131,132,133,134,135,136,137,145,146,147,148,149,150,151,152,153,162,163,164,165,166,167,168,169,192,79,208,161]
def chI (b:UInt8):Int:=Lib.indexByte qd9 b
def chM (b:UInt8):UInt8 × Bool:=if chI b < 0 then (0,false) else (UInt8.ofNat (32+(chI b).toNat),true)
theorem zl4 (b:UInt8):-1≤chI b∧chI b < 95:=by
 have:∀ n:Nat,n < 256→-1≤chI (UInt8.ofNat n)∧chI (UInt8.ofNat n) < 95:=by decide +kernel
 have h:=this b.toNat b.toNat_lt
 rwa [UInt8.ofNat_toNat] at h
theorem zk4 (b:UInt8):Sound Tryz.prog 63 [.v (.int .u8 b.toNat)] (.tup [.v (.int .u8 (chM b).1.toNat),.v (.bool (chM b).2)]):=by
 refine zh9 Tryz.func63 rfl (by decide +kernel) (by simp [Tryz.f63]) rfl rfl (rs:=[.tmp 2,.tmp 3]) rfl ?_
 rw [show Tryz.f63.ntmps=12 from rfl]
 have hib:=vn5 ⟨qd9.toArray⟩ b.toNat
 have hb:((b.toNat:Int).toNat.toUInt8)=b:=by rw [Int.toNat_natCast];exact UInt8.ofNat_toNat
 rw [hb,show (ByteArray.mk qd9.toArray).data.toList=qd9 from rfl,show Lib.indexByte qd9 b=chI b from rfl] at hib
 obtain ⟨c1,c2⟩:=zl4 b
 refine yt9 [0] (by simp;rfl) ?_
 refine W_rK [4] ?_
 refine yq9 1 (by simp;rfl) rfl ?_
 refine yd9 (f:=84) (args:=[.v (.string ⟨qd9.toArray⟩),.v (.int .u8 b.toNat)]) (by simp) (by simp;exact ⟨rfl,rfl⟩) hib (by simp;rfl) ?_
 refine yw9 (by simp;rfl) ?_
 refine yl9 ?_
 by_cases h:chI b < 0
 ·have hM:chM b=(0,false):=by rw [chM,if_pos h]
  refine W_cT [4,8] (by simp [h];rfl) rfl ?_
  refine yt9 [2,3] (by simp;rfl) ?_
  refine yn9 ?_
  repeat (first | refine yg9 ?_ | refine yh9 ?_)
  simp [retQ,hM]
 ·have hM : chM b = (UInt8.ofNat (32 + (chI b).toNat), true) := by rw [chM, if_neg h]
  have w1:IntKind.i64.wrap (32+chI b)=32+chI b:=w64 (by omega) (by omega)
  have w2:IntKind.u8.wrap (32+chI b)=((UInt8.ofNat (32+(chI b).toNat)).toNat:Nat):=by
   rw [UInt8.toNat_ofNat']
   simp only [IntKind.wrap_u8]
   omega
  refine W_cF [4,8] (by simp [h];rfl) rfl ?_
  refine yk9 ?_
  refine yt9 [2,3] (by simp [w1,w2];rfl) ?_
  refine yn9 ?_
  repeat (first | refine yg9 ?_ | refine yh9 ?_)
  simp [retQ,hM]
theorem u155:Tryz.prog.underlying 129=some (.pointer 131):=by kernel_rfl
theorem u184:Tryz.prog.underlying 159=some .unsafePointer:=by kernel_rfl
theorem info157:∃ j,Tryz.prog.info? 131=some j∧j.size=2:=Option.map_eq_some_iff.1 (show (Tryz.prog.info? 131).map (·.size)=some 2 by kernel_rfl)
set_option maxRecDepth 100000 in
theorem cc_used (b : Nat) (w : World) (h0 : w.cell? ⟨b, 0, none⟩ = some (.pointer (some ⟨b, 0, none⟩))) :
  Calls Tryz.prog 85 #[.pointer (some ⟨b,0,none⟩)] w fun e w'=>e=.returned (.tuple #[])∧w'=w:=by
 obtain ⟨j,hj,_⟩:=info157
 go_enter Tryz.func85,Tryz.ntmps85
 go_wp2
 rw [Lib.run_neq_ptr_same w _ u155 hj]
 go_wp2
 go_end0
 exact ⟨rfl,rfl⟩
set_option maxRecDepth 100000 in
theorem zb3 (b : Nat) (w : World) (h0 : w.cell? ⟨b, 0, none⟩ = some (.pointer none)) (hsh : w.shape? b = some (131, 2)) (hfz : w.frozen? ⟨b, 0, none⟩ = false) :
  Calls Tryz.prog 85 #[.pointer (some ⟨b,0,none⟩)] w fun e w'=>e=.returned (.tuple #[])∧w'=w.setCell ⟨b,0,none⟩ (.pointer (some ⟨b,0,none⟩)):=by
 obtain ⟨j,hj,hjs⟩:=info157
 go_enter Tryz.func85,Tryz.ntmps85
 go_wp2
 rw [Lib.run_to_unsafe w ⟨b,0,none⟩ u155 u184 hj (by rw [hjs];decide) hsh (Nat.zero_lt_succ 1)]
 simp only [Result.andThen]
 rw [Oper.upon_value]
 go_wp2
 rw [run_callFunc_extern Tryz.func97 (by kernel_rfl) (by kernel_rfl) (by kernel_rfl) (e:=Extern.AbiNoEscape.same) (by kernel_rfl)]
 rw [Lib.run_noEscape]
 simp only [Result.andThen]
 rw [Oper.upon_value]
 go_wp2
 rw [Lib.run_from_unsafe w ⟨b,0,none⟩ u184 u155 hj hsh (by kernel_rfl)]
 simp only [Result.andThen]
 rw [Oper.upon_value]
 go_wp2
 go_end0
 exact ⟨rfl,rfl⟩
theorem st155 (b : Nat) (w : World) (h0 : w.cell? ⟨b, 0, none⟩ = some (.pointer none)) (hfz : w.frozen? ⟨b, 0, none⟩ = false) :
  (Instr.storeAt 129 (.pointer (some ⟨b,0,none⟩)) (.pointer (some ⟨b,0,none⟩))).run Tryz.prog w=.ok () (w.setCell ⟨b,0,none⟩ (.pointer (some ⟨b,0,none⟩))):=by
 simp [Instr.storeAt,storeVar,go_sem,h0,hfz]
theorem xt6 {h:List AObj} {id:Nat} {x:AV} (hid:h[id]?=some (.cells 131 [.v (.pointer none),x])):wf9 Tryz.prog 85 [.loc id 0] h fun r h'=>r=.tup []∧h'=h.set id (.cells 131 [.loc id 0,x]):=by
 refine ⟨⟨_,Tryz.func85,by decide +kernel,by kernel_rfl⟩,fun F n c w vals hF hro hb hdf hh ra=>?_⟩
 cases ra with
 | cons hr ho hl =>
 cases hl
 cases hr with
 | loc hno =>
 obtain ⟨hbase,hpm,how,cur,hcur,hlen,hcc⟩:=hh.obj id _ hid
 have hc0:cur.getD 0 undef=.pointer none:=(hcc 0 _ rfl).1.v_inv
 have hsz:cur.size=2:=by rw [← hlen];rfl
 have hcell:w.cell? ⟨c.ob id,0,none⟩=some (.pointer none):=by
  rw [Array.getD_eq_getD_getElem?,Array.getElem?_eq_getElem (by omega)] at hc0
  simp only [World.cell?,hcur,Option.isSome_none,Bool.false_eq_true,if_false]
  rw [Array.getElem?_eq_getElem (by omega)]
  exact congrArg some hc0
 have hsh:w.shape? (c.ob id)=some (131,2):=by simp [World.shape?,hcur,hsz]
 have hfz:w.frozen? ⟨c.ob id,0,none⟩=false:=by simp [World.frozen?,hcur]
 have hs0:SimSt Tryz.prog c w ⟨0,[],h⟩ { tmps:=#[],defers:=[] }:=⟨rfl,hb,fun i x hx=>(by cases hx),hh,⟨[],rfl,.nil,by simp⟩⟩
 obtain ⟨w1,hrun,hext,hsim⟩:=zm7 (t:=129) (addr:=.loc id 0) (x:=.loc id 0) (s':=⟨0,[],h.set id (.cells 131 [.loc id 0,x])⟩) hs0 (by simp [jl8,hid,AV.cellsK,AV.kone,AV.koneL,yf9]) (Rep.loc hno) (Rep.loc hno) (.none rfl)
 rw [st155 _ _ hcell hfz] at hrun
 cases hrun
 refine (vg9 hF (zb3 (c.ob id) w hcell hsh hfz)).mono ?_
 rintro e w' ⟨rfl,rfl⟩
 exact ⟨_,c,.tup [],_,rfl,⟨rfl,rfl⟩,hext,hsim.h,.tup rfl (by simp),.none rfl⟩
theorem qv6 {h:List AObj} {id:Nat} {x:AV} (hid:h[id]?=some (.cells 131 [.loc id 0,x])):wf9 Tryz.prog 85 [.loc id 0] h fun r h'=>r=.tup []∧h'=h:=by
 refine ⟨⟨_,Tryz.func85,by decide +kernel,by kernel_rfl⟩,fun F n c w vals hF hro hb hdf hh ra=>?_⟩
 cases ra with
 | cons hr ho hl =>
 cases hl
 cases hr with
 | loc hno =>
 obtain ⟨hbase,hpm,how,cur,hcur,hlen,hcc⟩:=hh.obj id _ hid
 have hsz:cur.size=2:=by rw [← hlen];rfl
 have hc0:cur.getD 0 undef=.pointer (some ⟨c.ob id,0,none⟩):=by
  have:=(hcc 0 _ rfl).1
  generalize cur.getD 0 undef=u0 at this
  cases this
  rfl
 have hcell:w.cell? ⟨c.ob id,0,none⟩=some (.pointer (some ⟨c.ob id,0,none⟩)):=by
  rw [Array.getD_eq_getD_getElem?,Array.getElem?_eq_getElem (by omega)] at hc0
  simp only [World.cell?,hcur,Option.isSome_none,Bool.false_eq_true,if_false]
  rw [Array.getElem?_eq_getElem (by omega)]
  exact congrArg some hc0
 refine (vg9 hF (cc_used (c.ob id) w hcell)).mono ?_
 rintro e w' ⟨rfl,rfl⟩
 exact ⟨_,c,.tup [],_,rfl,⟨rfl,rfl⟩,Ext.refl c _,hh,.tup rfl (by simp),.none rfl⟩
def bldX (x:AV) (l:List UInt8):Prop:=(l=[]∧x=.lst .nil 1 [])∨(l≠[]∧x=.lst (.tip 5 29) 1 (byL l))
theorem qg5 (p x : AV) (l : List UInt8) (c : UInt8) (hp : p = .v (.pointer none) ∨ p = .loc 0 0) (hx : bldX x l) (hl : l.length ≤ 1000000) :
  wf9 Tryz.prog 64 [.loc 0 0,.v (.int .u8 c.toNat)] [.cells 131 [p,x]] fun r h'=>r=.v .nilIface∧∃ x',bldX x' (l++[c])∧h'=[.cells 131 [.loc 0 0,x']]:=by
 refine zv9 Tryz.func64 rfl (by decide +kernel) (by simp [Tryz.f64]) (rs:=[.tmp 4]) rfl ?_
 rw [show Tryz.f64.ntmps=17 from rfl]
 have hcc:wf9 Tryz.prog 85 [.loc 0 0] [.cells 131 [p,x]] fun r h'=>r=.tup []∧h'=[.cells 131 [.loc 0 0,x]]:=by
  rcases hp with rfl | rfl
  ·exact xt6 (id:=0) (x:=x) rfl
  ·exact qv6 (id:=0) (x:=x) rfl
 refine yt9 [0,1] (by simp;rfl) ?_
 refine W_rK [0,1] ?_
 refine yq9 1 (by simp;rfl) rfl ?_
 refine zr9 (f:=85) (args:=[.loc 0 0]) (by simp) (by simp) (hcc.mono ?_)
 rintro r h' ⟨rfl,rfl⟩
 refine ⟨_,by simp;rfl,?_⟩
 refine yw9 (by simp;rfl) ?_
 have fin:∀ x',bldX x' (l++[c])→retW Tryz.prog [.tmp 4] 1 (fun r h'=>r=.v .nilIface∧∃ x',bldX x' (l++[c])∧h'=[.cells 131 [.loc 0 0,x']]) .ret ⟨17,[(4,.v .nilIface)],[.cells 131 [.loc 0 0,x']]⟩:=by
  intro x' h1
  refine ⟨.inr rfl,.v .nilIface,.v .nilIface,_,1,rfl,.inl ⟨rfl,rfl⟩,by simp,by simp,rfl,?_,rfl,x',h1,rfl⟩
  rcases h1 with ⟨h2,rfl⟩ | ⟨h2,rfl⟩ <;> simp [yc9,AObj.under,AV.underL,AV.under]
 rcases hx with ⟨rfl,rfl⟩ | ⟨hne,rfl⟩
 ·refine yt9 [] (by simp [yf9,catK,AV.cellsK,AV.kone,AV.koneL];rfl) ?_
  refine yt9 [4] (by simp;rfl) ?_
  refine yn9 ?_
  repeat (first | refine yg9 ?_ | refine yh9 ?_)
  have:=fin (.lst (.tip 5 29) 1 (byL ([]++[c]))) (.inr ⟨by simp,rfl⟩)
  simpa [byL] using this
 ·refine yt9 [] (by simp [yf9,catK,AV.cellsK,AV.kone,AV.koneL,show l.length+1≤140737488355328 by omega];rfl) ?_
  refine yt9 [4] (by simp;rfl) ?_
  refine yn9 ?_
  repeat (first | refine yg9 ?_ | refine yh9 ?_)
  have:=fin (.lst (.tip 5 29) 1 (byL (l++[c]))) (.inr ⟨by simp,rfl⟩)
  simpa [byL] using this
theorem u177:Tryz.prog.underlying 151=some (.pointer 5):=by kernel_rfl
set_option maxRecDepth 100000 in
theorem str_ne (b g cap : Nat) (p : Value) (cur : Array Value) (l : List UInt8) (w : World) (h0 : l ≠ []) (hbk : w.heap[b]? = some (.cells #[p, .slice (some ⟨g, 0, none⟩) l.length cap] 131 (0, 0))) (hg : w.heap[g]? = some (.cells cur 5 (0, 0)))
  (hc:l.length≤cap) (hcm:cap≤maxLen) (hcs:cur.size=cap) (hcell:∀ (j:Nat) (x:UInt8),l[j]?=some x→w.cell? ⟨g,j,none⟩=some (.int .u8 x.toNat)) :
  Calls Tryz.prog 65 #[.pointer (some ⟨b,0,none⟩)] w fun e w'=>e=.returned (.string ⟨l.toArray⟩)∧w'=w.drew.freeze ⟨g,0,none⟩ l.length:=by
 have hl0:l.length≠0:=by simpa using h0
 have c1:w.drew.cell? ⟨b,1,none⟩=some (.slice (some ⟨g,0,none⟩) l.length cap):=by
  have:w.drew.heap[b]?=some (.cells #[p,.slice (some ⟨g,0,none⟩) l.length cap] 131 (0,0)):=hbk
  rw [Lib.cell_of_heap this];rfl
 have hSD:(Builtin.unsafeSliceData_ #[23] 151 #[.slice (some ⟨g,0,none⟩) l.length cap]).run Tryz.prog w.drew=.ok (.pointer (some ⟨g,0,none⟩)) w.drew :=
  Lib.run_unsafeSliceData_row _ _ _ _ _ _ (by omega)
 have hUS:(Builtin.unsafeString_ #[151,3] 9 #[.pointer (some ⟨g,0,none⟩),.int .i64 l.length]).run Tryz.prog w.drew=.ok (.string ⟨l.toArray⟩) (w.drew.freeze ⟨g,0,none⟩ l.length):=by
  refine Lib.run_unsafeString_row w.drew 151 3 9 5 u177 (by kernel_rfl) g cur.size (by have hg':w.drew.heap[g]?=some (.cells cur 5 (0,0)):=hg;simp [World.shape?,hg']) l h0 (by omega) (by unfold maxLen at hcm;omega) ?_
  intro j x hx
  have hz:(⟨g,0,none⟩:Addr).add j=⟨g,j,none⟩:=by
   simp only [Addr.add,Nat.zero_add]
   split
   ·rename_i h;rw [h]
   ·rfl
  rw [hz]
  exact hcell j x hx
 have mixed:=mx
 go_enter Tryz.func65,Tryz.ntmps65
 go_wp2
 go_region_o
 all_goals (go_wp2;go_ret;exact ⟨rfl,rfl⟩)
set_option maxRecDepth 100000 in
theorem str_nil (b : Nat) (p : Value) (w : World) (hbk : w.heap[b]? = some (.cells #[p, .slice none 0 0] 131 (0, 0))) :
  Calls Tryz.prog 65 #[.pointer (some ⟨b,0,none⟩)] w fun e w'=>e=.returned (.string ⟨#[]⟩)∧w'=w.drew:=by
 have hUS:=Lib.run_unsafeString_none (P:=Tryz.prog) w.drew 151 3 9 none
 have c1:w.drew.cell? ⟨b,1,none⟩=some (.slice none 0 0):=by
  have:w.drew.heap[b]?=some (.cells #[p,.slice none 0 0] 131 (0,0)):=hbk
  rw [Lib.cell_of_heap this];rfl
 have hSD:(Builtin.unsafeSliceData_ #[23] 151 #[.slice none 0 0]).run Tryz.prog w.drew=.ok (.pointer none) w.drew:=rfl
 have mixed:=mx
 go_enter Tryz.func65,Tryz.ntmps65
 go_wp2
 go_region_o
 all_goals (go_wp2;go_ret;exact ⟨rfl,rfl⟩)
theorem wh4 (p x:AV) (l:List UInt8) (hx:bldX x l):wf9 Tryz.prog 65 [.loc 0 0] [.cells 131 [p,x]] fun r h'=>r=.v (.string ⟨l.toArray⟩)∧h'=[.dead]:=by
 refine ⟨⟨_,Tryz.func65,by decide +kernel,by kernel_rfl⟩,fun F n c w vals hF hro hb hdf hh ra=>?_⟩
 cases ra with
 | cons hr ho hl =>
 cases hl
 cases hr with
 | loc hno =>
 obtain ⟨hbase,hpm,how,cur,hcur,hlen,hcc⟩:=hh.obj 0 _ rfl
 have hsz:cur.size=2:=by rw [← hlen];rfl
 obtain ⟨hrv,hov,_⟩:=hcc 1 x rfl
 obtain ⟨v,hv⟩:∃ v,cur.getD 1 undef=v:=⟨_,rfl⟩
 obtain ⟨p0,hp0⟩:∃ v,cur.getD 0 undef=v:=⟨_,rfl⟩
 rw [hv] at hrv hov
 have hcur2:cur=#[p0,v]:=by
  apply Array.ext
  ·simp [hsz]
  ·intro i h1 h2
   have hi:i=0∨i=1:=by omega
   rcases hi with rfl | rfl
   ·simp [Array.getD,hsz] at hp0;simpa using hp0
   ·simp [Array.getD,hsz] at hv;simpa using hv
 rw [hcur2] at hcur
 have hdead:∀ w':World,w.heap.size≤w'.heap.size→HSim Tryz.prog c w' [.dead]:=fun w' hs'=>⟨by rw [hh.no];rfl,fun i hi=>Nat.lt_of_lt_of_le (hh.lt i hi) hs',hh.inj,fun i o hi=>by
  cases i with
  | zero=>simp at hi;subst hi;trivial
  | succ i=>simp at hi⟩
 rcases hx with ⟨rfl,rfl⟩ | ⟨hne,rfl⟩
 ·obtain ⟨a, m, cap, u, rfl, hn, hcap, hmax, _, _, _, hz, hfit, _, _⟩ := wg9 hrv
  have ha:a=none:=by
   simp [Fl.fits] at hfit
   first | exact hfit | exact hfit.1
  obtain ⟨rfl,rfl⟩:=hz ha
  subst ha
  refine (vg9 hF (str_nil (c.ob 0) p0 w hcur)).mono ?_
  rintro e w' ⟨rfl,rfl⟩
  exact ⟨_,c,.v (.string ⟨#[]⟩),_,rfl,⟨rfl,rfl⟩,wl9 c w,hdead _ (Nat.le_refl _),.v _,.none rfl⟩
 ·obtain ⟨a, m, cap, u, rfl, hn, hcap, hmax, _, _, _, hz, hfit, hcell, hrep⟩ := wg9 hrv
  have hm:m=l.length:=by rw [← hn];simp
  have hl0:l.length≠0:=by simpa using hne
  have hca:Tryz.prog.cellsOf 5=1:=by kernel_rfl
  have htip:ww5 Tryz.prog c w 5 29 a m cap:=by
   cases hov with
   | none h=>simp [AV.tl] at h
   | tip hT hs h=>exact h
  rcases htip with ⟨_,h0,_⟩ | ⟨g,cur2,rfl,hgb,hg,hgs,hgpm,_,_⟩
  ·omega
  rw [hca] at hgs hgpm
  subst hm
  have hce:∀ (j:Nat) (x:UInt8),l[j]?=some x→w.cell? ⟨g,j,none⟩=some (.int .u8 x.toNat):=by
   intro j x hj
   have hjl:j < l.length:=(List.getElem?_eq_some_iff.1 hj).1
   have h1:=(hcell _ j rfl (by omega)).1
   have hz:(⟨g,0,none⟩:Addr).add j=⟨g,j,none⟩:=by
    simp only [Addr.add,Nat.zero_add]
    split
    ·rename_i h;rw [h]
    ·rfl
   rw [hz] at h1
   have h2:=hrep j 0 (.v (.int .u8 x.toNat)) (.v (.int .u8 x.toNat)) (by simp [byL,hj]) rfl
   rw [h1]
   have:=h2.v_inv
   rw [Nat.mul_one,Nat.add_zero] at this
   rw [this]
  refine (vg9 hF (str_ne (c.ob 0) g cap p0 cur2 l w hne hcur hg hcap hmax (by omega) hce)).mono ?_
  rintro e w' ⟨rfl,rfl⟩
  have hext:Ext c w.drew c (w.drew.freeze ⟨g,0,none⟩ l.length):=by
   have hgl:g < w.drew.heap.size:=by
    have h3:w.drew.heap[g]?=some (.cells cur2 5 (0,0)):=hg
    exact (Array.getElem?_eq_some_iff.1 h3).1
   unfold World.freeze
   rw [if_neg hl0]
   refine { base:=rfl,os:=rfl,tape:=rfl,output:=rfl,size:=by simp,below:=fun b hb2=>?_,cell:=fun ad v hp hv=>?_,pm:=fun _ _=>Nat.le_refl _,pmb:=fun _ _=>rfl,owb:=fun _ _=>rfl,no:=Nat.le_refl _,ob:=fun _ _=>rfl,dfr:=fun b hb2=>?_ }
   ·have hne2:g≠b:=fun h=>hb2 (h ▸ hgb)
    simp [Array.getElem?_modify,hne2]
   ·by_cases hgb2 : g = ad.block
    ·have h3:w.drew.heap[ad.block]?=some (.cells cur2 5 (0,0)):=hgb2 ▸ hg
     simp only [World.cell?,Array.getElem?_modify,hgb2,if_true,h3] at hv ⊢
     exact hv
    ·simp only [World.cell?,Array.getElem?_modify,hgb2,if_false] at hv ⊢
     exact hv
   ·by_cases hgb2 : g = b
    ·have h3:w.drew.heap[b]?=some (.cells cur2 5 (0,0)):=hgb2 ▸ hg
     rw [h3] at hb2
     cases hb2
    ·simp [Array.getElem?_modify,hgb2,hb2]
  exact ⟨_,c,.v (.string ⟨l.toArray⟩),_,rfl,⟨rfl,rfl⟩,(wl9 c w).trans hext,hdead _ hext.size,.v _,.none rfl⟩
def dec1 (b:UInt8):UInt8:=if (chM b).2 then (chM b).1 else 46
def decM (l:List UInt8):List UInt8:=l.map dec1
def strB (l:List UInt8):AV:=.v (.string ⟨l.toArray⟩)
theorem xl8 (l:List UInt8) (hl:l.length≤100000):Sound Tryz.prog 31 [.lst .any 1 (byL l)] (strB (decM l)):=by
 refine zh9 Tryz.func31 rfl (by decide +kernel) (by simp [Tryz.f31]) rfl rfl (rs:=[.tmp 2]) rfl ?_
 rw [show Tryz.f31.ntmps=25 from rfl]
 refine yt9 [0] (by simp;rfl) ?_
 refine yt9 [0,3] (by simp;rfl) ?_
 refine yl9 ?_
 refine yt9 [3,8,9,10] (by simp;rfl) ?_
 refine ys9 ?_
 refine zl9 (fun k s => ∃ (i : Nat) (p x : AV), k = l.length - i ∧ i ≤ l.length ∧ (p = .v (.pointer none) ∨ p = .loc 0 0) ∧ bldX x (decM (l.take i)) ∧
  s=⟨25,[(3,.loc 0 0),(8,.lst .any 1 (byL l)),(9,.v (.int .i64 (l.length:Nat))),(10,.v (.int .i64 (i:Nat)))],[.cells 131 [p,x]]⟩) (k:=l.length) ⟨0,_,_,rfl,by omega,.inl rfl,.inl ⟨rfl,rfl⟩,by simp⟩ ?_
 rintro k s ⟨i,p,x,rfl,hi,hp,hx,rfl⟩
 by_cases c:i < l.length
 ·have ci : (i : Int) < l.length := by omega
  obtain ⟨b,hb⟩:∃ b,l[i]?=some b:=⟨_,List.getElem?_eq_getElem c⟩
  have hb2:l[i]'c=b:=by rw [List.getElem?_eq_getElem c] at hb;exact Option.some.inj hb
  have wi:=w64 (n:=(i:Int)+1) (by omega) (by omega)
  have htk:decM (l.take (i+1))=decM (l.take i)++[dec1 b]:=by
   rw [List.take_add_one,hb];simp [decM]
  have hlen:(decM (l.take i)).length≤1000000:=by simp [decM];omega
  refine yt9 [3,8,9,10,11] (by simp [c];rfl) ?_
  refine yl9 ?_
  refine yp9 rfl (fun h=>?_) (fun h=>by simp at h)
  refine yk9 ?_
  refine yl9 ?_
  refine ys9 ?_
  refine yt9 [3,8,9,10,5] (by simp [c,ci,hb2];rfl) ?_
  refine W_rK [3,8,9,10,6,7] ?_
  refine yq9 1 (by simp;rfl) rfl ?_
  refine yd9 (by simp) (by first | (simp;done) | (simp;rfl)) (zk4 b) (by simp;rfl) ?_
  refine yw9 (by simp;rfl) ?_
  refine yl9 ?_
  have fin : ∀ (h' : List AObj), (∃ x', bldX x' (decM (l.take i) ++ [dec1 b]) ∧ h' = [.cells 131 [.loc 0 0, x']]) →
    ∃ k', k' < l.length - i ∧ ∃ (i' : Nat) (p x : AV), k' = l.length - i' ∧ i' ≤ l.length ∧ (p = .v (.pointer none) ∨ p = .loc 0 0) ∧ bldX x (decM (l.take i')) ∧
     (⟨25,[(3,.loc 0 0),(8,.lst .any 1 (byL l)),(9,.v (.int .i64 (l.length:Nat))),(10,.v (.int .i64 ((i:Int)+1)))],h'⟩:St)=⟨25,[(3,.loc 0 0),(8,.lst .any 1 (byL l)),(9,.v (.int .i64 (l.length:Nat))),(10,.v (.int .i64 (i':Nat)))],[.cells 131 [p,x]]⟩:=by
   rintro h' ⟨x',hx',rfl⟩
   exact ⟨_,by omega,i+1,_,x',rfl,by omega,.inr rfl,by rw [htk];exact hx',by simp⟩
  cases hok:(chM b).2 with
  | false =>
   have hd:dec1 b=46:=by simp [dec1,hok]
   rw [hd] at fin
   refine W_cT [3,8,9,10,6,20] (by simp [hok];rfl) rfl ?_
   refine zq9 [3,8,9,10,6] (by simp;rfl) ?_
   refine W_rE [3,8,9,10] ?_
   refine yq9 1 (by simp;rfl) rfl ?_
   refine zr9 (f:=64) (args:=[.loc 0 0,.v (.int .u8 (46:UInt8).toNat)]) (by simp) (by first | (simp;done) | (simp;rfl)) ((qg5 p x _ 46 hp hx hlen).mono ?_)
   rintro r h' ⟨rfl,hx'⟩
   refine ⟨_,by simp;rfl,?_⟩
   refine yw9 (by simp;rfl) ?_
   refine zq9 [3,8,9,10] (by simp [wi];rfl) ?_
   exact fin _ hx'
  | true =>
   have hd:dec1 b=(chM b).1:=by simp [dec1,hok]
   rw [hd] at fin
   refine W_cF [3,8,9,10,6,20] (by simp [hok];rfl) rfl ?_
   refine yk9 ?_
   refine W_rE [3,8,9,10] ?_
   refine yq9 1 (by simp;rfl) rfl ?_
   refine zr9 (f:=64) (args:=[.loc 0 0,.v (.int .u8 (chM b).1.toNat)]) (by simp) (by first | (simp;done) | (simp;rfl)) ((qg5 p x _ (chM b).1 hp hx hlen).mono ?_)
   rintro r h' ⟨rfl,hx'⟩
   refine ⟨_,by simp;rfl,?_⟩
   refine yw9 (by simp;rfl) ?_
   refine zq9 [3,8,9,10] (by simp [wi];rfl) ?_
   exact fin _ hx'
 have hie:i=l.length:=by omega
 subst hie
 rw [List.take_length] at hx
 refine yt9 [3,8,9,10,11] (by simp;rfl) ?_
 refine yl9 ?_
 refine yp9 rfl (fun h=>by simp at h) (fun h=>?_)
 refine zj9 ?_
 refine W_rK [2] ?_
 refine zr9 (f:=65) (args:=[.loc 0 0]) (by simp) (by first | (simp;done) | (simp;rfl)) ((wh4 p x _ hx).mono ?_)
 rintro r h' ⟨rfl,rfl⟩
 refine ⟨_,by simp;rfl,?_⟩
 refine yw9 (by simp;rfl) ?_
 refine yn9 ?_
 repeat (first | refine yg9 ?_ | refine yh9 ?_)
 simp [retQ,strB]
def uk8 (l:List UInt8):List UInt8:=(l.reverse.dropWhile (· == 64)).reverse
theorem yj7 (l:List UInt8) (n:Nat) (hn:n≤l.length) (h:∀ (j:Nat) (b:UInt8),n≤j→l[j]?=some b→b=64) (hs:n=0∨∃ b,l[n - 1]?=some b∧b≠64):uk8 l=l.take n:=by
 have hsp:l=l.take n++List.replicate (l.length - n) 64:=by
  apply List.ext_getElem?
  intro j
  by_cases hj:j < n
  ·rw [List.getElem?_append_left (by simp;omega),List.getElem?_take,if_pos hj]
  ·rw [List.getElem?_append_right (by simp; omega), List.getElem?_replicate]
   have hlt:(l.take n).length=n:=by simp;omega
   rw [hlt]
   by_cases hj2:j < l.length
   ·rw [if_pos (by omega),List.getElem?_eq_getElem hj2]
    exact congrArg some (h j _ (by omega) (List.getElem?_eq_getElem hj2))
   ·rw [if_neg (by omega),List.getElem?_eq_none (by omega)]
 have hrev:l.reverse=List.replicate (l.length - n) 64++(l.take n).reverse:=by
  conv=>lhs;rw [hsp]
  rw [List.reverse_append,List.reverse_replicate]
 have hdw:∀ (k:Nat) (r:List UInt8),(List.replicate k (64:UInt8)++r).dropWhile (· == 64)=r.dropWhile (· == 64):=by
  intro k r
  induction k with
  | zero=>simp
  | succ k ih=>rw [List.replicate_succ,List.cons_append,List.dropWhile_cons];simp
 unfold uk8
 rw [hrev,hdw]
 rcases hs with rfl | ⟨b,hb,hne⟩
 ·simp
 ·have hn0:0 < n:=by
   rcases Nat.eq_zero_or_pos n with h0 | h0
   ·subst h0
    simp at hb
    have:=h 0 b (Nat.le_refl _) (by simpa using hb)
    exact absurd this hne
   ·exact h0
  have hbl:l[n - 1]'(by omega)=b:=by
   have:=List.getElem?_eq_getElem (l:=l) (i:=n - 1) (by omega)
   rw [this] at hb
   exact Option.some.inj hb
  have:(l.take n).reverse=b :: (l.take (n - 1)).reverse:=by
   have h2:l.take n=l.take (n - 1)++[b]:=by
    have h3:n - 1+1=n:=by omega
    rw [← h3,List.take_add_one]
    rw [Nat.add_sub_cancel,hb]
    rfl
   rw [h2,List.reverse_append]
   rfl
  rw [this,List.dropWhile_cons]
  simp only [beq_iff_eq,hne,if_false]
  rw [← this,List.reverse_reverse]
theorem xl7 (l:List UInt8) (hl:l.length≤100000):Sound Tryz.prog 35 [.lst .any 1 (byL l)] (strB (decM (uk8 l))):=by
 refine zh9 Tryz.func35 rfl (by decide +kernel) (by simp [Tryz.f35]) rfl rfl (rs:=[.tmp 2]) rfl ?_
 rw [show Tryz.f35.ntmps=22 from rfl]
 refine yt9 [0] (by simp;rfl) ?_
 refine yt9 [0,3] (by simp;rfl) ?_
 refine yl9 ?_
 refine ys9 ?_
 refine zl9 (fun k s=>k≤l.length∧(∀ (j:Nat) (b:UInt8),k≤j→l[j]?=some b→b=64)∧s=⟨22,[(0,.lst .any 1 (byL l)),(3,.v (.int .i64 (k:Nat)))],[]⟩) (k:=l.length) ⟨Nat.le_refl _,fun j b hj hb=>by have:=(List.getElem?_eq_some_iff.1 hb).1;omega,by simp⟩ ?_
 rintro k s ⟨hk,hall,rfl⟩
 refine yl9 ?_
 have done:uk8 l=l.take k→∀ σ,σ=(⟨22,[(0,.lst .any 1 (byL l)),(3,.v (.int .i64 (k:Nat)))],[]⟩:St)→True:=fun _ _ _=>trivial
 by_cases k0:k=0
 ·subst k0
  have hT:uk8 l=[]:=by rw [yj7 l 0 (by omega) hall (.inl rfl)];rfl
  refine W_cF [0,3,15] (by simp;rfl) rfl ?_
  refine zj9 ?_
  refine W_rK [2] ?_
  refine yq9 3 (by simp [← xf9];rfl) rfl ?_
  refine yd9 (by simp) (by first | (simp;done) | (simp;rfl)) (show Sound Tryz.prog 31 [.lst .any 1 []] (strB (decM [])) from xl8 [] (by simp)) (by simp [strB];rfl) ?_
  refine yw9 (by simp;rfl) ?_
  refine yn9 ?_
  repeat (first | refine yg9 ?_ | refine yh9 ?_)
  simp [retQ,strB,hT]
 have kp:0 < k:=by omega
 have kp':(0:Int) < k:=by omega
 have wk:IntKind.i64.wrap ((k:Int) - 1)=((k - 1:Nat):Int):=by rw [w64 (by omega) (by omega)];omega
 obtain ⟨b,hb⟩:∃ b,l[k - 1]?=some b:=⟨_,List.getElem?_eq_getElem (by omega)⟩
 have hbb:(byL l)[k - 1]?=some (.v (.int .u8 b.toNat)):=by simp [byL,hb]
 have hb2:l[k - 1]'(by omega)=b:=by rw [List.getElem?_eq_getElem (by omega)] at hb;exact Option.some.inj hb
 have hkl:k - 1 < l.length:=by omega
 by_cases h64:b=64
 ·subst h64
  refine W_cT [0,3,15] (by simp [kp,kp',wk,hb2,hkl];rfl) rfl ?_
  refine yk9 ?_
  refine ys9 ?_
  refine zq9 [0,3] (by simp [wk];rfl) ?_
  refine ⟨k - 1,by omega,by omega,fun j b2 hj hb3=>?_,rfl⟩
  by_cases hjk:j=k - 1
  ·subst hjk
   rw [hb] at hb3
   exact (Option.some.inj hb3).symm
  ·exact hall j b2 (by omega) hb3
 ·have hT : uk8 l = l.take k := yj7 l k hk hall (.inr ⟨b, hb, h64⟩)
  have h64':((b.toNat:Int) == 64)=false:=by
   rw [beq_eq_false_iff_ne]
   intro h
   apply h64
   apply UInt8.toNat_inj.1
   show b.toNat=64
   omega
  refine W_cF [0,3,15] (by simp [kp,kp',wk,hb2,hkl,h64'];rfl) rfl ?_
  refine zj9 ?_
  refine W_rK [2] ?_
  refine yq9 3 (by simp [← xf9,hk];rfl) rfl ?_
  refine yd9 (by simp) (by first | (simp;done) | (simp;rfl)) (xl8 (l.take k) (by simp;omega)) (by simp [strB];rfl) ?_
  refine yw9 (by simp;rfl) ?_
  refine yn9 ?_
  repeat (first | refine yg9 ?_ | refine yh9 ?_)
  simp [retQ,strB,hT]
def okC (r:Int):Bool:=decide (65≤r∧r≤90) || decide (48≤r∧r≤57) || decide (r=64) || decide (r=35) || decide (r=36)
theorem qh6 (r:Int):Sound Tryz.prog 102 [.v (.int .i32 r)] (.v (.bool (!okC r))):=by
 refine zh9 Tryz.func102 rfl (by decide +kernel) (by simp [Tryz.f102]) rfl rfl (rs:=[.tmp 2]) rfl ?_
 rw [show Tryz.f102.ntmps=29 from rfl]
 have e5:(r != 64)=!decide (r=64):=by by_cases h:r=64 <;> simp [h]
 have e6:(r != 35)=!decide (r=35):=by by_cases h:r=35 <;> simp [h]
 have e7:(r != 36)=!decide (r=36):=by by_cases h:r=36 <;> simp [h]
 refine yt9 [0] (by simp;rfl) ?_
 by_cases h1 : r < 65 <;> by_cases h2 : 90 < r <;> by_cases h3 : r < 48 <;> by_cases h4 : 57 < r <;> by_cases h5 : r = 64 <;> by_cases h6 : r = 35 <;> by_cases h7 : r = 36 <;>
  first
  | omega
  | (refine W_rK [2] ?_
     refine yq9 9 (by simp [h1,h2,h3,h4];rfl) rfl ?_
     refine yq9 9 (by simp [h1,h2,h3,h4,h5,h6,h7,e5,e6,e7];rfl) rfl ?_
     refine yw9 (by simp [h5,h6,h7,e5,e6,e7];rfl) ?_
     refine yn9 ?_
     repeat (first | refine yg9 ?_ | refine yh9 ?_)
     have hok:okC r=!(!okC r):=by simp
     simp [retQ,okC,h1,h2,h3,h4,h5,h6,h7]
     try omega)
theorem xp6 {P:Program} {f:FuncId} {us:List Value} {u:Value} (h:Sound P f (us.map .v) (.v u)) (w:World):Calls P f us.toArray w fun e w'=>e=.returned u∧Below w.heap.size w w':=by
 have hr:∀ (us:List Value) (c:Ctx),RepL P c w (us.map .v) us:=fun us c=>by
  induction us with
  | nil=>exact .nil
  | cons u us ih=>exact .cons (.v u) (.none rfl) ih
 have:=h.2 Fence.wide 0 ⟨fun b=>w.heap.size≤b,fun _=>0,fun _=>0,0,fun _=>0⟩ w us 1 yn5 rfl rfl (fun b hb=>hb) (hr us _)
 refine (callsIn_wide.1 this).mono ?_
 rintro e w' ⟨u',c',rfl,hp,hrep,_⟩
 have:=hrep.v_inv
 subst this
 exact ⟨rfl,hp.os,hp.tape,hp.output,hp.size,hp.block⟩
def up9 (s : ByteArray) : Nat → Nat → Int
 | 0,_=>-1
 | f+1,pos=>if pos < s.size then (if okC (Utf8.decode s pos).1 then up9 s f (pos+(Utf8.decode s pos).2) else (pos:Int)) else -1
theorem wd5 (s:ByteArray) (f pos:Nat) (h:¬ pos < s.size):up9 s f pos=-1:=by
 cases f with
 | zero=>rfl
 | succ f=>rw [up9,if_neg h]
set_option maxRecDepth 1000000 in
theorem calls120 (s:ByteArray) (w:World):Calls Tryz.prog 105 #[.string s,.func (.func 102) #[] #[],.bool true] w fun e w'=>e=.returned (.int .i64 (up9 s s.size 0))∧Below w.heap.size w w':=by
 have e116:∀ args w,(callFunc 102 args).run Tryz.prog w=.ok (.enter 102 args) w:=enters_of Tryz.func102 (by kernel_rfl) rfl
 go_enter Tryz.func105,Tryz.ntmps105
 go_wp2
 go_loopg [] s.size (fun g wx=>∃ pos:Nat,wx.heap[w.heap.size]?=some (.stringIter s pos)∧Below w.heap.size w wx∧up9 s g pos=up9 s s.size 0∧s.size≤pos+g)
 case atStart=>exact ⟨0,World.iter_heap w s 0,(Below.refl _ w).alloc (Nat.le_refl _) _,rfl,by omega⟩
 case round =>
  obtain ⟨pos,hit,hbw,hleft,hfu⟩:=hrel
  have hsz:w.heap.size < wr.heap.size:=(Array.getElem?_eq_some_iff.1 hit).1
  by_cases hp:pos < s.size
  ·obtain ⟨g, rfl⟩ : ∃ g, gk = g + 1 := ⟨gk - 1, by omega⟩
   have hnx:∀ ty,(Instr.next (.pointer (some ⟨w.heap.size,0,none⟩)) true ty).run Tryz.prog wr=_:=fun ty=>Lib.run_next_any_at wr w.heap.size s pos ty hit hp
   have hwd:=Lib.width_pos s pos
   obtain ⟨R,hR⟩:∃ R,(Utf8.decode s pos).1=R:=⟨_,rfl⟩
   obtain ⟨K,hK⟩:∃ K,(Utf8.decode s pos).2=K:=⟨_,rfl⟩
   simp only [up9,hp,if_true,hR,hK] at hleft
   rw [hR,hK] at hnx
   rw [hK] at hwd
   have hit2:=Lib.iterAt_heap wr w.heap.size s pos (pos+K) hit
   have hbw2:=Lib.below_iterAt hbw (k:=w.heap.size) (Nat.le_refl _) s (pos+K)
   obtain ⟨W,hWd⟩:∃ W,wr.iterAt w.heap.size s (pos+K)=W:=⟨_,rfl⟩
   rw [hWd] at hnx hit2 hbw2
   have cS:=xp6 (us:=[.int .i32 (R:Int)]) (qh6 (R:Int)) W
   have hWs:w.heap.size < W.heap.size:=(Array.getElem?_eq_some_iff.1 hit2).1
   cases hsp:okC (R:Int) with
   | true =>
    rw [hsp] at cS
    simp only [hsp,if_true] at hleft
    simp only [Bool.not_true] at cS
    go_wp2_with (go_at_fn 102;go_fit cS;rintro e W' ⟨rfl,hb⟩)
    go_roundg g
    case measure=>omega
    case rel=>exact ⟨pos+K,(hb.block w.heap.size hWs).trans hit2,hbw2.trans (hb.mono (by omega)),hleft,by omega⟩
   | false =>
    rw [hsp] at cS
    simp only [hsp,Bool.false_eq_true,if_false] at hleft
    simp only [Bool.not_false] at cS
    go_wp2_with (go_at_fn 102;go_fit cS;rintro e W' ⟨rfl,hb⟩)
    go_ret
    exact ⟨by rw [← hleft] <;> rfl,hbw2.trans (hb.mono (by omega))⟩
  ·have hnx:∀ ty,(Instr.next (.pointer (some ⟨w.heap.size,0,none⟩)) true ty).run Tryz.prog wr=_:=fun ty=>Lib.run_next_end_at wr w.heap.size s pos ty hit hp
   rw [wd5 s gk pos hp] at hleft
   go_wp2
   go_ret
   exact ⟨by rw [← hleft] <;> rfl,hbw⟩
theorem uv5 (n b0 b1 b2 b3:Nat) (h:128≤b0):128≤(Lib.decodeN n b0 b1 b2 b3).1:=by
 unfold Lib.decodeN
 rw [if_neg (by omega)]
 repeat' split
 all_goals first | (simp;done) | (dsimp only;omega)
theorem vv4 {r:Int} (h:128≤r):okC r=false:=by
 simp only [okC,Bool.or_eq_false_iff,decide_eq_false_iff_not]
 omega
theorem qg7 (s : ByteArray) : ∀ (f pos : Nat), s.size ≤ pos + f → (up9 s f pos = -1 ↔ ∀ j, pos ≤ j → j < s.size → okC ((s.get! j).toNat : Nat) = true)
 | 0,pos,h=>by
  rw [up9]
  exact ⟨fun _ j h1 h2=>by omega,fun _=>rfl⟩
 | f+1,pos,h=>by
  rw [up9]
  by_cases hp:pos < s.size
  ·rw [if_pos hp]
   have hd:=Lib.decode_at s pos
   by_cases hb:(s.get! pos).toNat < 128
   ·have h1 : Utf8.decode s pos = ((s.get! pos).toNat, 1) := by rw [hd, Lib.decodeN, if_pos hb]
    rw [h1]
    by_cases ho:okC ((s.get! pos).toNat:Nat)=true
    ·rw [if_pos ho,qg7 s f (pos+1) (by omega)]
     refine ⟨fun h2 j h3 h4=>?_,fun h2 j h3 h4=>h2 j (by omega) h4⟩
     by_cases hj:j=pos
     ·subst hj;exact ho
     ·exact h2 j (by omega) h4
    ·rw [if_neg ho]
     exact ⟨fun h2=>by omega,fun h2=>absurd (h2 pos (Nat.le_refl _) hp) ho⟩
   ·have hbig:128≤(Utf8.decode s pos).1:=by rw [hd];exact uv5 _ _ _ _ _ (by omega)
    rw [if_neg (by rw [vv4 (by omega)];simp)]
    refine ⟨fun h2=>by omega,fun h2=>?_⟩
    have:=h2 pos (Nat.le_refl _) hp
    rw [vv4 (by omega)] at this
    cases this
  ·rw [if_neg hp]
   exact ⟨fun _ j h1 h2=>by omega,fun _=>rfl⟩
theorem vc5 (s:ByteArray):Sound Tryz.prog 105 [.v (.string s),.fn (.func 102) [] [],.v (.bool true)] (.v (.int .i64 (up9 s s.size 0))):=by
 refine ⟨⟨_,Tryz.func105,by decide +kernel,by kernel_rfl⟩,fun F n c w vals T hF hro hT hb ra=>?_⟩
 cases ra with
 | cons h1 _ r1 =>
 cases r1 with
 | cons h2 _ r2 =>
 cases r2 with
 | cons h3 _ r3 =>
 cases r3
 have e1:=h1.v_inv
 have e3:=h3.v_inv
 subst e1 e3
 cases h2 with
 | @fn f l1 l2 v1 v2 g1 g2 _ _ =>
 have z1:v1=#[]:=Array.eq_empty_of_size_eq_zero (by rw [← g1];rfl)
 have z2:v2=#[]:=Array.eq_empty_of_size_eq_zero (by rw [← g2];rfl)
 subst z1 z2
 refine (vg9 hF (calls120 s w)).mono ?_
 rintro e w' ⟨rfl,hb2⟩
 exact ⟨_,c,rfl,⟨rfl,rfl,rfl,hb2.os,hb2.tape,hb2.output,hb2.size,hb2.block,fun _ _=>rfl,fun _ _=>rfl⟩,.v _,.none rfl⟩
theorem vv5 (s:ByteArray):Sound Tryz.prog 104 [.v (.string s),.fn (.func 102) [] []] (.v (.int .i64 (up9 s s.size 0))):=by
 refine zh9 Tryz.func104 rfl (by decide +kernel) (by simp [Tryz.f104]) rfl rfl (rs:=[.tmp 4]) rfl ?_
 rw [show Tryz.f104.ntmps=8 from rfl]
 refine yt9 [0,1] (by simp;rfl) ?_
 refine W_rK [4] ?_
 refine yq9 2 (by simp;rfl) rfl ?_
 refine yd9 (by simp) (by first | (simp;done) | (simp;rfl)) (vc5 s) (by simp;rfl) ?_
 refine yw9 (by simp;rfl) ?_
 refine yn9 ?_
 repeat (first | refine yg9 ?_ | refine yh9 ?_)
 simp [retQ]
theorem qq5 (s:ByteArray):Sound Tryz.prog 101 [.v (.string s),.fn (.func 102) [] []] (.v (.bool (decide (0≤up9 s s.size 0)))):=by
 refine zh9 Tryz.func101 rfl (by decide +kernel) (by simp [Tryz.f101]) rfl rfl (rs:=[.tmp 4]) rfl ?_
 rw [show Tryz.f101.ntmps=9 from rfl]
 refine yt9 [0,1] (by simp;rfl) ?_
 refine W_rK [4] ?_
 refine yq9 2 (by simp;rfl) rfl ?_
 refine yd9 (by simp) (by first | (simp;done) | (simp;rfl)) (vv5 s) (by simp;rfl) ?_
 refine yw9 (by simp;rfl) ?_
 refine yn9 ?_
 repeat (first | refine yg9 ?_ | refine yh9 ?_)
 simp [retQ]
theorem xj6 (s : ByteArray) : ∀ (f pos : Nat), up9 s f pos = -1 ∨ 0 ≤ up9 s f pos
 | 0,pos=>.inl rfl
 | f+1,pos=>by
  rw [up9]
  split
  ·split
   ·exact xj6 s f _
   ·exact .inr (by omega)
  ·exact .inl rfl
@[simp] theorem sz_mk (l:List UInt8):(ByteArray.mk l.toArray).size=l.length:=by simp [ByteArray.size]
@[simp] theorem strA_eqlB (a b:List UInt8):strA .eql ⟨a.toArray⟩ ⟨b.toArray⟩=some (.v (.bool (a == b))):=by simp [strA,Lib.toList_data]
@[simp] theorem strA_neqB (a b:List UInt8):strA .neq ⟨a.toArray⟩ ⟨b.toArray⟩=some (.v (.bool (!(a == b)))):=by simp [strA,Lib.toList_data]
theorem get_mk (l:List UInt8) (j:Nat) (h:j < l.length):(ByteArray.mk l.toArray).get! j=l[j]:=by
 simp [ByteArray.get!,h]
def okB (b:UInt8):Bool:=okC (b.toNat:Nat)
def digB (b:UInt8):Bool:=decide (48≤b.toNat)&&decide (b.toNat≤57)
def symM (l:List UInt8):Bool:=decide (1≤l.length)&&(decide (l.length≤8)&&(!(digB (l.headD 0))&&l.all okB))
theorem cont_eq (l:List UInt8):decide (0≤up9 ⟨l.toArray⟩ (ByteArray.mk l.toArray).size 0)=!(l.all okB):=by
 have h1:=qg7 ⟨l.toArray⟩ (ByteArray.mk l.toArray).size 0 (by omega)
 have h2:=xj6 ⟨l.toArray⟩ (ByteArray.mk l.toArray).size 0
 rw [sz_mk] at h1 h2 ⊢
 have h3:(∀ j,0≤j→j < l.length→okC (((ByteArray.mk l.toArray).get! j).toNat:Nat)=true) ↔ l.all okB=true:=by
  rw [List.all_eq_true]
  constructor
  ·intro h b hb
   obtain ⟨j,hj,rfl⟩:=List.mem_iff_getElem.1 hb
   have:=h j (Nat.zero_le _) hj
   rwa [get_mk l j hj] at this
  ·intro h j _ hj
   rw [get_mk l j hj]
   exact h _ (List.getElem_mem hj)
 rw [h3] at h1
 cases ha:l.all okB with
 | true =>
  have:=h1.2 ha
  rw [this]
  rfl
 | false =>
  have hne:¬ up9 ⟨l.toArray⟩ l.length 0=-1:=fun h=>by rw [h1.1 h] at ha;cases ha
  have:0≤up9 ⟨l.toArray⟩ l.length 0:=by omega
  simp [this]
theorem uc8 (l:List UInt8) (hl:l.length≤9223372036854775807):Sound Tryz.prog 93 [strB l] (.v (.bool (symM l))):=by
 refine zh9 Tryz.func93 rfl (by decide +kernel) (by simp [Tryz.f93]) rfl rfl (rs:=[.tmp 2]) rfl ?_
 rw [show Tryz.f93.ntmps=25 from rfl]
 have hcf:=qq5 ⟨l.toArray⟩
 rw [cont_eq] at hcf
 simp only [strB]
 refine yt9 [0] (by simp;rfl) ?_
 refine W_rK [2] ?_
 by_cases hnil:l=[]
 ·subst hnil
  refine yq9 12 (by simp;rfl) rfl ?_
  refine yq9 7 (by simp;rfl) rfl ?_
  refine yw9 (by simp;rfl) ?_
  refine yn9 ?_
  repeat (first | refine yg9 ?_ | refine yh9 ?_)
  simp [retQ,symM]
 have hne:(l == [])=false:=beq_eq_false_iff_ne.2 hnil
 have hpos:0 < l.length:=List.length_pos_iff.2 hnil
 have h1:1≤l.length:=hpos
 obtain ⟨b,hb⟩:∃ b,l[0]?=some b:=⟨_,List.getElem?_eq_getElem hpos⟩
 have hb2:l[0]'hpos=b:=by rw [List.getElem?_eq_getElem hpos] at hb;exact Option.some.inj hb
 have hhd:l.head?.getD 0=b:=by rw [List.head?_eq_getElem?,hb];rfl
 by_cases h8:l.length≤8
 ·have h8' : (l.length : Int) ≤ 8 := by omega
  by_cases d1:b.toNat < 48
  ·have d1':(b.toNat:Int) < 48:=by omega
   have hd:digB b=false:=by simp [digB];omega
   refine yq9 12 (by simp [hne,h8,h8',hb,hb2,hpos,d1,d1'];rfl) rfl ?_
   refine yq9 7 (by simp [hne,h8,h8',hb,hb2,hpos,d1,d1'];rfl) rfl ?_
   refine yd9 (by simp) (by first | (simp;done) | (simp;rfl)) hcf (by simp;rfl) ?_
   refine yw9 (by simp;rfl) ?_
   refine yn9 ?_
   repeat (first | refine yg9 ?_ | refine yh9 ?_)
   simp [retQ,symM,h1,h8,hhd,hd]
  ·have d1' : ¬ (b.toNat : Int) < 48 := by omega
   by_cases d2:57 < b.toNat
   ·have d2':(57:Int) < b.toNat:=by omega
    have hd:digB b=false:=by simp [digB];omega
    refine yq9 12 (by simp [hne,h8,h8',hb,hb2,hpos,d1,d1',d2,d2'];rfl) rfl ?_
    refine yq9 7 (by simp [hne,h8,h8',hb,hb2,hpos,d1,d1',d2,d2'];rfl) rfl ?_
    refine yd9 (by simp) (by first | (simp;done) | (simp;rfl)) hcf (by simp;rfl) ?_
    refine yw9 (by simp;rfl) ?_
    refine yn9 ?_
    repeat (first | refine yg9 ?_ | refine yh9 ?_)
    simp [retQ,symM,h1,h8,hhd,hd]
   ·have d2':¬ (57:Int) < b.toNat:=by omega
    have hd:digB b=true:=by simp [digB];omega
    refine yq9 12 (by simp [hne,h8,h8',hb,hb2,hpos,d1,d1',d2,d2'];rfl) rfl ?_
    refine yq9 7 (by simp [hne,h8,h8',hb,hb2,hpos,d1,d1',d2,d2'];rfl) rfl ?_
    refine yw9 (by simp;rfl) ?_
    refine yn9 ?_
    repeat (first | refine yg9 ?_ | refine yh9 ?_)
    simp [retQ,symM,h1,h8,hhd,hd]
 ·have h8':¬ (l.length:Int)≤8:=by omega
  refine yq9 12 (by simp [hne,h8,h8',hb,hb2,hpos,hne];rfl) rfl ?_
  refine yq9 7 (by simp [hne,h8,h8',hb,hb2,hpos,hne];rfl) rfl ?_
  refine yw9 (by simp;rfl) ?_
  refine yn9 ?_
  repeat (first | refine yg9 ?_ | refine yh9 ?_)
  simp [retQ,symM,h8]
end Go.AM
