/- Parts of the walk: C24F R22A R22B. -/
import Derived.Test.YthjcnajpcphcpaaGreatProg
import Derived.Test.YthjcnajpcphcpaaGreatAmD
namespace Go.AM
open Go.RowKit Go.Proofs
theorem mx:Tryz.prog.follows .mixedOrders=true:=by kernel_rfl
@[simp] theorem k0:kdI Tryz.prog 0=Option.some Go.AM.Kd.other:=by kernel_rfl
@[simp] theorem t0:tyI Tryz.prog 0=Option.some (Bool.false,1):=by kernel_rfl
@[simp] theorem a0:apI Tryz.prog 0=Option.none:=by kernel_rfl
@[simp] theorem z0:zA Tryz.prog 0=Option.none:=by kernel_rfl
@[simp] theorem k1:kdI Tryz.prog 1=Option.some Go.AM.Kd.fn:=by kernel_rfl
@[simp] theorem t1:tyI Tryz.prog 1=Option.some (Bool.false,1):=by kernel_rfl
@[simp] theorem z1:zA Tryz.prog 1=Option.some (Go.AM.AV.v Go.Value.nilFunc):=by kernel_rfl
@[simp] theorem k3:kdI Tryz.prog 3=Option.some Go.AM.Kd.int:=by kernel_rfl
@[simp] theorem t3:tyI Tryz.prog 3=Option.some (Bool.false,1):=by kernel_rfl
@[simp] theorem a3:apI Tryz.prog 3=Option.some (1,8):=by kernel_rfl
@[simp] theorem z3:zA Tryz.prog 3=Option.some (Go.AM.AV.v (Go.Value.int Go.IntKind.i64 0)):=by kernel_rfl
@[simp] theorem k4:kdI Tryz.prog 4=Option.some Go.AM.Kd.bool:=by kernel_rfl
@[simp] theorem t4:tyI Tryz.prog 4=Option.some (Bool.false,1):=by kernel_rfl
@[simp] theorem a4:apI Tryz.prog 4=Option.some (1,1):=by kernel_rfl
@[simp] theorem z4:zA Tryz.prog 4=Option.some (Go.AM.AV.v (Go.Value.bool Bool.false)):=by kernel_rfl
@[simp] theorem k5:kdI Tryz.prog 5=Option.some Go.AM.Kd.int:=by kernel_rfl
@[simp] theorem t5:tyI Tryz.prog 5=Option.some (Bool.false,1):=by kernel_rfl
@[simp] theorem a5:apI Tryz.prog 5=Option.some (1,1):=by kernel_rfl
@[simp] theorem z5:zA Tryz.prog 5=Option.some (Go.AM.AV.v (Go.Value.int Go.IntKind.u8 0)):=by kernel_rfl
@[simp] theorem k9:kdI Tryz.prog 9=Option.some Go.AM.Kd.str:=by kernel_rfl
@[simp] theorem t9:tyI Tryz.prog 9=Option.some (Bool.false,1):=by kernel_rfl
@[simp] theorem a9:apI Tryz.prog 9=Option.some (1,16):=by kernel_rfl
@[simp] theorem z9:zA Tryz.prog 9=Option.some (Go.AM.AV.v (Go.Value.string { data:={ toList:=[] } })):=by kernel_rfl
@[simp] theorem k20:kdI Tryz.prog 20=Option.some Go.AM.Kd.other:=by kernel_rfl
@[simp] theorem t20:tyI Tryz.prog 20=Option.some (Bool.false,1):=by kernel_rfl
@[simp] theorem z20:zA Tryz.prog 20=Option.some (Go.AM.AV.v Go.Value.nilIface):=by kernel_rfl
@[simp] theorem k21:kdI Tryz.prog 21=Option.some Go.AM.Kd.int:=by kernel_rfl
@[simp] theorem t21:tyI Tryz.prog 21=Option.some (Bool.false,1):=by kernel_rfl
@[simp] theorem a21:apI Tryz.prog 21=Option.some (1,4):=by kernel_rfl
@[simp] theorem z21:zA Tryz.prog 21=Option.some (Go.AM.AV.v (Go.Value.int Go.IntKind.i32 0)):=by kernel_rfl
@[simp] theorem k23:kdI Tryz.prog 23=Option.some Go.AM.Kd.other:=by kernel_rfl
@[simp] theorem t23:tyI Tryz.prog 23=Option.some (Bool.true,8):=by kernel_rfl
@[simp] theorem a23:apI Tryz.prog 23=Option.some (8,56):=by kernel_rfl
@[simp] theorem z23:zA Tryz.prog 23=Option.some (Go.AM.AV.agg [Go.AM.AV.v (Go.Value.int Go.IntKind.i64 0),Go.AM.AV.v (Go.Value.int Go.IntKind.i64 0),Go.AM.AV.v (Go.Value.bool Bool.false),Go.AM.AV.v (Go.Value.bool Bool.false),Go.AM.AV.v (Go.Value.int Go.IntKind.i64 0),Go.AM.AV.v (Go.Value.int Go.IntKind.i64 0),Go.AM.AV.v (Go.Value.int Go.IntKind.i64 0),Go.AM.AV.v (Go.Value.int Go.IntKind.i64 0)]):=by kernel_rfl
@[simp] theorem S23:stI Tryz.prog 23=Option.some [(0,1),(1,1),(2,1),(3,1),(4,1),(5,1),(6,1),(7,1)]:=by kernel_rfl
@[simp] theorem r23:arI Tryz.prog 23=Option.none:=by kernel_rfl
@[simp] theorem f23_0:fdI Tryz.prog 23 0=Option.some (0,Bool.false,1):=by kernel_rfl
@[simp] theorem ft23_0:ftI Tryz.prog 23 0=3:=by kernel_rfl
@[simp] theorem f23_1:fdI Tryz.prog 23 1=Option.some (1,Bool.false,1):=by kernel_rfl
@[simp] theorem ft23_1:ftI Tryz.prog 23 1=3:=by kernel_rfl
@[simp] theorem f23_2:fdI Tryz.prog 23 2=Option.some (2,Bool.false,1):=by kernel_rfl
@[simp] theorem ft23_2:ftI Tryz.prog 23 2=4:=by kernel_rfl
@[simp] theorem f23_3:fdI Tryz.prog 23 3=Option.some (3,Bool.false,1):=by kernel_rfl
@[simp] theorem ft23_3:ftI Tryz.prog 23 3=4:=by kernel_rfl
@[simp] theorem f23_4:fdI Tryz.prog 23 4=Option.some (4,Bool.false,1):=by kernel_rfl
@[simp] theorem ft23_4:ftI Tryz.prog 23 4=3:=by kernel_rfl
@[simp] theorem f23_5:fdI Tryz.prog 23 5=Option.some (5,Bool.false,1):=by kernel_rfl
@[simp] theorem ft23_5:ftI Tryz.prog 23 5=3:=by kernel_rfl
@[simp] theorem f23_6:fdI Tryz.prog 23 6=Option.some (6,Bool.false,1):=by kernel_rfl
@[simp] theorem ft23_6:ftI Tryz.prog 23 6=3:=by kernel_rfl
@[simp] theorem f23_7:fdI Tryz.prog 23 7=Option.some (7,Bool.false,1):=by kernel_rfl
@[simp] theorem ft23_7:ftI Tryz.prog 23 7=3:=by kernel_rfl
@[simp] theorem k24:kdI Tryz.prog 24=Option.some Go.AM.Kd.sl:=by kernel_rfl
@[simp] theorem t24:tyI Tryz.prog 24=Option.some (Bool.false,1):=by kernel_rfl
@[simp] theorem s24:slI Tryz.prog 24=Option.some (80,Bool.false,1):=by kernel_rfl
@[simp] theorem a24:apI Tryz.prog 24=Option.some (1,24):=by kernel_rfl
@[simp] theorem z24:zA Tryz.prog 24=Option.some (Go.AM.AV.lst Go.AM.Fl.nil 1 []):=by kernel_rfl
@[simp] theorem k25:kdI Tryz.prog 25=Option.some Go.AM.Kd.sl:=by kernel_rfl
@[simp] theorem t25:tyI Tryz.prog 25=Option.some (Bool.false,1):=by kernel_rfl
@[simp] theorem s25:slI Tryz.prog 25=Option.some (90,Bool.false,1):=by kernel_rfl
@[simp] theorem a25:apI Tryz.prog 25=Option.some (1,24):=by kernel_rfl
@[simp] theorem z25:zA Tryz.prog 25=Option.some (Go.AM.AV.lst Go.AM.Fl.nil 1 []):=by kernel_rfl
@[simp] theorem k27:kdI Tryz.prog 27=Option.some Go.AM.Kd.other:=by kernel_rfl
@[simp] theorem t27:tyI Tryz.prog 27=Option.some (Bool.true,2):=by kernel_rfl
@[simp] theorem a27:apI Tryz.prog 27=Option.some (2,40):=by kernel_rfl
@[simp] theorem z27:zA Tryz.prog 27=Option.some (Go.AM.AV.agg [Go.AM.AV.v (Go.Value.string { data:={ toList:=[] } }),Go.AM.AV.lst Go.AM.Fl.nil 1 []]):=by kernel_rfl
@[simp] theorem S27:stI Tryz.prog 27=Option.some [(0,1),(1,1)]:=by kernel_rfl
@[simp] theorem r27:arI Tryz.prog 27=Option.none:=by kernel_rfl
@[simp] theorem f27_0:fdI Tryz.prog 27 0=Option.some (0,Bool.false,1):=by kernel_rfl
@[simp] theorem ft27_0:ftI Tryz.prog 27 0=9:=by kernel_rfl
@[simp] theorem f27_1:fdI Tryz.prog 27 1=Option.some (1,Bool.false,1):=by kernel_rfl
@[simp] theorem ft27_1:ftI Tryz.prog 27 1=25:=by kernel_rfl
@[simp] theorem k29:kdI Tryz.prog 29=Option.some Go.AM.Kd.other:=by kernel_rfl
@[simp] theorem t29:tyI Tryz.prog 29=Option.some (Bool.true,12):=by kernel_rfl
@[simp] theorem a29:apI Tryz.prog 29=Option.some (12,128):=by kernel_rfl
@[simp] theorem z29:zA Tryz.prog 29=Option.some (Go.AM.AV.agg [Go.AM.AV.v (Go.Value.int Go.IntKind.i64 0),Go.AM.AV.v (Go.Value.int Go.IntKind.i64 0),Go.AM.AV.v (Go.Value.bool Bool.false),Go.AM.AV.v (Go.Value.bool Bool.false),Go.AM.AV.v (Go.Value.int Go.IntKind.i64 0),Go.AM.AV.v (Go.Value.int Go.IntKind.i64 0),Go.AM.AV.v (Go.Value.int Go.IntKind.i64 0),Go.AM.AV.v (Go.Value.int Go.IntKind.i64 0),Go.AM.AV.lst Go.AM.Fl.nil 1 [],Go.AM.AV.v (Go.Value.string { data:={ toList:=[] } }),Go.AM.AV.lst Go.AM.Fl.nil 1 [],Go.AM.AV.v (Go.Value.int Go.IntKind.i64 0)]):=by kernel_rfl
@[simp] theorem S29:stI Tryz.prog 29=Option.some [(0,8),(8,1),(9,2),(11,1)]:=by kernel_rfl
@[simp] theorem r29:arI Tryz.prog 29=Option.none:=by kernel_rfl
@[simp] theorem f29_0:fdI Tryz.prog 29 0=Option.some (0,Bool.true,8):=by kernel_rfl
@[simp] theorem ft29_0:ftI Tryz.prog 29 0=23:=by kernel_rfl
@[simp] theorem f29_1:fdI Tryz.prog 29 1=Option.some (8,Bool.false,1):=by kernel_rfl
@[simp] theorem ft29_1:ftI Tryz.prog 29 1=24:=by kernel_rfl
@[simp] theorem f29_2:fdI Tryz.prog 29 2=Option.some (9,Bool.true,2):=by kernel_rfl
@[simp] theorem ft29_2:ftI Tryz.prog 29 2=27:=by kernel_rfl
@[simp] theorem f29_3:fdI Tryz.prog 29 3=Option.some (11,Bool.false,1):=by kernel_rfl
@[simp] theorem ft29_3:ftI Tryz.prog 29 3=3:=by kernel_rfl
@[simp] theorem k30:kdI Tryz.prog 30=Option.some Go.AM.Kd.int:=by kernel_rfl
@[simp] theorem t30:tyI Tryz.prog 30=Option.some (Bool.false,1):=by kernel_rfl
@[simp] theorem a30:apI Tryz.prog 30=Option.some (1,8):=by kernel_rfl
@[simp] theorem z30:zA Tryz.prog 30=Option.some (Go.AM.AV.v (Go.Value.int Go.IntKind.i64 0)):=by kernel_rfl
@[simp] theorem k31:kdI Tryz.prog 31=Option.some Go.AM.Kd.other:=by kernel_rfl
@[simp] theorem t31:tyI Tryz.prog 31=Option.some (Bool.false,1):=by kernel_rfl
@[simp] theorem a31:apI Tryz.prog 31=Option.none:=by kernel_rfl
@[simp] theorem z31:zA Tryz.prog 31=Option.none:=by kernel_rfl
@[simp] theorem k33:kdI Tryz.prog 33=Option.some Go.AM.Kd.other:=by kernel_rfl
@[simp] theorem t33:tyI Tryz.prog 33=Option.some (Bool.false,1):=by kernel_rfl
@[simp] theorem a33:apI Tryz.prog 33=Option.none:=by kernel_rfl
@[simp] theorem z33:zA Tryz.prog 33=Option.none:=by kernel_rfl
@[simp] theorem k40:kdI Tryz.prog 40=Option.some Go.AM.Kd.sl:=by kernel_rfl
@[simp] theorem t40:tyI Tryz.prog 40=Option.some (Bool.false,1):=by kernel_rfl
@[simp] theorem s40:slI Tryz.prog 40=Option.some (27,Bool.true,2):=by kernel_rfl
@[simp] theorem a40:apI Tryz.prog 40=Option.some (1,24):=by kernel_rfl
@[simp] theorem z40:zA Tryz.prog 40=Option.some (Go.AM.AV.lst Go.AM.Fl.nil 2 []):=by kernel_rfl
@[simp] theorem k42:kdI Tryz.prog 42=Option.some Go.AM.Kd.other:=by kernel_rfl
@[simp] theorem t42:tyI Tryz.prog 42=Option.some (Bool.true,10):=by kernel_rfl
@[simp] theorem a42:apI Tryz.prog 42=Option.some (10,104):=by kernel_rfl
@[simp] theorem z42:zA Tryz.prog 42=Option.some (Go.AM.AV.agg [Go.AM.AV.v (Go.Value.int Go.IntKind.i64 0),Go.AM.AV.v (Go.Value.int Go.IntKind.i64 0),Go.AM.AV.v (Go.Value.bool Bool.false),Go.AM.AV.v (Go.Value.bool Bool.false),Go.AM.AV.v (Go.Value.int Go.IntKind.i64 0),Go.AM.AV.v (Go.Value.int Go.IntKind.i64 0),Go.AM.AV.v (Go.Value.int Go.IntKind.i64 0),Go.AM.AV.v (Go.Value.int Go.IntKind.i64 0),Go.AM.AV.lst Go.AM.Fl.nil 1 [],Go.AM.AV.lst Go.AM.Fl.nil 2 []]):=by kernel_rfl
@[simp] theorem S42:stI Tryz.prog 42=Option.some [(0,8),(8,1),(9,1)]:=by kernel_rfl
@[simp] theorem r42:arI Tryz.prog 42=Option.none:=by kernel_rfl
@[simp] theorem f42_0:fdI Tryz.prog 42 0=Option.some (0,Bool.true,8):=by kernel_rfl
@[simp] theorem ft42_0:ftI Tryz.prog 42 0=23:=by kernel_rfl
@[simp] theorem f42_1:fdI Tryz.prog 42 1=Option.some (8,Bool.false,1):=by kernel_rfl
@[simp] theorem ft42_1:ftI Tryz.prog 42 1=25:=by kernel_rfl
@[simp] theorem f42_2:fdI Tryz.prog 42 2=Option.some (9,Bool.false,1):=by kernel_rfl
@[simp] theorem ft42_2:ftI Tryz.prog 42 2=40:=by kernel_rfl
@[simp] theorem k46:kdI Tryz.prog 46=Option.some Go.AM.Kd.sl:=by kernel_rfl
@[simp] theorem t46:tyI Tryz.prog 46=Option.some (Bool.false,1):=by kernel_rfl
@[simp] theorem s46:slI Tryz.prog 46=Option.some (51,Bool.true,3):=by kernel_rfl
@[simp] theorem a46:apI Tryz.prog 46=Option.some (1,24):=by kernel_rfl
@[simp] theorem z46:zA Tryz.prog 46=Option.some (Go.AM.AV.lst Go.AM.Fl.nil 3 []):=by kernel_rfl
@[simp] theorem k47:kdI Tryz.prog 47=Option.some Go.AM.Kd.other:=by kernel_rfl
@[simp] theorem t47:tyI Tryz.prog 47=Option.some (Bool.false,1):=by kernel_rfl
@[simp] theorem a47:apI Tryz.prog 47=Option.none:=by kernel_rfl
@[simp] theorem z47:zA Tryz.prog 47=Option.none:=by kernel_rfl
@[simp] theorem k49:kdI Tryz.prog 49=Option.some Go.AM.Kd.sl:=by kernel_rfl
@[simp] theorem t49:tyI Tryz.prog 49=Option.some (Bool.false,1):=by kernel_rfl
@[simp] theorem s49:slI Tryz.prog 49=Option.some (9,Bool.false,1):=by kernel_rfl
@[simp] theorem a49:apI Tryz.prog 49=Option.some (1,24):=by kernel_rfl
@[simp] theorem z49:zA Tryz.prog 49=Option.some (Go.AM.AV.lst Go.AM.Fl.nil 1 []):=by kernel_rfl
@[simp] theorem k51:kdI Tryz.prog 51=Option.some Go.AM.Kd.other:=by kernel_rfl
@[simp] theorem t51:tyI Tryz.prog 51=Option.some (Bool.true,3):=by kernel_rfl
@[simp] theorem a51:apI Tryz.prog 51=Option.some (3,32):=by kernel_rfl
@[simp] theorem z51:zA Tryz.prog 51=Option.some (Go.AM.AV.agg [Go.AM.AV.v (Go.Value.string { data:={ toList:=[] } }),Go.AM.AV.v (Go.Value.int Go.IntKind.i64 0),Go.AM.AV.v (Go.Value.int Go.IntKind.i64 0)]):=by kernel_rfl
@[simp] theorem S51:stI Tryz.prog 51=Option.some [(0,1),(1,1),(2,1)]:=by kernel_rfl
@[simp] theorem r51:arI Tryz.prog 51=Option.none:=by kernel_rfl
@[simp] theorem f51_0:fdI Tryz.prog 51 0=Option.some (0,Bool.false,1):=by kernel_rfl
@[simp] theorem ft51_0:ftI Tryz.prog 51 0=9:=by kernel_rfl
@[simp] theorem f51_1:fdI Tryz.prog 51 1=Option.some (1,Bool.false,1):=by kernel_rfl
@[simp] theorem ft51_1:ftI Tryz.prog 51 1=3:=by kernel_rfl
@[simp] theorem f51_2:fdI Tryz.prog 51 2=Option.some (2,Bool.false,1):=by kernel_rfl
@[simp] theorem ft51_2:ftI Tryz.prog 51 2=3:=by kernel_rfl
@[simp] theorem k52:kdI Tryz.prog 52=Option.some Go.AM.Kd.other:=by kernel_rfl
@[simp] theorem t52:tyI Tryz.prog 52=Option.some (Bool.false,1):=by kernel_rfl
@[simp] theorem a52:apI Tryz.prog 52=Option.none:=by kernel_rfl
@[simp] theorem z52:zA Tryz.prog 52=Option.none:=by kernel_rfl
@[simp] theorem k55:kdI Tryz.prog 55=Option.some Go.AM.Kd.other:=by kernel_rfl
@[simp] theorem t55:tyI Tryz.prog 55=Option.some (Bool.true,2):=by kernel_rfl
@[simp] theorem a55:apI Tryz.prog 55=Option.some (2,16):=by kernel_rfl
@[simp] theorem z55:zA Tryz.prog 55=Option.some (Go.AM.AV.agg [Go.AM.AV.v (Go.Value.int Go.IntKind.i64 0),Go.AM.AV.v (Go.Value.int Go.IntKind.i64 0)]):=by kernel_rfl
@[simp] theorem S55:stI Tryz.prog 55=Option.some [(0,1),(1,1)]:=by kernel_rfl
@[simp] theorem r55:arI Tryz.prog 55=Option.none:=by kernel_rfl
@[simp] theorem f55_0:fdI Tryz.prog 55 0=Option.some (0,Bool.false,1):=by kernel_rfl
@[simp] theorem ft55_0:ftI Tryz.prog 55 0=3:=by kernel_rfl
@[simp] theorem f55_1:fdI Tryz.prog 55 1=Option.some (1,Bool.false,1):=by kernel_rfl
@[simp] theorem ft55_1:ftI Tryz.prog 55 1=3:=by kernel_rfl
@[simp] theorem k56:kdI Tryz.prog 56=Option.some Go.AM.Kd.other:=by kernel_rfl
@[simp] theorem t56:tyI Tryz.prog 56=Option.some (Bool.false,1):=by kernel_rfl
@[simp] theorem a56:apI Tryz.prog 56=Option.none:=by kernel_rfl
@[simp] theorem z56:zA Tryz.prog 56=Option.none:=by kernel_rfl
@[simp] theorem k58:kdI Tryz.prog 58=Option.some Go.AM.Kd.other:=by kernel_rfl
@[simp] theorem t58:tyI Tryz.prog 58=Option.some (Bool.false,1):=by kernel_rfl
@[simp] theorem a58:apI Tryz.prog 58=Option.none:=by kernel_rfl
@[simp] theorem z58:zA Tryz.prog 58=Option.none:=by kernel_rfl
@[simp] theorem k63:kdI Tryz.prog 63=Option.some Go.AM.Kd.other:=by kernel_rfl
@[simp] theorem t63:tyI Tryz.prog 63=Option.some (Bool.false,1):=by kernel_rfl
@[simp] theorem a63:apI Tryz.prog 63=Option.none:=by kernel_rfl
@[simp] theorem z63:zA Tryz.prog 63=Option.none:=by kernel_rfl
@[simp] theorem k68:kdI Tryz.prog 68=Option.some Go.AM.Kd.sl:=by kernel_rfl
@[simp] theorem t68:tyI Tryz.prog 68=Option.some (Bool.false,1):=by kernel_rfl
@[simp] theorem s68:slI Tryz.prog 68=Option.some (78,Bool.true,10):=by kernel_rfl
@[simp] theorem a68:apI Tryz.prog 68=Option.some (1,24):=by kernel_rfl
@[simp] theorem z68:zA Tryz.prog 68=Option.some (Go.AM.AV.lst Go.AM.Fl.nil 10 []):=by kernel_rfl
@[simp] theorem k70:kdI Tryz.prog 70=Option.some Go.AM.Kd.other:=by kernel_rfl
@[simp] theorem t70:tyI Tryz.prog 70=Option.some (Bool.true,2):=by kernel_rfl
@[simp] theorem a70:apI Tryz.prog 70=Option.some (2,32):=by kernel_rfl
@[simp] theorem z70:zA Tryz.prog 70=Option.some (Go.AM.AV.agg [Go.AM.AV.lst Go.AM.Fl.nil 10 [],Go.AM.AV.v (Go.Value.int Go.IntKind.i64 0)]):=by kernel_rfl
@[simp] theorem S70:stI Tryz.prog 70=Option.some [(0,1),(1,1)]:=by kernel_rfl
@[simp] theorem r70:arI Tryz.prog 70=Option.none:=by kernel_rfl
@[simp] theorem f70_0:fdI Tryz.prog 70 0=Option.some (0,Bool.false,1):=by kernel_rfl
@[simp] theorem ft70_0:ftI Tryz.prog 70 0=68:=by kernel_rfl
@[simp] theorem f70_1:fdI Tryz.prog 70 1=Option.some (1,Bool.false,1):=by kernel_rfl
@[simp] theorem ft70_1:ftI Tryz.prog 70 1=3:=by kernel_rfl
@[simp] theorem k71:kdI Tryz.prog 71=Option.some Go.AM.Kd.other:=by kernel_rfl
@[simp] theorem t71:tyI Tryz.prog 71=Option.some (Bool.false,1):=by kernel_rfl
@[simp] theorem a71:apI Tryz.prog 71=Option.none:=by kernel_rfl
@[simp] theorem z71:zA Tryz.prog 71=Option.none:=by kernel_rfl
@[simp] theorem k73:kdI Tryz.prog 73=Option.some Go.AM.Kd.other:=by kernel_rfl
@[simp] theorem t73:tyI Tryz.prog 73=Option.some (Bool.false,1):=by kernel_rfl
@[simp] theorem a73:apI Tryz.prog 73=Option.none:=by kernel_rfl
@[simp] theorem z73:zA Tryz.prog 73=Option.none:=by kernel_rfl
@[simp] theorem k76:kdI Tryz.prog 76=Option.some (Go.AM.Kd.arr 8):=by kernel_rfl
@[simp] theorem t76:tyI Tryz.prog 76=Option.some (Bool.true,8):=by kernel_rfl
@[simp] theorem a76:apI Tryz.prog 76=Option.some (8,8):=by kernel_rfl
@[simp] theorem z76:zA Tryz.prog 76=Option.some (Go.AM.AV.agg [Go.AM.AV.v (Go.Value.int Go.IntKind.u8 0),Go.AM.AV.v (Go.Value.int Go.IntKind.u8 0),Go.AM.AV.v (Go.Value.int Go.IntKind.u8 0),Go.AM.AV.v (Go.Value.int Go.IntKind.u8 0),Go.AM.AV.v (Go.Value.int Go.IntKind.u8 0),Go.AM.AV.v (Go.Value.int Go.IntKind.u8 0),Go.AM.AV.v (Go.Value.int Go.IntKind.u8 0),Go.AM.AV.v (Go.Value.int Go.IntKind.u8 0)]):=by kernel_rfl
@[simp] theorem S76:stI Tryz.prog 76=Option.none:=by kernel_rfl
@[simp] theorem r76:arI Tryz.prog 76=Option.some (8,5,Bool.false,1):=by kernel_rfl
@[simp] theorem k78:kdI Tryz.prog 78=Option.some Go.AM.Kd.other:=by kernel_rfl
@[simp] theorem t78:tyI Tryz.prog 78=Option.some (Bool.true,10):=by kernel_rfl
@[simp] theorem a78:apI Tryz.prog 78=Option.some (10,24):=by kernel_rfl
@[simp] theorem z78:zA Tryz.prog 78=Option.some (Go.AM.AV.agg [Go.AM.AV.v (Go.Value.int Go.IntKind.u8 0),Go.AM.AV.v (Go.Value.int Go.IntKind.u8 0),Go.AM.AV.v (Go.Value.int Go.IntKind.u8 0),Go.AM.AV.v (Go.Value.int Go.IntKind.u8 0),Go.AM.AV.v (Go.Value.int Go.IntKind.u8 0),Go.AM.AV.v (Go.Value.int Go.IntKind.u8 0),Go.AM.AV.v (Go.Value.int Go.IntKind.u8 0),Go.AM.AV.v (Go.Value.int Go.IntKind.u8 0),Go.AM.AV.v (Go.Value.int Go.IntKind.i64 0),Go.AM.AV.v (Go.Value.int Go.IntKind.i64 0)]):=by kernel_rfl
@[simp] theorem S78:stI Tryz.prog 78=Option.some [(0,8),(8,2)]:=by kernel_rfl
@[simp] theorem r78:arI Tryz.prog 78=Option.none:=by kernel_rfl
@[simp] theorem f78_0:fdI Tryz.prog 78 0=Option.some (0,Bool.true,8):=by kernel_rfl
@[simp] theorem ft78_0:ftI Tryz.prog 78 0=76:=by kernel_rfl
@[simp] theorem f78_1:fdI Tryz.prog 78 1=Option.some (8,Bool.true,2):=by kernel_rfl
@[simp] theorem ft78_1:ftI Tryz.prog 78 1=55:=by kernel_rfl
@[simp] theorem k80:kdI Tryz.prog 80=Option.some Go.AM.Kd.sl:=by kernel_rfl
@[simp] theorem t80:tyI Tryz.prog 80=Option.some (Bool.false,1):=by kernel_rfl
@[simp] theorem s80:slI Tryz.prog 80=Option.some (100,Bool.true,4):=by kernel_rfl
@[simp] theorem a80:apI Tryz.prog 80=Option.some (1,24):=by kernel_rfl
@[simp] theorem z80:zA Tryz.prog 80=Option.some (Go.AM.AV.lst Go.AM.Fl.nil 4 []):=by kernel_rfl
@[simp] theorem k83:kdI Tryz.prog 83=Option.some Go.AM.Kd.other:=by kernel_rfl
@[simp] theorem t83:tyI Tryz.prog 83=Option.some (Bool.false,1):=by kernel_rfl
@[simp] theorem a83:apI Tryz.prog 83=Option.none:=by kernel_rfl
@[simp] theorem z83:zA Tryz.prog 83=Option.none:=by kernel_rfl
@[simp] theorem k90:kdI Tryz.prog 90=Option.some Go.AM.Kd.sl:=by kernel_rfl
@[simp] theorem t90:tyI Tryz.prog 90=Option.some (Bool.false,1):=by kernel_rfl
@[simp] theorem s90:slI Tryz.prog 90=Option.some (5,Bool.false,1):=by kernel_rfl
@[simp] theorem a90:apI Tryz.prog 90=Option.some (1,24):=by kernel_rfl
@[simp] theorem z90:zA Tryz.prog 90=Option.some (Go.AM.AV.lst Go.AM.Fl.nil 1 []):=by kernel_rfl
@[simp] theorem k93:kdI Tryz.prog 93=Option.some Go.AM.Kd.mp:=by kernel_rfl
@[simp] theorem t93:tyI Tryz.prog 93=Option.some (Bool.false,1):=by kernel_rfl
@[simp] theorem z93:zA Tryz.prog 93=Option.some (Go.AM.AV.v (Go.Value.map Option.none)):=by kernel_rfl
@[simp] theorem m93:mpI Tryz.prog 93=Option.some (Go.TypeDesc.string,4):=by kernel_rfl
@[simp] theorem k95:kdI Tryz.prog 95=Option.some Go.AM.Kd.other:=by kernel_rfl
@[simp] theorem t95:tyI Tryz.prog 95=Option.some (Bool.false,1):=by kernel_rfl
@[simp] theorem a95:apI Tryz.prog 95=Option.none:=by kernel_rfl
@[simp] theorem z95:zA Tryz.prog 95=Option.none:=by kernel_rfl
@[simp] theorem k98:kdI Tryz.prog 98=Option.some Go.AM.Kd.fn:=by kernel_rfl
@[simp] theorem t98:tyI Tryz.prog 98=Option.some (Bool.false,1):=by kernel_rfl
@[simp] theorem z98:zA Tryz.prog 98=Option.some (Go.AM.AV.v Go.Value.nilFunc):=by kernel_rfl
@[simp] theorem k100:kdI Tryz.prog 100=Option.some Go.AM.Kd.other:=by kernel_rfl
@[simp] theorem t100:tyI Tryz.prog 100=Option.some (Bool.true,4):=by kernel_rfl
@[simp] theorem a100:apI Tryz.prog 100=Option.some (4,64):=by kernel_rfl
@[simp] theorem z100:zA Tryz.prog 100=Option.some (Go.AM.AV.agg [Go.AM.AV.v (Go.Value.int Go.IntKind.i64 0),Go.AM.AV.lst Go.AM.Fl.nil 1 [],Go.AM.AV.lst Go.AM.Fl.nil 1 [],Go.AM.AV.v (Go.Value.bool Bool.false)]):=by kernel_rfl
@[simp] theorem S100:stI Tryz.prog 100=Option.some [(0,1),(1,1),(2,1),(3,1)]:=by kernel_rfl
@[simp] theorem r100:arI Tryz.prog 100=Option.none:=by kernel_rfl
@[simp] theorem f100_0:fdI Tryz.prog 100 0=Option.some (0,Bool.false,1):=by kernel_rfl
@[simp] theorem ft100_0:ftI Tryz.prog 100 0=3:=by kernel_rfl
@[simp] theorem f100_1:fdI Tryz.prog 100 1=Option.some (1,Bool.false,1):=by kernel_rfl
@[simp] theorem ft100_1:ftI Tryz.prog 100 1=90:=by kernel_rfl
@[simp] theorem f100_2:fdI Tryz.prog 100 2=Option.some (2,Bool.false,1):=by kernel_rfl
@[simp] theorem ft100_2:ftI Tryz.prog 100 2=90:=by kernel_rfl
@[simp] theorem f100_3:fdI Tryz.prog 100 3=Option.some (3,Bool.false,1):=by kernel_rfl
@[simp] theorem ft100_3:ftI Tryz.prog 100 3=4:=by kernel_rfl
@[simp] theorem k104:kdI Tryz.prog 104=Option.some Go.AM.Kd.other:=by kernel_rfl
@[simp] theorem t104:tyI Tryz.prog 104=Option.some (Bool.false,1):=by kernel_rfl
@[simp] theorem a104:apI Tryz.prog 104=Option.none:=by kernel_rfl
@[simp] theorem z104:zA Tryz.prog 104=Option.none:=by kernel_rfl
@[simp] theorem k107:kdI Tryz.prog 107=Option.some Go.AM.Kd.fn:=by kernel_rfl
@[simp] theorem t107:tyI Tryz.prog 107=Option.some (Bool.false,1):=by kernel_rfl
@[simp] theorem z107:zA Tryz.prog 107=Option.some (Go.AM.AV.v Go.Value.nilFunc):=by kernel_rfl
@[simp] theorem k108:kdI Tryz.prog 108=Option.some Go.AM.Kd.int:=by kernel_rfl
@[simp] theorem t108:tyI Tryz.prog 108=Option.some (Bool.false,1):=by kernel_rfl
@[simp] theorem a108:apI Tryz.prog 108=Option.some (1,4):=by kernel_rfl
@[simp] theorem z108:zA Tryz.prog 108=Option.some (Go.AM.AV.v (Go.Value.int Go.IntKind.u32 0)):=by kernel_rfl
@[simp] theorem k109:kdI Tryz.prog 109=Option.some Go.AM.Kd.other:=by kernel_rfl
@[simp] theorem t109:tyI Tryz.prog 109=Option.some (Bool.false,1):=by kernel_rfl
@[simp] theorem a109:apI Tryz.prog 109=Option.none:=by kernel_rfl
@[simp] theorem z109:zA Tryz.prog 109=Option.none:=by kernel_rfl
@[simp] theorem k111:kdI Tryz.prog 111=Option.some Go.AM.Kd.int:=by kernel_rfl
@[simp] theorem t111:tyI Tryz.prog 111=Option.some (Bool.false,1):=by kernel_rfl
@[simp] theorem a111:apI Tryz.prog 111=Option.some (1,8):=by kernel_rfl
@[simp] theorem z111:zA Tryz.prog 111=Option.some (Go.AM.AV.v (Go.Value.int Go.IntKind.u64 0)):=by kernel_rfl
@[simp] theorem k116:kdI Tryz.prog 116=Option.some Go.AM.Kd.fn:=by kernel_rfl
@[simp] theorem t116:tyI Tryz.prog 116=Option.some (Bool.false,1):=by kernel_rfl
@[simp] theorem z116:zA Tryz.prog 116=Option.some (Go.AM.AV.v Go.Value.nilFunc):=by kernel_rfl
@[simp] theorem k117:kdI Tryz.prog 117=Option.some Go.AM.Kd.fn:=by kernel_rfl
@[simp] theorem t117:tyI Tryz.prog 117=Option.some (Bool.false,1):=by kernel_rfl
@[simp] theorem z117:zA Tryz.prog 117=Option.some (Go.AM.AV.v Go.Value.nilFunc):=by kernel_rfl
@[simp] theorem k118:kdI Tryz.prog 118=Option.some Go.AM.Kd.fn:=by kernel_rfl
@[simp] theorem t118:tyI Tryz.prog 118=Option.some (Bool.false,1):=by kernel_rfl
@[simp] theorem z118:zA Tryz.prog 118=Option.some (Go.AM.AV.v Go.Value.nilFunc):=by kernel_rfl
@[simp] theorem k134:kdI Tryz.prog 134=Option.some Go.AM.Kd.fn:=by kernel_rfl
@[simp] theorem t134:tyI Tryz.prog 134=Option.some (Bool.false,1):=by kernel_rfl
@[simp] theorem z134:zA Tryz.prog 134=Option.some (Go.AM.AV.v Go.Value.nilFunc):=by kernel_rfl
@[simp] theorem k141:kdI Tryz.prog 141=Option.some Go.AM.Kd.int:=by kernel_rfl
@[simp] theorem t141:tyI Tryz.prog 141=Option.some (Bool.false,1):=by kernel_rfl
@[simp] theorem a141:apI Tryz.prog 141=Option.some (1,2):=by kernel_rfl
@[simp] theorem z141:zA Tryz.prog 141=Option.some (Go.AM.AV.v (Go.Value.int Go.IntKind.i16 0)):=by kernel_rfl
@[simp] theorem k143:kdI Tryz.prog 143=Option.some Go.AM.Kd.other:=by kernel_rfl
@[simp] theorem t143:tyI Tryz.prog 143=Option.some (Bool.false,1):=by kernel_rfl
@[simp] theorem a143:apI Tryz.prog 143=Option.none:=by kernel_rfl
@[simp] theorem z143:zA Tryz.prog 143=Option.none:=by kernel_rfl
@[simp] theorem k148:kdI Tryz.prog 148=Option.some Go.AM.Kd.fn:=by kernel_rfl
@[simp] theorem t148:tyI Tryz.prog 148=Option.some (Bool.false,1):=by kernel_rfl
@[simp] theorem z148:zA Tryz.prog 148=Option.some (Go.AM.AV.v Go.Value.nilFunc):=by kernel_rfl
@[simp] theorem k149:kdI Tryz.prog 149=Option.some Go.AM.Kd.fn:=by kernel_rfl
@[simp] theorem t149:tyI Tryz.prog 149=Option.some (Bool.false,1):=by kernel_rfl
@[simp] theorem z149:zA Tryz.prog 149=Option.some (Go.AM.AV.v Go.Value.nilFunc):=by kernel_rfl
@[simp] theorem k150:kdI Tryz.prog 150=Option.some Go.AM.Kd.fn:=by kernel_rfl
@[simp] theorem t150:tyI Tryz.prog 150=Option.some (Bool.false,1):=by kernel_rfl
@[simp] theorem z150:zA Tryz.prog 150=Option.some (Go.AM.AV.v Go.Value.nilFunc):=by kernel_rfl
@[simp] theorem k155:kdI Tryz.prog 155=Option.some Go.AM.Kd.other:=by kernel_rfl
@[simp] theorem t155:tyI Tryz.prog 155=Option.some (Bool.false,1):=by kernel_rfl
@[simp] theorem a155:apI Tryz.prog 155=Option.none:=by kernel_rfl
@[simp] theorem z155:zA Tryz.prog 155=Option.none:=by kernel_rfl
@[simp] theorem k164:kdI Tryz.prog 164=Option.some Go.AM.Kd.fn:=by kernel_rfl
@[simp] theorem t164:tyI Tryz.prog 164=Option.some (Bool.false,1):=by kernel_rfl
@[simp] theorem z164:zA Tryz.prog 164=Option.some (Go.AM.AV.v Go.Value.nilFunc):=by kernel_rfl
@[simp] theorem k166:kdI Tryz.prog 166=Option.some Go.AM.Kd.other:=by kernel_rfl
@[simp] theorem t166:tyI Tryz.prog 166=Option.some (Bool.false,1):=by kernel_rfl
@[simp] theorem a166:apI Tryz.prog 166=Option.none:=by kernel_rfl
@[simp] theorem z166:zA Tryz.prog 166=Option.none:=by kernel_rfl
@[simp] theorem k168:kdI Tryz.prog 168=Option.some Go.AM.Kd.other:=by kernel_rfl
@[simp] theorem t168:tyI Tryz.prog 168=Option.some (Bool.false,1):=by kernel_rfl
@[simp] theorem a168:apI Tryz.prog 168=Option.none:=by kernel_rfl
@[simp] theorem z168:zA Tryz.prog 168=Option.none:=by kernel_rfl
@[simp] theorem k170:kdI Tryz.prog 170=Option.some Go.AM.Kd.ptr:=by kernel_rfl
@[simp] theorem t170:tyI Tryz.prog 170=Option.some (Bool.false,1):=by kernel_rfl
@[simp] theorem z170:zA Tryz.prog 170=Option.some (Go.AM.AV.v (Go.Value.pointer Option.none)):=by kernel_rfl
@[simp] theorem k172:kdI Tryz.prog 172=Option.some Go.AM.Kd.other:=by kernel_rfl
@[simp] theorem t172:tyI Tryz.prog 172=Option.some (Bool.true,2):=by kernel_rfl
@[simp] theorem a172:apI Tryz.prog 172=Option.some (2,32):=by kernel_rfl
@[simp] theorem z172:zA Tryz.prog 172=Option.some (Go.AM.AV.agg [Go.AM.AV.v (Go.Value.pointer Option.none),Go.AM.AV.lst Go.AM.Fl.nil 1 []]):=by kernel_rfl
@[simp] theorem S172:stI Tryz.prog 172=Option.some [(0,1),(1,1)]:=by kernel_rfl
@[simp] theorem r172:arI Tryz.prog 172=Option.none:=by kernel_rfl
@[simp] theorem f172_0:fdI Tryz.prog 172 0=Option.some (0,Bool.false,1):=by kernel_rfl
@[simp] theorem ft172_0:ftI Tryz.prog 172 0=170:=by kernel_rfl
@[simp] theorem f172_1:fdI Tryz.prog 172 1=Option.some (1,Bool.false,1):=by kernel_rfl
@[simp] theorem ft172_1:ftI Tryz.prog 172 1=90:=by kernel_rfl
@[simp] theorem k174:kdI Tryz.prog 174=Option.some Go.AM.Kd.other:=by kernel_rfl
@[simp] theorem t174:tyI Tryz.prog 174=Option.some (Bool.false,1):=by kernel_rfl
@[simp] theorem z174:zA Tryz.prog 174=Option.some (Go.AM.AV.v Go.Value.nilIface):=by kernel_rfl
@[simp] theorem k177:kdI Tryz.prog 177=Option.some Go.AM.Kd.other:=by kernel_rfl
@[simp] theorem t177:tyI Tryz.prog 177=Option.some (Bool.false,1):=by kernel_rfl
@[simp] theorem a177:apI Tryz.prog 177=Option.none:=by kernel_rfl
@[simp] theorem z177:zA Tryz.prog 177=Option.none:=by kernel_rfl
@[simp] theorem k179:kdI Tryz.prog 179=Option.some Go.AM.Kd.int:=by kernel_rfl
@[simp] theorem t179:tyI Tryz.prog 179=Option.some (Bool.false,1):=by kernel_rfl
@[simp] theorem a179:apI Tryz.prog 179=Option.some (1,8):=by kernel_rfl
@[simp] theorem z179:zA Tryz.prog 179=Option.some (Go.AM.AV.v (Go.Value.int Go.IntKind.u64 0)):=by kernel_rfl
@[simp] theorem k180:kdI Tryz.prog 180=Option.some Go.AM.Kd.other:=by kernel_rfl
@[simp] theorem t180:tyI Tryz.prog 180=Option.some (Bool.false,1):=by kernel_rfl
@[simp] theorem a180:apI Tryz.prog 180=Option.none:=by kernel_rfl
@[simp] theorem z180:zA Tryz.prog 180=Option.none:=by kernel_rfl
@[simp] theorem k184:kdI Tryz.prog 184=Option.some Go.AM.Kd.ptr:=by kernel_rfl
@[simp] theorem t184:tyI Tryz.prog 184=Option.some (Bool.false,1):=by kernel_rfl
@[simp] theorem z184:zA Tryz.prog 184=Option.some (Go.AM.AV.v (Go.Value.pointer Option.none)):=by kernel_rfl
@[simp] theorem k185:kdI Tryz.prog 185=Option.some Go.AM.Kd.other:=by kernel_rfl
@[simp] theorem t185:tyI Tryz.prog 185=Option.some (Bool.false,1):=by kernel_rfl
@[simp] theorem a185:apI Tryz.prog 185=Option.some (1,8):=by kernel_rfl
@[simp] theorem z185:zA Tryz.prog 185=Option.some (Go.AM.AV.v (Go.Value.pointer Option.none)):=by kernel_rfl
@[simp] theorem c3_5:cvI Tryz.prog 3 5=Option.some (Go.AM.Cv.toInt Go.IntKind.u8):=by kernel_rfl
@[simp] theorem c3_108:cvI Tryz.prog 3 108=Option.some (Go.AM.Cv.toInt Go.IntKind.u32):=by kernel_rfl
@[simp] theorem c3_111:cvI Tryz.prog 3 111=Option.some (Go.AM.Cv.toInt Go.IntKind.u64):=by kernel_rfl
@[simp] theorem c5_3:cvI Tryz.prog 5 3=Option.some (Go.AM.Cv.toInt Go.IntKind.i64):=by kernel_rfl
@[simp] theorem c5_141:cvI Tryz.prog 5 141=Option.some (Go.AM.Cv.toInt Go.IntKind.i16):=by kernel_rfl
@[simp] theorem c21_108:cvI Tryz.prog 21 108=Option.some (Go.AM.Cv.toInt Go.IntKind.u32):=by kernel_rfl
@[simp] theorem c90_9:cvI Tryz.prog 90 9=Option.some Go.AM.Cv.b2s:=by kernel_rfl
@[simp] theorem c108_3:cvI Tryz.prog 108 3=Option.some (Go.AM.Cv.toInt Go.IntKind.i64):=by kernel_rfl
@[simp] theorem c108_5:cvI Tryz.prog 108 5=Option.some (Go.AM.Cv.toInt Go.IntKind.u8):=by kernel_rfl
@[simp] theorem c108_111:cvI Tryz.prog 108 111=Option.some (Go.AM.Cv.toInt Go.IntKind.u64):=by kernel_rfl
@[simp] theorem c108_179:cvI Tryz.prog 108 179=Option.some (Go.AM.Cv.toInt Go.IntKind.u64):=by kernel_rfl
@[simp] theorem c111_3:cvI Tryz.prog 111 3=Option.some (Go.AM.Cv.toInt Go.IntKind.i64):=by kernel_rfl
@[simp] theorem c111_108:cvI Tryz.prog 111 108=Option.some (Go.AM.Cv.toInt Go.IntKind.u32):=by kernel_rfl
@[simp] theorem c141_21:cvI Tryz.prog 141 21=Option.some (Go.AM.Cv.toInt Go.IntKind.i32):=by kernel_rfl
@[simp] theorem c170_185:cvI Tryz.prog 170 185=Option.none:=by kernel_rfl
@[simp] theorem c179_108:cvI Tryz.prog 179 108=Option.some (Go.AM.Cv.toInt Go.IntKind.u32):=by kernel_rfl
@[simp] theorem c185_170:cvI Tryz.prog 185 170=Option.none:=by kernel_rfl
set_option linter.unusedSimpArgs false
set_option linter.unusedVariables false
set_option maxHeartbeats 8000000
set_option maxRecDepth 20000
structure Dcb where
 org:Int
 fmt:Int
 blk:Bool
 asa:Bool
 lrecl:Int
 size:Int
 klen:Int
 kpos:Int
@[simp] def dcbA (d:Dcb):AV:=.agg [.v (.int .i64 d.org),.v (.int .i64 d.fmt),.v (.bool d.blk),.v (.bool d.asa),.v (.int .i64 d.lrecl),.v (.int .i64 d.size),.v (.int .i64 d.klen),.v (.int .i64 d.kpos)]
def wp9 (d:Dcb):Bool :=
 if d.fmt == 1 then (if d.lrecl < 1 then false else if d.size < d.lrecl then false else if d.blk then d.size.tmod d.lrecl == 0 else d.size == d.lrecl)
 else if d.fmt == 2 then (if (4:Int) < d.lrecl then decide (d.lrecl≤IntKind.i64.wrap (d.size - 4)) else false)
 else if d.fmt == 3 then (if d.lrecl == 0 then !d.blk else false) else false
def jv8 (d:Dcb):Bool :=
 if d.org == 3 then
  (if d.fmt == 1 then if (1:Int)≤d.klen then if d.klen≤64 then if (0:Int)≤d.kpos then decide (d.kpos≤IntKind.i64.wrap (d.lrecl - d.klen)) else false else false else false else false)
 else if d.klen == 0 then d.kpos == 0 else false
def zn9 (d:Dcb):Int :=
 if d.org < 1 then 5 else if (3:Int) < d.org then 5 else if d.size < 1 then 5 else if (1024:Int) < d.size then 5 else if wp9 d=false then 5 else if jv8 d=false then 5 else 0
def vv9 (d:Dcb) (n:Int):Bool :=
 if d.fmt == 1 then n == d.lrecl else if d.fmt == 2 then (if (1:Int)≤n then decide (n≤IntKind.i64.wrap (d.lrecl - 4)) else false)
 else if (1:Int)≤n then decide (n≤d.size) else false
def inM (a b c:Int):Bool:=if b≤a then decide (a≤c) else false
def wl9 (d:Dcb):Bool :=
 if inM d.org 1 3=false then false else if (1024:Int) < d.size then false else
 if (if d.org == 3 then (d.fmt == 1&&inM d.klen 1 64&&inM d.kpos 0 (IntKind.i64.wrap (d.lrecl - d.klen))) else (d.klen == 0&&d.kpos == 0))=false then false else
 if d.fmt == 1 then (if inM d.lrecl 1 d.size=false then false else if d.size == d.lrecl then true else if d.blk then d.size.tmod d.lrecl == 0 else false)
 else if d.fmt == 2 then (if (9:Int)≤d.size then inM d.lrecl 5 (IntKind.i64.wrap (d.size - 4)) else false)
 else if d.fmt == 3 then (if (1:Int)≤d.size then if d.lrecl == 0 then !d.blk else false else false) else false
def xg7 (d:Dcb) (n:Int):Bool :=
 if wl9 d=false then false else if d.fmt == 1 then n == d.lrecl else if d.fmt == 2 then inM n 1 (IntKind.i64.wrap (d.lrecl - 4)) else inM n 1 d.size
theorem jj8 (d:Dcb):Sound Tryz.prog 103 [dcbA d] (.v (.bool (wp9 d))):=by
 refine yc9 Tryz.func103 rfl (by decide +kernel) (by simp [Tryz.f103]) rfl rfl (rs:=[.tmp 2]) rfl ?_
 rw [show Tryz.f103.ntmps=53 from rfl]
 refine yr9 [1] (by simp;rfl) ?_
 refine yh9 ?_
 refine yr9 [1,4] (by simp;rfl) ?_
 refine yl9 ?_
 refine yr9 [1,4,5] (by simp;rfl) ?_
 rcases Bool.eq_false_or_eq_true (d.fmt == 1) with h1 | h1
 ·skip
  have h1n:(d.fmt != 1)=false:=by simp only [bne,h1];rfl
  have h1p:d.fmt=1:=by simpa using h1
  refine yt9 (by simp [h1,h1n,h1p];rfl) (fun _=>?_) (fun hx=>by simp [h1,h1n,h1p] at hx)
  refine yh9 ?_
  by_cases h2:d.lrecl < 1
  ·skip
   refine yr9 [1,16] (by simp [h1,h1n,h1p,h2];rfl) ?_
   refine yt9 rfl (fun _=>?_) (fun hx=>by simp at hx)
   refine yr9 [2] (by simp [h1,h1n,h1p,h2];rfl) ?_
   refine yj9 ?_
   repeat (first | refine yp9 ?_ | refine ys9 ?_)
   simp [retQ,wp9,h1,h1n,h1p,h2]
  ·skip
   refine yr9 [1,16] (by simp [h1,h1n,h1p,h2];rfl) ?_
   by_cases h3:d.size < d.lrecl
   ·skip
    refine yt9 (by simp [h1,h1n,h1p,h2,h3];rfl) (fun _=>?_) (fun hx=>by simp [h1,h1n,h1p,h2,h3] at hx)
    refine yr9 [2] (by simp [h1,h1n,h1p,h2,h3];rfl) ?_
    refine yj9 ?_
    repeat (first | refine yp9 ?_ | refine ys9 ?_)
    simp [retQ,wp9,h1,h1n,h1p,h2,h3]
   ·skip
    refine yt9 (by simp [h1,h1n,h1p,h2,h3];rfl) (fun hx=>by simp [h1,h1n,h1p,h2,h3] at hx) (fun _=>?_)
    refine yg9 ?_
    refine yh9 ?_
    refine yr9 [1,18] (by simp [h1,h1n,h1p,h2,h3];rfl) ?_
    rcases Bool.eq_false_or_eq_true (d.blk) with h4 | h4
    ·skip
     refine yt9 (by simp [h1,h1n,h1p,h2,h3,h4];rfl) (fun _=>?_) (fun hx=>by simp [h1,h1n,h1p,h2,h3,h4] at hx)
     have h5:¬ d.lrecl=0:=by first | omega | (simp only [inM] at *;split at * <;> simp_all <;> omega)
     refine yr9 [2] (by simp [h1,h1n,h1p,h2,h3,h4,h5];rfl) ?_
     refine yj9 ?_
     repeat (first | refine yp9 ?_ | refine ys9 ?_)
     simp [retQ,wp9,h1,h1n,h1p,h2,h3,h4,h5]
    ·skip
     refine yt9 (by simp [h1,h1n,h1p,h2,h3,h4];rfl) (fun hx=>by simp [h1,h1n,h1p,h2,h3,h4] at hx) (fun _=>?_)
     refine yg9 ?_
     refine yr9 [2] (by simp [h1,h1n,h1p,h2,h3,h4];rfl) ?_
     refine yj9 ?_
     repeat (first | refine yp9 ?_ | refine ys9 ?_)
     simp [retQ,wp9,h1,h1n,h1p,h2,h3,h4]
 ·skip
  have h1n:(d.fmt != 1)=true:=by simp only [bne,h1];rfl
  have h1p:¬ d.fmt=1:=by simpa using h1
  refine yt9 (by simp [h1,h1n,h1p];rfl) (fun hx=>by simp [h1,h1n,h1p] at hx) (fun _=>?_)
  refine yr9 [1,4,30] (by simp [h1,h1n,h1p];rfl) ?_
  rcases Bool.eq_false_or_eq_true (d.fmt == 2) with h6 | h6
  ·skip
   have h6n:(d.fmt != 2)=false:=by simp only [bne,h6];rfl
   have h6p:d.fmt=2:=by simpa using h6
   refine yt9 (by simp [h1,h1n,h1p,h6,h6n,h6p];rfl) (fun _=>?_) (fun hx=>by simp [h1,h1n,h1p,h6,h6n,h6p] at hx)
   by_cases h7:(4:Int) < d.lrecl
   ·skip
    refine W_rK [2] ?_
    refine yq9 6 (by simp [h1,h1n,h1p,h6,h6n,h6p,h7];rfl) rfl ?_
    refine yw9 (by simp [h1,h1n,h1p,h6,h6n,h6p,h7];rfl) ?_
    refine yj9 ?_
    repeat (first | refine yp9 ?_ | refine ys9 ?_)
    simp [retQ,wp9,h1,h1n,h1p,h6,h6n,h6p,h7]
   ·skip
    refine W_rK [2] ?_
    refine yq9 6 (by simp [h1,h1n,h1p,h6,h6n,h6p,h7];rfl) rfl ?_
    refine yw9 (by simp [h1,h1n,h1p,h6,h6n,h6p,h7];rfl) ?_
    refine yj9 ?_
    repeat (first | refine yp9 ?_ | refine ys9 ?_)
    simp [retQ,wp9,h1,h1n,h1p,h6,h6n,h6p,h7]
  ·skip
   have h6n:(d.fmt != 2)=true:=by simp only [bne,h6];rfl
   have h6p:¬ d.fmt=2:=by simpa using h6
   refine yt9 (by simp [h1,h1n,h1p,h6,h6n,h6p];rfl) (fun hx=>by simp [h1,h1n,h1p,h6,h6n,h6p] at hx) (fun _=>?_)
   refine yr9 [1,43] (by simp [h1,h1n,h1p,h6,h6n,h6p];rfl) ?_
   rcases Bool.eq_false_or_eq_true (d.fmt == 3) with h8 | h8
   ·skip
    have h8n:(d.fmt != 3)=false:=by simp only [bne,h8];rfl
    have h8p:d.fmt=3:=by simpa using h8
    refine yt9 (by simp [h1,h1n,h1p,h6,h6n,h6p,h8,h8n,h8p];rfl) (fun _=>?_) (fun hx=>by simp [h1,h1n,h1p,h6,h6n,h6p,h8,h8n,h8p] at hx)
    rcases Bool.eq_false_or_eq_true (d.lrecl == 0) with h9 | h9
    ·skip
     have h9n:(d.lrecl != 0)=false:=by simp only [bne,h9];rfl
     have h9p:d.lrecl=0:=by simpa using h9
     refine yr9 [2] (by simp [h1,h1n,h1p,h6,h6n,h6p,h8,h8n,h8p,h9,h9n,h9p];rfl) ?_
     refine yj9 ?_
     repeat (first | refine yp9 ?_ | refine ys9 ?_)
     simp [retQ,wp9,h1,h1n,h1p,h6,h6n,h6p,h8,h8n,h8p,h9,h9n,h9p]
    ·skip
     have h9n:(d.lrecl != 0)=true:=by simp only [bne,h9];rfl
     have h9p:¬ d.lrecl=0:=by simpa using h9
     refine yr9 [2] (by simp [h1,h1n,h1p,h6,h6n,h6p,h8,h8n,h8p,h9,h9n,h9p];rfl) ?_
     refine yj9 ?_
     repeat (first | refine yp9 ?_ | refine ys9 ?_)
     simp [retQ,wp9,h1,h1n,h1p,h6,h6n,h6p,h8,h8n,h8p,h9,h9n,h9p]
   ·skip
    have h8n:(d.fmt != 3)=true:=by simp only [bne,h8];rfl
    have h8p:¬ d.fmt=3:=by simpa using h8
    refine yt9 (by simp [h1,h1n,h1p,h6,h6n,h6p,h8,h8n,h8p];rfl) (fun hx=>by simp [h1,h1n,h1p,h6,h6n,h6p,h8,h8n,h8p] at hx) (fun _=>?_)
    refine yg9 ?_
    refine yr9 [2] (by simp [h1,h1n,h1p,h6,h6n,h6p,h8,h8n,h8p];rfl) ?_
    refine yj9 ?_
    repeat (first | refine yp9 ?_ | refine ys9 ?_)
    simp [retQ,wp9,h1,h1n,h1p,h6,h6n,h6p,h8,h8n,h8p]
theorem keys_sound (d:Dcb):Sound Tryz.prog 104 [dcbA d] (.v (.bool (jv8 d))):=by
 refine yc9 Tryz.func104 rfl (by decide +kernel) (by simp [Tryz.f104]) rfl rfl (rs:=[.tmp 2]) rfl ?_
 rw [show Tryz.f104.ntmps=42 from rfl]
 refine yr9 [1] (by simp;rfl) ?_
 refine yh9 ?_
 refine yr9 [1,5] (by simp;rfl) ?_
 rcases Bool.eq_false_or_eq_true (d.org == 3) with h1 | h1
 ·skip
  have h1n:(d.org != 3)=false:=by simp only [bne,h1];rfl
  have h1p:d.org=3:=by simpa using h1
  refine yt9 (by simp [h1,h1n,h1p];rfl) (fun hx=>by simp [h1,h1n,h1p] at hx) (fun _=>?_)
  refine yg9 ?_
  rcases Bool.eq_false_or_eq_true (d.fmt == 1) with h2 | h2
  ·skip
   have h2n:(d.fmt != 1)=false:=by simp only [bne,h2];rfl
   have h2p:d.fmt=1:=by simpa using h2
   by_cases h3:(1:Int)≤d.klen
   ·skip
    by_cases h4:d.klen≤64
    ·skip
     by_cases h5:(0:Int)≤d.kpos
     ·skip
      refine W_rK [2] ?_
      iterate 4 refine yq9 6 (by simp [h1,h1n,h1p,h2,h2n,h2p,h3,h4,h5];rfl) rfl ?_
      refine yw9 (by simp [h1,h1n,h1p,h2,h2n,h2p,h3,h4,h5];rfl) ?_
      refine yj9 ?_
      repeat (first | refine yp9 ?_ | refine ys9 ?_)
      simp [retQ,jv8,h1,h1n,h1p,h2,h2n,h2p,h3,h4,h5]
     ·skip
      refine W_rK [2] ?_
      iterate 4 refine yq9 6 (by simp [h1,h1n,h1p,h2,h2n,h2p,h3,h4,h5];rfl) rfl ?_
      refine yw9 (by simp [h1,h1n,h1p,h2,h2n,h2p,h3,h4,h5];rfl) ?_
      refine yj9 ?_
      repeat (first | refine yp9 ?_ | refine ys9 ?_)
      simp [retQ,jv8,h1,h1n,h1p,h2,h2n,h2p,h3,h4,h5]
    ·skip
     refine W_rK [2] ?_
     iterate 4 refine yq9 6 (by simp [h1,h1n,h1p,h2,h2n,h2p,h3,h4];rfl) rfl ?_
     refine yw9 (by simp [h1,h1n,h1p,h2,h2n,h2p,h3,h4];rfl) ?_
     refine yj9 ?_
     repeat (first | refine yp9 ?_ | refine ys9 ?_)
     simp [retQ,jv8,h1,h1n,h1p,h2,h2n,h2p,h3,h4]
   ·skip
    refine W_rK [2] ?_
    iterate 4 refine yq9 6 (by simp [h1,h1n,h1p,h2,h2n,h2p,h3];rfl) rfl ?_
    refine yw9 (by simp [h1,h1n,h1p,h2,h2n,h2p,h3];rfl) ?_
    refine yj9 ?_
    repeat (first | refine yp9 ?_ | refine ys9 ?_)
    simp [retQ,jv8,h1,h1n,h1p,h2,h2n,h2p,h3]
  ·skip
   have h2n:(d.fmt != 1)=true:=by simp only [bne,h2];rfl
   have h2p:¬ d.fmt=1:=by simpa using h2
   refine W_rK [2] ?_
   iterate 4 refine yq9 6 (by simp [h1,h1n,h1p,h2,h2n,h2p];rfl) rfl ?_
   refine yw9 (by simp [h1,h1n,h1p,h2,h2n,h2p];rfl) ?_
   refine yj9 ?_
   repeat (first | refine yp9 ?_ | refine ys9 ?_)
   simp [retQ,jv8,h1,h1n,h1p,h2,h2n,h2p]
 ·skip
  have h1n:(d.org != 3)=true:=by simp only [bne,h1];rfl
  have h1p:¬ d.org=3:=by simpa using h1
  refine yt9 (by simp [h1,h1n,h1p];rfl) (fun _=>?_) (fun hx=>by simp [h1,h1n,h1p] at hx)
  rcases Bool.eq_false_or_eq_true (d.klen == 0) with h6 | h6
  ·skip
   have h6n:(d.klen != 0)=false:=by simp only [bne,h6];rfl
   have h6p:d.klen=0:=by simpa using h6
   refine yr9 [2] (by simp [h1,h1n,h1p,h6,h6n,h6p];rfl) ?_
   refine yj9 ?_
   repeat (first | refine yp9 ?_ | refine ys9 ?_)
   simp [retQ,jv8,h1,h1n,h1p,h6,h6n,h6p]
  ·skip
   have h6n:(d.klen != 0)=true:=by simp only [bne,h6];rfl
   have h6p:¬ d.klen=0:=by simpa using h6
   refine yr9 [2] (by simp [h1,h1n,h1p,h6,h6n,h6p];rfl) ?_
   refine yj9 ?_
   repeat (first | refine yp9 ?_ | refine ys9 ?_)
   simp [retQ,jv8,h1,h1n,h1p,h6,h6n,h6p]
theorem kg8 (d:Dcb):Sound Tryz.prog 66 [dcbA d] (.v (.int .i64 (zn9 d))):=by
 refine yc9 Tryz.func66 rfl (by decide +kernel) (by simp [Tryz.f66]) rfl rfl (rs:=[.tmp 2]) rfl ?_
 rw [show Tryz.f66.ntmps=31 from rfl]
 refine yr9 [1] (by simp;rfl) ?_
 refine yh9 ?_
 by_cases h1:d.org < 1
 ·skip
  refine W_rK [30] ?_
  iterate 4 refine yq9 6 (by simp [h1];rfl) rfl ?_
  refine yw9 (by simp [h1];rfl) ?_
  refine yt9 rfl (fun _=>?_) (fun hx=>by simp at hx)
  refine yr9 [2] (by simp [h1];rfl) ?_
  refine yj9 ?_
  repeat (first | refine yp9 ?_ | refine ys9 ?_)
  simp [retQ,zn9,h1]
 ·skip
  by_cases h2:(3:Int) < d.org
  ·skip
   refine W_rK [30] ?_
   iterate 4 refine yq9 6 (by simp [h1,h2];rfl) rfl ?_
   refine yw9 (by simp [h1,h2];rfl) ?_
   refine yt9 rfl (fun _=>?_) (fun hx=>by simp at hx)
   refine yr9 [2] (by simp [h1,h2];rfl) ?_
   refine yj9 ?_
   repeat (first | refine yp9 ?_ | refine ys9 ?_)
   simp [retQ,zn9,h1,h2]
  ·skip
   by_cases h3:d.size < 1
   ·skip
    refine W_rK [30] ?_
    iterate 4 refine yq9 6 (by simp [h1,h2,h3];rfl) rfl ?_
    refine yw9 (by simp [h1,h2,h3];rfl) ?_
    refine yt9 rfl (fun _=>?_) (fun hx=>by simp at hx)
    refine yr9 [2] (by simp [h1,h2,h3];rfl) ?_
    refine yj9 ?_
    repeat (first | refine yp9 ?_ | refine ys9 ?_)
    simp [retQ,zn9,h1,h2,h3]
   ·skip
    by_cases h4:(1024:Int) < d.size
    ·skip
     refine W_rK [30] ?_
     iterate 4 refine yq9 6 (by simp [h1,h2,h3,h4];rfl) rfl ?_
     refine yw9 (by simp [h1,h2,h3,h4];rfl) ?_
     refine yt9 rfl (fun _=>?_) (fun hx=>by simp at hx)
     refine yr9 [2] (by simp [h1,h2,h3,h4];rfl) ?_
     refine yj9 ?_
     repeat (first | refine yp9 ?_ | refine ys9 ?_)
     simp [retQ,zn9,h1,h2,h3,h4]
    ·skip
     rcases Bool.eq_false_or_eq_true (wp9 d) with h5 | h5
     ·skip
      refine W_rK [30] ?_
      iterate 2 refine yq9 6 (by simp [h1,h2,h3,h4,h5];rfl) rfl ?_
      refine yq9 8 (by simp [h1,h2,h3,h4,h5];rfl) rfl ?_
      refine yf9 (by simp) (by first | (simp;done) | (simp;rfl)) (jj8 d) (by simp;rfl) ?_
      refine yq9 4 (by simp [h1,h2,h3,h4,h5];rfl) rfl ?_
      refine yf9 (by simp) (by first | (simp;done) | (simp;rfl)) (keys_sound d) (by simp;rfl) ?_
      refine yw9 (by simp [h1,h2,h3,h4,h5];rfl) ?_
      rcases Bool.eq_false_or_eq_true (jv8 d) with h6 | h6
      ·skip
       refine yt9 (by simp [h1,h2,h3,h4,h5,h6];rfl) (fun hx=>by simp [h1,h2,h3,h4,h5,h6] at hx) (fun _=>?_)
       refine yg9 ?_
       refine yr9 [2] (by simp [h1,h2,h3,h4,h5,h6];rfl) ?_
       refine yj9 ?_
       repeat (first | refine yp9 ?_ | refine ys9 ?_)
       simp [retQ,zn9,h1,h2,h3,h4,h5,h6]
      ·skip
       refine yt9 (by simp [h1,h2,h3,h4,h5,h6];rfl) (fun _=>?_) (fun hx=>by simp [h1,h2,h3,h4,h5,h6] at hx)
       refine yr9 [2] (by simp [h1,h2,h3,h4,h5,h6];rfl) ?_
       refine yj9 ?_
       repeat (first | refine yp9 ?_ | refine ys9 ?_)
       simp [retQ,zn9,h1,h2,h3,h4,h5,h6]
     ·skip
      refine W_rK [30] ?_
      iterate 2 refine yq9 6 (by simp [h1,h2,h3,h4,h5];rfl) rfl ?_
      refine yq9 8 (by simp [h1,h2,h3,h4,h5];rfl) rfl ?_
      refine yf9 (by simp) (by first | (simp;done) | (simp;rfl)) (jj8 d) (by simp;rfl) ?_
      refine yw9 (by simp [h1,h2,h3,h4,h5];rfl) ?_
      refine yt9 rfl (fun _=>?_) (fun hx=>by simp at hx)
      refine yr9 [2] (by simp [h1,h2,h3,h4,h5];rfl) ?_
      refine yj9 ?_
      repeat (first | refine yp9 ?_ | refine ys9 ?_)
      simp [retQ,zn9,h1,h2,h3,h4,h5]
theorem xj6 (d:Dcb) (n:Int):Sound Tryz.prog 77 [dcbA d,.v (.int .i64 n)] (.v (.bool (vv9 d n))):=by
 refine yc9 Tryz.func77 rfl (by decide +kernel) (by simp [Tryz.f77]) rfl rfl (rs:=[.tmp 4]) rfl ?_
 rw [show Tryz.f77.ntmps=32 from rfl]
 refine yr9 [1,2] (by simp;rfl) ?_
 refine yh9 ?_
 refine yr9 [1,2,6] (by simp;rfl) ?_
 refine yl9 ?_
 refine yr9 [1,2,6,7] (by simp;rfl) ?_
 rcases Bool.eq_false_or_eq_true (d.fmt == 1) with h1 | h1
 ·skip
  have h1n:(d.fmt != 1)=false:=by simp only [bne,h1];rfl
  have h1p:d.fmt=1:=by simpa using h1
  refine yt9 (by simp [h1,h1n,h1p];rfl) (fun _=>?_) (fun hx=>by simp [h1,h1n,h1p] at hx)
  refine yr9 [4] (by simp [h1,h1n,h1p];rfl) ?_
  refine yj9 ?_
  repeat (first | refine yp9 ?_ | refine ys9 ?_)
  simp [retQ,vv9,h1,h1n,h1p]
 ·skip
  have h1n:(d.fmt != 1)=true:=by simp only [bne,h1];rfl
  have h1p:¬ d.fmt=1:=by simpa using h1
  refine yt9 (by simp [h1,h1n,h1p];rfl) (fun hx=>by simp [h1,h1n,h1p] at hx) (fun _=>?_)
  refine yr9 [1,2,13] (by simp [h1,h1n,h1p];rfl) ?_
  rcases Bool.eq_false_or_eq_true (d.fmt == 2) with h2 | h2
  ·skip
   have h2n:(d.fmt != 2)=false:=by simp only [bne,h2];rfl
   have h2p:d.fmt=2:=by simpa using h2
   refine yt9 (by simp [h1,h1n,h1p,h2,h2n,h2p];rfl) (fun _=>?_) (fun hx=>by simp [h1,h1n,h1p,h2,h2n,h2p] at hx)
   by_cases h3:(1:Int)≤n
   ·skip
    refine yr9 [4] (by simp [h1,h1n,h1p,h2,h2n,h2p,h3];rfl) ?_
    refine yj9 ?_
    repeat (first | refine yp9 ?_ | refine ys9 ?_)
    simp [retQ,vv9,h1,h1n,h1p,h2,h2n,h2p,h3]
   ·skip
    refine yr9 [4] (by simp [h1,h1n,h1p,h2,h2n,h2p,h3];rfl) ?_
    refine yj9 ?_
    repeat (first | refine yp9 ?_ | refine ys9 ?_)
    simp [retQ,vv9,h1,h1n,h1p,h2,h2n,h2p,h3]
  ·skip
   have h2n:(d.fmt != 2)=true:=by simp only [bne,h2];rfl
   have h2p:¬ d.fmt=2:=by simpa using h2
   refine yt9 (by simp [h1,h1n,h1p,h2,h2n,h2p];rfl) (fun hx=>by simp [h1,h1n,h1p,h2,h2n,h2p] at hx) (fun _=>?_)
   refine yg9 ?_
   by_cases h4:(1:Int)≤n
   ·skip
    refine yr9 [4] (by simp [h1,h1n,h1p,h2,h2n,h2p,h4];rfl) ?_
    refine yj9 ?_
    repeat (first | refine yp9 ?_ | refine ys9 ?_)
    simp [retQ,vv9,h1,h1n,h1p,h2,h2n,h2p,h4]
   ·skip
    refine yr9 [4] (by simp [h1,h1n,h1p,h2,h2n,h2p,h4];rfl) ?_
    refine yj9 ?_
    repeat (first | refine yp9 ?_ | refine ys9 ?_)
    simp [retQ,vv9,h1,h1n,h1p,h2,h2n,h2p,h4]
theorem qm9 (a b c:Int):Sound Tryz.prog 118 [.v (.int .i64 a),.v (.int .i64 b),.v (.int .i64 c)] (.v (.bool (inM a b c))):=by
 refine yc9 Tryz.func118 rfl (by decide +kernel) (by simp [Tryz.f118]) rfl rfl (rs:=[.tmp 6]) rfl ?_
 rw [show Tryz.f118.ntmps=15 from rfl]
 refine yr9 [0,1,2] (by simp;rfl) ?_
 by_cases h1:b≤a
 ·skip
  refine yr9 [6] (by simp [h1];rfl) ?_
  refine yj9 ?_
  repeat (first | refine yp9 ?_ | refine ys9 ?_)
  simp [retQ,inM,h1]
 ·skip
  refine yr9 [6] (by simp [h1];rfl) ?_
  refine yj9 ?_
  repeat (first | refine yp9 ?_ | refine ys9 ?_)
  simp [retQ,inM,h1]
theorem qf8 (d:Dcb):Sound Tryz.prog 84 [dcbA d] (.v (.bool (wl9 d))):=by
 refine yc9 Tryz.func84 rfl (by decide +kernel) (by simp [Tryz.f84]) rfl rfl (rs:=[.tmp 2]) rfl ?_
 rw [show Tryz.f84.ntmps=98 from rfl]
 refine yr9 [1] (by simp;rfl) ?_
 refine yh9 ?_
 rcases Bool.eq_false_or_eq_true (inM d.org 1 3) with h1 | h1
 ·skip
  refine W_rK [1,11] ?_
  refine yq9 2 (by simp [h1];rfl) rfl ?_
  refine yf9 (by simp) (by first | (simp;done) | (simp;rfl)) (qm9 d.org 1 3) (by simp;rfl) ?_
  refine yw9 (by simp [h1];rfl) ?_
  by_cases h2:(1024:Int) < d.size
  ·skip
   refine yt9 (by simp [h1,h2];rfl) (fun _=>?_) (fun hx=>by simp [h1,h2] at hx)
   refine yr9 [2] (by simp [h1,h2];rfl) ?_
   refine yj9 ?_
   repeat (first | refine yp9 ?_ | refine ys9 ?_)
   simp [retQ,wl9,show inM 3 1 3=true from rfl,h1,h2]
  ·skip
   refine yt9 (by simp [h1,h2];rfl) (fun hx=>by simp [h1,h2] at hx) (fun _=>?_)
   refine yg9 ?_
   refine yh9 ?_
   refine yr9 [1,14] (by simp [h1,h2];rfl) ?_
   rcases Bool.eq_false_or_eq_true (d.org == 3) with h3 | h3
   ·skip
    have h3n:(d.org != 3)=false:=by simp only [bne,h3];rfl
    have h3p:d.org=3:=by simpa using h3
    refine yt9 (by simp [h1,h2,h3,h3n,h3p];rfl) (fun _=>?_) (fun hx=>by simp [h1,h2,h3,h3n,h3p] at hx)
    rcases Bool.eq_false_or_eq_true (d.fmt == 1) with h4 | h4
    ·skip
     have h4n:(d.fmt != 1)=false:=by simp only [bne,h4];rfl
     have h4p:d.fmt=1:=by simpa using h4
     rcases Bool.eq_false_or_eq_true (inM d.klen 1 64) with h5 | h5
     ·skip
      refine W_rK [1,34] ?_
      refine yq9 6 (by simp [h1,h2,h3,h3n,h3p,h4,h4n,h4p,h5];rfl) rfl ?_
      refine yf9 (by simp) (by first | (simp;done) | (simp;rfl)) (qm9 d.klen 1 64) (by simp;rfl) ?_
      refine yq9 6 (by simp [h1,h2,h3,h3n,h3p,h4,h4n,h4p,h5];rfl) rfl ?_
      refine yq9 4 (by simp [h1,h2,h3,h3n,h3p,h4,h4n,h4p,h5];rfl) rfl ?_
      refine yf9 (by simp) (by first | (simp;done) | (simp;rfl)) (qm9 d.kpos 0 (IntKind.i64.wrap (d.lrecl - d.klen))) (by simp;rfl) ?_
      refine yw9 (by simp [h1,h2,h3,h3n,h3p,h4,h4n,h4p,h5];rfl) ?_
      rcases Bool.eq_false_or_eq_true (inM d.kpos 0 (IntKind.i64.wrap (d.lrecl - d.klen))) with h6 | h6
      ·skip
       refine yt9 (by simp [h1,h2,h3,h3n,h3p,h4,h4n,h4p,h5,h6];rfl) (fun hx=>by simp [h1,h2,h3,h3n,h3p,h4,h4n,h4p,h5,h6] at hx) (fun _=>?_)
       refine yg9 ?_
       refine yh9 ?_
       refine yr9 [1,44] (by simp [h1,h2,h3,h3n,h3p,h4,h4n,h4p,h5,h6];rfl) ?_
       refine yl9 ?_
       refine yr9 [1,44,45] (by simp [h1,h2,h3,h3n,h3p,h4,h4n,h4p,h5,h6];rfl) ?_
       refine yt9 rfl (fun _=>?_) (fun hx=>by simp at hx)
       refine yh9 ?_
       refine W_rK [1,52] ?_
       refine yq9 4 (by simp [h1,h2,h3,h3n,h3p,h4,h4n,h4p,h5,h6];rfl) rfl ?_
       refine yf9 (by simp) (by first | (simp;done) | (simp;rfl)) (qm9 d.lrecl 1 d.size) (by simp;rfl) ?_
       refine yw9 (by simp [h1,h2,h3,h3n,h3p,h4,h4n,h4p,h5,h6];rfl) ?_
       rcases Bool.eq_false_or_eq_true (inM d.lrecl 1 d.size) with h7 | h7
       ·skip
        refine yt9 (by simp [h1,h2,h3,h3n,h3p,h4,h4n,h4p,h5,h6,h7];rfl) (fun hx=>by simp [h1,h2,h3,h3n,h3p,h4,h4n,h4p,h5,h6,h7] at hx) (fun _=>?_)
        refine yg9 ?_
        rcases Bool.eq_false_or_eq_true (d.size == d.lrecl) with h8 | h8
        ·skip
         have h8n:(d.size != d.lrecl)=false:=by simp only [bne,h8];rfl
         refine W_rK [2] ?_
         iterate 2 refine yq9 6 (by simp [h1,h2,h3,h3n,h3p,h4,h4n,h4p,h5,h6,h7,h8,h8n];rfl) rfl ?_
         refine yw9 (by simp [h1,h2,h3,h3n,h3p,h4,h4n,h4p,h5,h6,h7,h8,h8n];rfl) ?_
         refine yj9 ?_
         repeat (first | refine yp9 ?_ | refine ys9 ?_)
         simp [retQ,wl9,show inM 3 1 3=true from rfl,h1,h2,h3,h3n,h3p,h4,h4n,h4p,h5,h6,h7,h8,h8n]
        ·skip
         have h8n:(d.size != d.lrecl)=true:=by simp only [bne,h8];rfl
         have h8p:¬ d.size=d.lrecl:=by simpa using h8
         rcases Bool.eq_false_or_eq_true (d.blk) with h9 | h9
         ·skip
          have h10:¬ d.lrecl=0:=by first | omega | (simp only [inM] at *;split at * <;> simp_all <;> omega)
          refine W_rK [2] ?_
          iterate 2 refine yq9 6 (by simp [h1,h2,h3,h3n,h3p,h4,h4n,h4p,h5,h6,h7,h8,h8n,h8p,h9,h10];rfl) rfl ?_
          refine yw9 (by simp [h1,h2,h3,h3n,h3p,h4,h4n,h4p,h5,h6,h7,h8,h8n,h8p,h9,h10];rfl) ?_
          refine yj9 ?_
          repeat (first | refine yp9 ?_ | refine ys9 ?_)
          simp [retQ,wl9,show inM 3 1 3=true from rfl,h1,h2,h3,h3n,h3p,h4,h4n,h4p,h5,h6,h7,h8,h8n,h8p,h9,h10]
         ·skip
          refine W_rK [2] ?_
          iterate 2 refine yq9 6 (by simp [h1,h2,h3,h3n,h3p,h4,h4n,h4p,h5,h6,h7,h8,h8n,h8p,h9];rfl) rfl ?_
          refine yw9 (by simp [h1,h2,h3,h3n,h3p,h4,h4n,h4p,h5,h6,h7,h8,h8n,h8p,h9];rfl) ?_
          refine yj9 ?_
          repeat (first | refine yp9 ?_ | refine ys9 ?_)
          simp [retQ,wl9,show inM 3 1 3=true from rfl,h1,h2,h3,h3n,h3p,h4,h4n,h4p,h5,h6,h7,h8,h8n,h8p,h9]
       ·skip
        refine yt9 (by simp [h1,h2,h3,h3n,h3p,h4,h4n,h4p,h5,h6,h7];rfl) (fun _=>?_) (fun hx=>by simp [h1,h2,h3,h3n,h3p,h4,h4n,h4p,h5,h6,h7] at hx)
        refine yr9 [2] (by simp [h1,h2,h3,h3n,h3p,h4,h4n,h4p,h5,h6,h7];rfl) ?_
        refine yj9 ?_
        repeat (first | refine yp9 ?_ | refine ys9 ?_)
        simp [retQ,wl9,show inM 3 1 3=true from rfl,h1,h2,h3,h3n,h3p,h4,h4n,h4p,h5,h6,h7]
      ·skip
       refine yt9 (by simp [h1,h2,h3,h3n,h3p,h4,h4n,h4p,h5,h6];rfl) (fun _=>?_) (fun hx=>by simp [h1,h2,h3,h3n,h3p,h4,h4n,h4p,h5,h6] at hx)
       refine yr9 [2] (by simp [h1,h2,h3,h3n,h3p,h4,h4n,h4p,h5,h6];rfl) ?_
       refine yj9 ?_
       repeat (first | refine yp9 ?_ | refine ys9 ?_)
       simp [retQ,wl9,show inM 3 1 3=true from rfl,h1,h2,h3,h3n,h3p,h4,h4n,h4p,h5,h6]
     ·skip
      refine W_rK [1,34] ?_
      refine yq9 6 (by simp [h1,h2,h3,h3n,h3p,h4,h4n,h4p,h5];rfl) rfl ?_
      refine yf9 (by simp) (by first | (simp;done) | (simp;rfl)) (qm9 d.klen 1 64) (by simp;rfl) ?_
      refine yq9 6 (by simp [h1,h2,h3,h3n,h3p,h4,h4n,h4p,h5];rfl) rfl ?_
      refine yw9 (by simp [h1,h2,h3,h3n,h3p,h4,h4n,h4p,h5];rfl) ?_
      refine yt9 rfl (fun _=>?_) (fun hx=>by simp at hx)
      refine yr9 [2] (by simp [h1,h2,h3,h3n,h3p,h4,h4n,h4p,h5];rfl) ?_
      refine yj9 ?_
      repeat (first | refine yp9 ?_ | refine ys9 ?_)
      simp [retQ,wl9,show inM 3 1 3=true from rfl,h1,h2,h3,h3n,h3p,h4,h4n,h4p,h5]
    ·skip
     have h4n:(d.fmt != 1)=true:=by simp only [bne,h4];rfl
     have h4p:¬ d.fmt=1:=by simpa using h4
     refine W_rK [1,34] ?_
     iterate 2 refine yq9 6 (by simp [h1,h2,h3,h3n,h3p,h4,h4n,h4p];rfl) rfl ?_
     refine yw9 (by simp [h1,h2,h3,h3n,h3p,h4,h4n,h4p];rfl) ?_
     refine yt9 rfl (fun _=>?_) (fun hx=>by simp at hx)
     refine yr9 [2] (by simp [h1,h2,h3,h3n,h3p,h4,h4n,h4p];rfl) ?_
     refine yj9 ?_
     repeat (first | refine yp9 ?_ | refine ys9 ?_)
     simp [retQ,wl9,show inM 3 1 3=true from rfl,h1,h2,h3,h3n,h3p,h4,h4n,h4p]
   ·skip
    have h3n:(d.org != 3)=true:=by simp only [bne,h3];rfl
    have h3p:¬ d.org=3:=by simpa using h3
    refine yt9 (by simp [h1,h2,h3,h3n,h3p];rfl) (fun hx=>by simp [h1,h2,h3,h3n,h3p] at hx) (fun _=>?_)
    rcases Bool.eq_false_or_eq_true (d.klen == 0) with h11 | h11
    ·skip
     have h11n:(d.klen != 0)=false:=by simp only [bne,h11];rfl
     have h11p:d.klen=0:=by simpa using h11
     refine yr9 [1,42] (by simp [h1,h2,h3,h3n,h3p,h11,h11n,h11p];rfl) ?_
     rcases Bool.eq_false_or_eq_true (d.kpos == 0) with h12 | h12
     ·skip
      have h12n:(d.kpos != 0)=false:=by simp only [bne,h12];rfl
      have h12p:d.kpos=0:=by simpa using h12
      refine yt9 (by simp [h1,h2,h3,h3n,h3p,h11,h11n,h11p,h12,h12n,h12p];rfl) (fun hx=>by simp [h1,h2,h3,h3n,h3p,h11,h11n,h11p,h12,h12n,h12p] at hx) (fun _=>?_)
      refine yg9 ?_
      refine yh9 ?_
      refine yr9 [1,44] (by simp [h1,h2,h3,h3n,h3p,h11,h11n,h11p,h12,h12n,h12p];rfl) ?_
      refine yl9 ?_
      refine yr9 [1,44,45] (by simp [h1,h2,h3,h3n,h3p,h11,h11n,h11p,h12,h12n,h12p];rfl) ?_
      rcases Bool.eq_false_or_eq_true (d.fmt == 1) with h13 | h13
      ·skip
       have h13n:(d.fmt != 1)=false:=by simp only [bne,h13];rfl
       have h13p:d.fmt=1:=by simpa using h13
       refine yt9 (by simp [h1,h2,h3,h3n,h3p,h11,h11n,h11p,h12,h12n,h12p,h13,h13n,h13p];rfl) (fun _=>?_) (fun hx=>by simp [h1,h2,h3,h3n,h3p,h11,h11n,h11p,h12,h12n,h12p,h13,h13n,h13p] at hx)
       refine yh9 ?_
       refine W_rK [1,52] ?_
       refine yq9 4 (by simp [h1,h2,h3,h3n,h3p,h11,h11n,h11p,h12,h12n,h12p,h13,h13n,h13p];rfl) rfl ?_
       refine yf9 (by simp) (by first | (simp;done) | (simp;rfl)) (qm9 d.lrecl 1 d.size) (by simp;rfl) ?_
       refine yw9 (by simp [h1,h2,h3,h3n,h3p,h11,h11n,h11p,h12,h12n,h12p,h13,h13n,h13p];rfl) ?_
       rcases Bool.eq_false_or_eq_true (inM d.lrecl 1 d.size) with h14 | h14
       ·skip
        refine yt9 (by simp [h1,h2,h3,h3n,h3p,h11,h11n,h11p,h12,h12n,h12p,h13,h13n,h13p,h14];rfl) (fun hx=>by simp [h1,h2,h3,h3n,h3p,h11,h11n,h11p,h12,h12n,h12p,h13,h13n,h13p,h14] at hx) (fun _=>?_)
        refine yg9 ?_
        rcases Bool.eq_false_or_eq_true (d.size == d.lrecl) with h15 | h15
        ·skip
         have h15n:(d.size != d.lrecl)=false:=by simp only [bne,h15];rfl
         refine W_rK [2] ?_
         iterate 2 refine yq9 6 (by simp [h1,h2,h3,h3n,h3p,h11,h11n,h11p,h12,h12n,h12p,h13,h13n,h13p,h14,h15,h15n];rfl) rfl ?_
         refine yw9 (by simp [h1,h2,h3,h3n,h3p,h11,h11n,h11p,h12,h12n,h12p,h13,h13n,h13p,h14,h15,h15n];rfl) ?_
         refine yj9 ?_
         repeat (first | refine yp9 ?_ | refine ys9 ?_)
         simp [retQ,wl9,show inM 3 1 3=true from rfl,h1,h2,h3,h3n,h3p,h11,h11n,h11p,h12,h12n,h12p,h13,h13n,h13p,h14,h15,h15n]
        ·skip
         have h15n:(d.size != d.lrecl)=true:=by simp only [bne,h15];rfl
         have h15p:¬ d.size=d.lrecl:=by simpa using h15
         rcases Bool.eq_false_or_eq_true (d.blk) with h16 | h16
         ·skip
          have h17:¬ d.lrecl=0:=by first | omega | (simp only [inM] at *;split at * <;> simp_all <;> omega)
          refine W_rK [2] ?_
          iterate 2 refine yq9 6 (by simp [h1,h2,h3,h3n,h3p,h11,h11n,h11p,h12,h12n,h12p,h13,h13n,h13p,h14,h15,h15n,h15p,h16,h17];rfl) rfl ?_
          refine yw9 (by simp [h1,h2,h3,h3n,h3p,h11,h11n,h11p,h12,h12n,h12p,h13,h13n,h13p,h14,h15,h15n,h15p,h16,h17];rfl) ?_
          refine yj9 ?_
          repeat (first | refine yp9 ?_ | refine ys9 ?_)
          simp [retQ,wl9,show inM 3 1 3=true from rfl,h1,h2,h3,h3n,h3p,h11,h11n,h11p,h12,h12n,h12p,h13,h13n,h13p,h14,h15,h15n,h15p,h16,h17]
         ·skip
          refine W_rK [2] ?_
          iterate 2 refine yq9 6 (by simp [h1,h2,h3,h3n,h3p,h11,h11n,h11p,h12,h12n,h12p,h13,h13n,h13p,h14,h15,h15n,h15p,h16];rfl) rfl ?_
          refine yw9 (by simp [h1,h2,h3,h3n,h3p,h11,h11n,h11p,h12,h12n,h12p,h13,h13n,h13p,h14,h15,h15n,h15p,h16];rfl) ?_
          refine yj9 ?_
          repeat (first | refine yp9 ?_ | refine ys9 ?_)
          simp [retQ,wl9,show inM 3 1 3=true from rfl,h1,h2,h3,h3n,h3p,h11,h11n,h11p,h12,h12n,h12p,h13,h13n,h13p,h14,h15,h15n,h15p,h16]
       ·skip
        refine yt9 (by simp [h1,h2,h3,h3n,h3p,h11,h11n,h11p,h12,h12n,h12p,h13,h13n,h13p,h14];rfl) (fun _=>?_) (fun hx=>by simp [h1,h2,h3,h3n,h3p,h11,h11n,h11p,h12,h12n,h12p,h13,h13n,h13p,h14] at hx)
        refine yr9 [2] (by simp [h1,h2,h3,h3n,h3p,h11,h11n,h11p,h12,h12n,h12p,h13,h13n,h13p,h14];rfl) ?_
        refine yj9 ?_
        repeat (first | refine yp9 ?_ | refine ys9 ?_)
        simp [retQ,wl9,show inM 3 1 3=true from rfl,h1,h2,h3,h3n,h3p,h11,h11n,h11p,h12,h12n,h12p,h13,h13n,h13p,h14]
      ·skip
       have h13n:(d.fmt != 1)=true:=by simp only [bne,h13];rfl
       have h13p:¬ d.fmt=1:=by simpa using h13
       refine yt9 (by simp [h1,h2,h3,h3n,h3p,h11,h11n,h11p,h12,h12n,h12p,h13,h13n,h13p];rfl) (fun hx=>by simp [h1,h2,h3,h3n,h3p,h11,h11n,h11p,h12,h12n,h12p,h13,h13n,h13p] at hx) (fun _=>?_)
       refine yr9 [1,44,70] (by simp [h1,h2,h3,h3n,h3p,h11,h11n,h11p,h12,h12n,h12p,h13,h13n,h13p];rfl) ?_
       rcases Bool.eq_false_or_eq_true (d.fmt == 2) with h18 | h18
       ·skip
        have h18n:(d.fmt != 2)=false:=by simp only [bne,h18];rfl
        have h18p:d.fmt=2:=by simpa using h18
        refine yt9 (by simp [h1,h2,h3,h3n,h3p,h11,h11n,h11p,h12,h12n,h12p,h13,h13n,h13p,h18,h18n,h18p];rfl) (fun _=>?_) (fun hx=>by simp [h1,h2,h3,h3n,h3p,h11,h11n,h11p,h12,h12n,h12p,h13,h13n,h13p,h18,h18n,h18p] at hx)
        by_cases h19:(9:Int)≤d.size
        ·skip
         refine W_rK [2] ?_
         refine yq9 6 (by simp [h1,h2,h3,h3n,h3p,h11,h11n,h11p,h12,h12n,h12p,h13,h13n,h13p,h18,h18n,h18p,h19];rfl) rfl ?_
         refine yq9 3 (by simp [h1,h2,h3,h3n,h3p,h11,h11n,h11p,h12,h12n,h12p,h13,h13n,h13p,h18,h18n,h18p,h19];rfl) rfl ?_
         refine yf9 (by simp) (by first | (simp;done) | (simp;rfl)) (qm9 d.lrecl 5 (IntKind.i64.wrap (d.size - 4))) (by simp;rfl) ?_
         refine yw9 (by simp [h1,h2,h3,h3n,h3p,h11,h11n,h11p,h12,h12n,h12p,h13,h13n,h13p,h18,h18n,h18p,h19];rfl) ?_
         refine yj9 ?_
         repeat (first | refine yp9 ?_ | refine ys9 ?_)
         simp [retQ,wl9,show inM 3 1 3=true from rfl,h1,h2,h3,h3n,h3p,h11,h11n,h11p,h12,h12n,h12p,h13,h13n,h13p,h18,h18n,h18p,h19]
        ·skip
         refine W_rK [2] ?_
         refine yq9 6 (by simp [h1,h2,h3,h3n,h3p,h11,h11n,h11p,h12,h12n,h12p,h13,h13n,h13p,h18,h18n,h18p,h19];rfl) rfl ?_
         refine yw9 (by simp [h1,h2,h3,h3n,h3p,h11,h11n,h11p,h12,h12n,h12p,h13,h13n,h13p,h18,h18n,h18p,h19];rfl) ?_
         refine yj9 ?_
         repeat (first | refine yp9 ?_ | refine ys9 ?_)
         simp [retQ,wl9,show inM 3 1 3=true from rfl,h1,h2,h3,h3n,h3p,h11,h11n,h11p,h12,h12n,h12p,h13,h13n,h13p,h18,h18n,h18p,h19]
       ·skip
        have h18n:(d.fmt != 2)=true:=by simp only [bne,h18];rfl
        have h18p:¬ d.fmt=2:=by simpa using h18
        refine yt9 (by simp [h1,h2,h3,h3n,h3p,h11,h11n,h11p,h12,h12n,h12p,h13,h13n,h13p,h18,h18n,h18p];rfl) (fun hx=>by simp [h1,h2,h3,h3n,h3p,h11,h11n,h11p,h12,h12n,h12p,h13,h13n,h13p,h18,h18n,h18p] at hx) (fun _=>?_)
        refine yr9 [1,83] (by simp [h1,h2,h3,h3n,h3p,h11,h11n,h11p,h12,h12n,h12p,h13,h13n,h13p,h18,h18n,h18p];rfl) ?_
        rcases Bool.eq_false_or_eq_true (d.fmt == 3) with h20 | h20
        ·skip
         have h20n:(d.fmt != 3)=false:=by simp only [bne,h20];rfl
         have h20p:d.fmt=3:=by simpa using h20
         refine yt9 (by simp [h1,h2,h3,h3n,h3p,h11,h11n,h11p,h12,h12n,h12p,h13,h13n,h13p,h18,h18n,h18p,h20,h20n,h20p];rfl) (fun _=>?_) (fun hx=>by simp [h1,h2,h3,h3n,h3p,h11,h11n,h11p,h12,h12n,h12p,h13,h13n,h13p,h18,h18n,h18p,h20,h20n,h20p] at hx)
         by_cases h21:(1:Int)≤d.size
         ·skip
          rcases Bool.eq_false_or_eq_true (d.lrecl == 0) with h22 | h22
          ·skip
           have h22n:(d.lrecl != 0)=false:=by simp only [bne,h22];rfl
           have h22p:d.lrecl=0:=by simpa using h22
           refine W_rK [2] ?_
           refine yq9 6 (by simp [h1,h2,h3,h3n,h3p,h11,h11n,h11p,h12,h12n,h12p,h13,h13n,h13p,h18,h18n,h18p,h20,h20n,h20p,h21,h22,h22n,h22p];rfl) rfl ?_
           refine yw9 (by simp [h1,h2,h3,h3n,h3p,h11,h11n,h11p,h12,h12n,h12p,h13,h13n,h13p,h18,h18n,h18p,h20,h20n,h20p,h21,h22,h22n,h22p];rfl) ?_
           refine yj9 ?_
           repeat (first | refine yp9 ?_ | refine ys9 ?_)
           simp [retQ,wl9,show inM 3 1 3=true from rfl,h1,h2,h3,h3n,h3p,h11,h11n,h11p,h12,h12n,h12p,h13,h13n,h13p,h18,h18n,h18p,h20,h20n,h20p,h21,h22,h22n,h22p]
          ·skip
           have h22n:(d.lrecl != 0)=true:=by simp only [bne,h22];rfl
           have h22p:¬ d.lrecl=0:=by simpa using h22
           refine W_rK [2] ?_
           refine yq9 6 (by simp [h1,h2,h3,h3n,h3p,h11,h11n,h11p,h12,h12n,h12p,h13,h13n,h13p,h18,h18n,h18p,h20,h20n,h20p,h21,h22,h22n,h22p];rfl) rfl ?_
           refine yw9 (by simp [h1,h2,h3,h3n,h3p,h11,h11n,h11p,h12,h12n,h12p,h13,h13n,h13p,h18,h18n,h18p,h20,h20n,h20p,h21,h22,h22n,h22p];rfl) ?_
           refine yj9 ?_
           repeat (first | refine yp9 ?_ | refine ys9 ?_)
           simp [retQ,wl9,show inM 3 1 3=true from rfl,h1,h2,h3,h3n,h3p,h11,h11n,h11p,h12,h12n,h12p,h13,h13n,h13p,h18,h18n,h18p,h20,h20n,h20p,h21,h22,h22n,h22p]
         ·skip
          refine W_rK [2] ?_
          refine yq9 6 (by simp [h1,h2,h3,h3n,h3p,h11,h11n,h11p,h12,h12n,h12p,h13,h13n,h13p,h18,h18n,h18p,h20,h20n,h20p,h21];rfl) rfl ?_
          refine yw9 (by simp [h1,h2,h3,h3n,h3p,h11,h11n,h11p,h12,h12n,h12p,h13,h13n,h13p,h18,h18n,h18p,h20,h20n,h20p,h21];rfl) ?_
          refine yj9 ?_
          repeat (first | refine yp9 ?_ | refine ys9 ?_)
          simp [retQ,wl9,show inM 3 1 3=true from rfl,h1,h2,h3,h3n,h3p,h11,h11n,h11p,h12,h12n,h12p,h13,h13n,h13p,h18,h18n,h18p,h20,h20n,h20p,h21]
        ·skip
         have h20n:(d.fmt != 3)=true:=by simp only [bne,h20];rfl
         have h20p:¬ d.fmt=3:=by simpa using h20
         refine yt9 (by simp [h1,h2,h3,h3n,h3p,h11,h11n,h11p,h12,h12n,h12p,h13,h13n,h13p,h18,h18n,h18p,h20,h20n,h20p];rfl) (fun hx=>by simp [h1,h2,h3,h3n,h3p,h11,h11n,h11p,h12,h12n,h12p,h13,h13n,h13p,h18,h18n,h18p,h20,h20n,h20p] at hx) (fun _=>?_)
         refine yg9 ?_
         refine yr9 [2] (by simp [h1,h2,h3,h3n,h3p,h11,h11n,h11p,h12,h12n,h12p,h13,h13n,h13p,h18,h18n,h18p,h20,h20n,h20p];rfl) ?_
         refine yj9 ?_
         repeat (first | refine yp9 ?_ | refine ys9 ?_)
         simp [retQ,wl9,show inM 3 1 3=true from rfl,h1,h2,h3,h3n,h3p,h11,h11n,h11p,h12,h12n,h12p,h13,h13n,h13p,h18,h18n,h18p,h20,h20n,h20p]
     ·skip
      have h12n:(d.kpos != 0)=true:=by simp only [bne,h12];rfl
      have h12p:¬ d.kpos=0:=by simpa using h12
      refine yt9 (by simp [h1,h2,h3,h3n,h3p,h11,h11n,h11p,h12,h12n,h12p];rfl) (fun _=>?_) (fun hx=>by simp [h1,h2,h3,h3n,h3p,h11,h11n,h11p,h12,h12n,h12p] at hx)
      refine yr9 [2] (by simp [h1,h2,h3,h3n,h3p,h11,h11n,h11p,h12,h12n,h12p];rfl) ?_
      refine yj9 ?_
      repeat (first | refine yp9 ?_ | refine ys9 ?_)
      simp [retQ,wl9,show inM 3 1 3=true from rfl,h1,h2,h3,h3n,h3p,h11,h11n,h11p,h12,h12n,h12p]
    ·skip
     have h11n:(d.klen != 0)=true:=by simp only [bne,h11];rfl
     have h11p:¬ d.klen=0:=by simpa using h11
     refine yr9 [1,42] (by simp [h1,h2,h3,h3n,h3p,h11,h11n,h11p];rfl) ?_
     refine yt9 rfl (fun _=>?_) (fun hx=>by simp at hx)
     refine yr9 [2] (by simp [h1,h2,h3,h3n,h3p,h11,h11n,h11p];rfl) ?_
     refine yj9 ?_
     repeat (first | refine yp9 ?_ | refine ys9 ?_)
     simp [retQ,wl9,show inM 3 1 3=true from rfl,h1,h2,h3,h3n,h3p,h11,h11n,h11p]
 ·skip
  refine W_rK [1,11] ?_
  refine yq9 2 (by simp [h1];rfl) rfl ?_
  refine yf9 (by simp) (by first | (simp;done) | (simp;rfl)) (qm9 d.org 1 3) (by simp;rfl) ?_
  refine yw9 (by simp [h1];rfl) ?_
  refine yt9 rfl (fun _=>?_) (fun hx=>by simp at hx)
  refine yr9 [2] (by simp [h1];rfl) ?_
  refine yj9 ?_
  repeat (first | refine yp9 ?_ | refine ys9 ?_)
  simp [retQ,wl9,show inM 3 1 3=true from rfl,h1]
theorem rfits_sound (d:Dcb) (r:List UInt8):Sound Tryz.prog 86 [dcbA d,.lst .any 1 (byL r)] (.v (.bool (xg7 d r.length))):=by
 refine yc9 Tryz.func86 rfl (by decide +kernel) (by simp [Tryz.f86]) rfl rfl (rs:=[.tmp 4]) rfl ?_
 rw [show Tryz.f86.ntmps=30 from rfl]
 refine yr9 [1,2] (by simp;rfl) ?_
 refine yh9 ?_
 refine W_rK [1,2,7] ?_
 refine yq9 1 (by simp;rfl) rfl ?_
 refine yf9 (by simp) (by first | (simp;done) | (simp;rfl)) (qf8 d) (by simp;rfl) ?_
 refine yw9 (by simp;rfl) ?_
 rcases Bool.eq_false_or_eq_true (wl9 d) with h1 | h1
 ·skip
  refine yt9 (by simp [h1];rfl) (fun hx=>by simp [h1] at hx) (fun _=>?_)
  refine yg9 ?_
  refine yh9 ?_
  refine yr9 [1,2,9] (by simp [h1];rfl) ?_
  refine yl9 ?_
  refine yr9 [1,2,9,10] (by simp [h1];rfl) ?_
  rcases Bool.eq_false_or_eq_true (d.fmt == 1) with h2 | h2
  ·skip
   have h2n:(d.fmt != 1)=false:=by simp only [bne,h2];rfl
   have h2p:d.fmt=1:=by simpa using h2
   refine yt9 (by simp [h1,h2,h2n,h2p];rfl) (fun _=>?_) (fun hx=>by simp [h1,h2,h2n,h2p] at hx)
   refine yr9 [4] (by simp [h1,h2,h2n,h2p];rfl) ?_
   refine yj9 ?_
   repeat (first | refine yp9 ?_ | refine ys9 ?_)
   simp [retQ,xg7,h1,h2,h2n,h2p]
  ·skip
   have h2n:(d.fmt != 1)=true:=by simp only [bne,h2];rfl
   have h2p:¬ d.fmt=1:=by simpa using h2
   refine yt9 (by simp [h1,h2,h2n,h2p];rfl) (fun hx=>by simp [h1,h2,h2n,h2p] at hx) (fun _=>?_)
   refine yr9 [1,2,17] (by simp [h1,h2,h2n,h2p];rfl) ?_
   rcases Bool.eq_false_or_eq_true (d.fmt == 2) with h3 | h3
   ·skip
    have h3n:(d.fmt != 2)=false:=by simp only [bne,h3];rfl
    have h3p:d.fmt=2:=by simpa using h3
    refine yt9 (by simp [h1,h2,h2n,h2p,h3,h3n,h3p];rfl) (fun _=>?_) (fun hx=>by simp [h1,h2,h2n,h2p,h3,h3n,h3p] at hx)
    refine W_rK [4] ?_
    refine yq9 5 (by simp [h1,h2,h2n,h2p,h3,h3n,h3p];rfl) rfl ?_
    refine yf9 (by simp) (by first | (simp;done) | (simp;rfl)) (qm9 (r.length:Int) 1 (IntKind.i64.wrap (d.lrecl - 4))) (by simp;rfl) ?_
    refine yw9 (by simp [h1,h2,h2n,h2p,h3,h3n,h3p];rfl) ?_
    refine yj9 ?_
    repeat (first | refine yp9 ?_ | refine ys9 ?_)
    simp [retQ,xg7,h1,h2,h2n,h2p,h3,h3n,h3p]
   ·skip
    have h3n:(d.fmt != 2)=true:=by simp only [bne,h3];rfl
    have h3p:¬ d.fmt=2:=by simpa using h3
    refine yt9 (by simp [h1,h2,h2n,h2p,h3,h3n,h3p];rfl) (fun hx=>by simp [h1,h2,h2n,h2p,h3,h3n,h3p] at hx) (fun _=>?_)
    refine yg9 ?_
    refine W_rK [4] ?_
    refine yq9 4 (by simp [h1,h2,h2n,h2p,h3,h3n,h3p];rfl) rfl ?_
    refine yf9 (by simp) (by first | (simp;done) | (simp;rfl)) (qm9 (r.length:Int) 1 d.size) (by simp;rfl) ?_
    refine yw9 (by simp [h1,h2,h2n,h2p,h3,h3n,h3p];rfl) ?_
    refine yj9 ?_
    repeat (first | refine yp9 ?_ | refine ys9 ?_)
    simp [retQ,xg7,h1,h2,h2n,h2p,h3,h3n,h3p]
 ·skip
  refine yt9 (by simp [h1];rfl) (fun _=>?_) (fun hx=>by simp [h1] at hx)
  refine yr9 [4] (by simp [h1];rfl) ?_
  refine yj9 ?_
  repeat (first | refine yp9 ?_ | refine ys9 ?_)
  simp [retQ,xg7,h1]
set_option maxRecDepth 20000
def desc (n:Nat):List UInt8:=[UInt8.ofNat (n / 256),UInt8.ofNat n,0,0]
@[simp] theorem desc_length (n:Nat):(desc n).length=4:=rfl
theorem u8w (n:Nat):IntKind.u8.wrap (n:Int)=((UInt8.ofNat n).toNat:Nat):=by
 rw [UInt8.toNat_ofNat']
 simp only [IntKind.wrap_u8]
 omega
theorem shr_nat (n k:Nat) (hk:k≤64):((n:Int).fdiv (2 ^ min k IntKind.i64.bits))=((n / 2 ^ k:Nat):Int):=by
 have:min k IntKind.i64.bits=k:=by rw [show IntKind.i64.bits=64 from rfl];omega
 rw [this,Int.fdiv_eq_ediv_of_nonneg _ (by exact_mod_cast Nat.zero_le _)]
 norm_cast
theorem xn6 (n:Nat):Sound Tryz.prog 76 [.v (.int .i64 n)] (.lst .any 1 (byL (desc n))):=by
 refine vk9 Tryz.func76 rfl (by decide +kernel) (by simp [Tryz.f76]) rfl rfl (rs:=[.tmp 2]) rfl ?_
 rw [show Tryz.f76.ntmps=9 from rfl]
 have h3:=u8w (n / 256)
 have h4:=u8w n
 refine yr9 [0] (by simp;rfl) ?_
 refine W_rK [2] ?_
 refine yq9 4 (by simp;rfl) rfl ?_
 refine yw9 (by simp;rfl) ?_
 refine yj9 ?_
 repeat (first | refine yp9 ?_ | refine ys9 ?_)
 exact ⟨_,by simp [retQ];exact ⟨rfl,by simp⟩,.inr (by
  simp only [AV.plain]
  have e3:=shr_nat n 8 (by omega)
  simp only [Nat.reducePow] at e3
  rw [e3,h3,h4]
  rfl)⟩
def lenM (d:Dcb) (r:List UInt8):Nat:=if d.fmt == 2 then r.length+4 else r.length
theorem len_sound (d:Dcb) (r:List UInt8) (hr:r.length≤1000000000):Sound Tryz.prog 78 [dcbA d,.lst .any 1 (byL r)] (.v (.int .i64 (lenM d r:Nat))):=by
 refine yc9 Tryz.func78 rfl (by decide +kernel) (by simp [Tryz.f78]) rfl rfl (rs:=[.tmp 4]) rfl ?_
 rw [show Tryz.f78.ntmps=13 from rfl]
 refine yr9 [1,2] (by simp;rfl) ?_
 refine yh9 ?_
 have w1:IntKind.i64.wrap ((r.length:Int)+4)=(r.length:Int)+4:=w64 (by omega) (by omega)
 rcases Bool.eq_false_or_eq_true (d.fmt == 2) with h1 | h1
 ·refine W_cT [1,7] (by simp [h1];rfl) rfl ?_
  refine yr9 [4] (by simp [w1];rfl) ?_
  refine yj9 ?_
  repeat (first | refine yp9 ?_ | refine ys9 ?_)
  simp [retQ,lenM,h1]
 ·refine W_cF [1,7] (by simp [h1];rfl) rfl ?_
  refine yg9 ?_
  refine yr9 [4] (by simp;rfl) ?_
  refine yj9 ?_
  repeat (first | refine yp9 ?_ | refine ys9 ?_)
  simp [retQ,lenM,h1]
theorem jw7 (l:List UInt8) (hl:l.length≤1000000000):Sound Tryz.prog 81 [.lst .any 1 (byL l)] (.lst (.tip 5 1) 1 (byL l)):=by
 refine xw9 Tryz.func81 rfl (by decide +kernel) (by simp [Tryz.f81]) rfl rfl (rs:=[.tmp 2]) rfl ?_
 rw [show Tryz.f81.ntmps=8 from rfl]
 have hb:l.length≤140737488355328:=by omega
 refine yr9 [0] (by simp;rfl) ?_
 refine yh9 ?_
 cases l with
 | cons x l =>
  refine W_cF [0,4] (by simp [xd9];rfl) rfl ?_
  refine yg9 ?_
  rw [← xd9]
  refine yr9 [2] (by simp at hb;simp [hb];rfl) ?_
  refine yj9 ?_
  repeat (first | refine yp9 ?_ | refine ys9 ?_)
  exact ⟨_,by simp [retQ];exact ⟨rfl,by simp⟩,.norm fun T=>by simp⟩
 | nil =>
  refine ws6 0 (sz:=1) rfl ?_ fun ad cap hc=>?_
  ·refine W_cT [0,4] (by simp [putF];rfl) rfl ?_
   refine yr9 [2] (by simp;rfl) ?_
   refine yj9 ?_
   repeat (first | refine yp9 ?_ | refine ys9 ?_)
   exact ⟨.lst .nil 1 [],by simp [retQ],.nil (by decide +kernel)⟩
  ·refine W_cF [0,4] (by simp [putF];rfl) rfl ?_
   refine yg9 ?_
   refine ym9 [0] ?_
   refine W_unnil 0 1 (by simp;rfl) hc ?_
   refine yr9 [2] (by simp [putF];rfl) ?_
   refine yj9 ?_
   repeat (first | refine yp9 ?_ | refine ys9 ?_)
   exact ⟨_,by simp [retQ];exact ⟨rfl,by simp⟩,.norm fun T=>by simp⟩
end Go.AM
