/- The texts of the functions in the small language. Printed by a program of my own (irgen.py). -/
import Derived.Test.YtplnioclkacgkaaGreatDoorEvSim
import Derived.Test.YtplnioclkacgkaaGreatDoorProg
import Derived.Test.YtplnioclkacgkaaGreatDoorEvNatF
import Derived.Test.YtplnioclkacgkaaGreatDoorShSrt
import Derived.Test.YtplnioclkacgkaaGreatDoorShCln
import Derived.Test.YtplnioclkacgkaaGreatDoorShIxb
import Derived.Test.YtplnioclkacgkaaGreatDoorIrF1
namespace Go.Proofs.YtplnioclkacgkaaGreatDoor.Ir
open Go Go.Ev
set_option maxRecDepth 10000
@[go_sem] theorem ks47_0 (a b c d e f g h i j k l m n o p q r s t u v w x y z a0 a1 a2 a3 a4 : AV) : keepS [1,25] [a,b,c,d,e,f,g,h,i,j,k,l,m,n,o,p,q,r,s,t,u,v,w,x,y,z,a0,a1,a2,a3,a4] 0 = [.unk,b,.unk,.unk,.unk,.unk,.unk,.unk,.unk,.unk,.unk,.unk,.unk,.unk,.unk,.unk,.unk,.unk,.unk,.unk,.unk,.unk,.unk,.unk,.unk,z,.unk,.unk,.unk,.unk,.unk] := rfl
/-- spence/spenceref04.RightSpec -/
def bd47 : C :=
 (.seq (.reg [⟨some 1, none, .box 61 (.s 0), .none⟩,
 ⟨some 2, none, .mv (.c (.d (.bool false))), .none⟩])
 (.seq (.seq (.reg [⟨some 3, none, .fa (.s 1) 1, .none⟩,
 ⟨some 4, none, .ld (.s 3) 1 false, .none⟩,
 ⟨some 5, none, .bin .lss (.s 4) (.c (.d (.int .i64 0))), .none⟩,
 ⟨some 6, none, .mv (.s 5), .none⟩,
 ⟨some 7, some (6, false), .fa (.s 1) 1, .none⟩,
 ⟨some 8, some (6, false), .ld (.s 7) 1 false, .none⟩,
 ⟨some 9, some (6, false), .bin .gtr (.s 8) (.c (.d (.int .i64 4611686018427387903))), .none⟩,
 ⟨some 10, none, .pick (.s 6) (.c (.d (.bool true))) (.s 9), .none⟩,
 ⟨some 11, none, .mv (.s 10), .none⟩,
 ⟨some 12, some (11, false), .fa (.s 1) 2, .none⟩,
 ⟨some 13, some (11, false), .ld (.s 12) 1 false, .none⟩,
 ⟨some 14, some (11, false), .bin .gtr (.s 13) (.c (.d (.int .i64 4611686018427387903))), .none⟩,
 ⟨some 15, none, .pick (.s 11) (.c (.d (.bool true))) (.s 14), .none⟩])
 (.cond (.s 15)
 (.seq (.reg [⟨some 2, none, .mv (.c (.d (.bool false))), .none⟩])
 (.ret none))
 .skip))
 (.seq (.reg [⟨some 16, none, .fa (.s 1) 0, .none⟩,
 ⟨some 17, none, .ld (.s 16) 1 false, .none⟩])
 (.block 0 (.seq (.reg [⟨some 19, none, .bin .eql (.s 17) (.c (.d (.int .i64 2))), .none⟩,
 ⟨some 18, none, .mv (.s 19), .none⟩])
 (.cond (.s 18)
 (.seq (.reg [⟨some 20, none, .fa (.s 1) 2, .none⟩,
 ⟨some 21, none, .ld (.s 20) 1 false, .none⟩,
 ⟨some 22, none, .fa (.s 1) 1, .none⟩,
 ⟨some 23, none, .ld (.s 22) 1 false, .none⟩,
 ⟨some 24, none, .bin .geq (.s 21) (.s 23), .none⟩,
 ⟨some 2, none, .mv (.s 24), .none⟩])
 (.ret none))
 (.seq (.seq (.reg [⟨some 26, none, .bin .eql (.s 17) (.c (.d (.int .i64 1))), .none⟩,
 ⟨some 25, none, .mv (.s 26), .none⟩])
 (.cond (.s 25)
 .skip
 (.reg [⟨some 27, none, .bin .eql (.s 17) (.c (.d (.int .i64 3))), .none⟩,
 ⟨some 25, none, .mv (.s 27), .none⟩])))
 (.ann [1, 25] (.cond (.s 25)
 (.seq (.reg [⟨some 28, none, .fa (.s 1) 2, .none⟩,
 ⟨some 29, none, .ld (.s 28) 1 false, .none⟩,
 ⟨some 30, none, .bin .eql (.s 29) (.c (.d (.int .i64 0))), .none⟩,
 ⟨some 2, none, .mv (.s 30), .none⟩])
 (.ret none))
 (.seq (.reg [⟨some 2, none, .mv (.c (.d (.bool false))), .none⟩])
 (.ret none)))))))))))
def ir47 : F := { n := 31, res := [.tmp 2], body := bd47 }
@[go_sem] theorem n47 : ir47.n = 31 := rfl
@[go_sem] theorem r47 : ir47.res = [.tmp 2] := rfl
@[go_sem] theorem b47 : ir47.body = bd47 := rfl
/-- spence/nums.Add -/
def bd48 : C :=
 (.seq (.reg [⟨some 4, none, .mv (.c (.d (.int .i64 0))), .none⟩,
 ⟨some 5, none, .mv (.c (.d (.int .i64 0))), .none⟩])
 (.seq (.block 0 (.seq (.reg [⟨some 7, none, .mv (.s 0), .none⟩,
 ⟨some 8, none, .call 29 [.s 7, .c (.d (.int .i64 0)), .c (.d (.int .i64 4611686018427387903))] 2, .none⟩,
 ⟨some 9, none, .un .not (.s 8), .none⟩,
 ⟨some 10, none, .mv (.s 9), .none⟩,
 ⟨some 11, some (10, false), .mv (.s 1), .none⟩,
 ⟨some 12, some (10, false), .call 29 [.s 11, .c (.d (.int .i64 0)), .c (.d (.int .i64 4611686018427387903))] 2, .none⟩,
 ⟨some 13, some (10, false), .un .not (.s 12), .none⟩,
 ⟨some 14, none, .pick (.s 10) (.c (.d (.bool true))) (.s 13), .none⟩,
 ⟨some 6, none, .mv (.s 14), .none⟩])
 (.cond (.s 6)
 (.seq (.reg [⟨some 4, none, .mv (.c (.d (.int .i64 0))), .none⟩,
 ⟨some 5, none, .mv (.c (.d (.int .i64 1))), .none⟩])
 (.ret none))
 (.seq (.reg [⟨some 16, none, .mv (.s 0), .none⟩,
 ⟨some 17, none, .mv (.s 1), .none⟩,
 ⟨some 18, none, .bin .sub (.c (.d (.int .i64 4611686018427387903))) (.s 17), .none⟩,
 ⟨some 19, none, .bin .gtr (.s 16) (.s 18), .none⟩,
 ⟨some 15, none, .mv (.s 19), .none⟩])
 (.cond (.s 15)
 (.seq (.reg [⟨some 4, none, .mv (.c (.d (.int .i64 0))), .none⟩,
 ⟨some 5, none, .mv (.c (.d (.int .i64 9))), .none⟩])
 (.ret none))
 .skip)))))
 (.seq (.reg [⟨some 20, none, .mv (.s 0), .none⟩,
 ⟨some 21, none, .mv (.s 1), .none⟩,
 ⟨some 22, none, .bin .add (.s 20) (.s 21), .none⟩,
 ⟨some 4, none, .mv (.s 22), .none⟩,
 ⟨some 5, none, .mv (.c (.d (.int .i64 0))), .none⟩])
 (.ret none))))
def ir48 : F := { n := 23, res := [.tmp 4, .tmp 5], body := bd48 }
@[go_sem] theorem n48 : ir48.n = 23 := rfl
@[go_sem] theorem r48 : ir48.res = [.tmp 4, .tmp 5] := rfl
@[go_sem] theorem b48 : ir48.body = bd48 := rfl
/-- spence/span.Len -/
def bd49 : C :=
 (.seq (.reg [⟨some 1, none, .box 32 (.s 0), .none⟩,
 ⟨some 2, none, .mv (.c (.d (.int .i64 0))), .none⟩])
 (.seq (.seq (.reg [⟨some 3, none, .ld (.s 1) 2 true, .none⟩,
 ⟨some 4, none, .call 32 [.s 3] 2, .none⟩,
 ⟨some 5, none, .un .not (.s 4), .none⟩])
 (.cond (.s 5)
 (.seq (.reg [⟨some 2, none, .mv (.c (.d (.int .i64 0))), .none⟩])
 (.ret none))
 .skip))
 (.seq (.reg [⟨some 6, none, .fa (.s 1) 1, .none⟩,
 ⟨some 7, none, .ld (.s 6) 1 false, .none⟩,
 ⟨some 8, none, .fa (.s 1) 0, .none⟩,
 ⟨some 9, none, .ld (.s 8) 1 false, .none⟩,
 ⟨some 10, none, .bin .sub (.s 7) (.s 9), .none⟩,
 ⟨some 2, none, .mv (.s 10), .none⟩])
 (.ret none))))
def ir49 : F := { n := 11, res := [.tmp 2], body := bd49 }
@[go_sem] theorem n49 : ir49.n = 11 := rfl
@[go_sem] theorem r49 : ir49.res = [.tmp 2] := rfl
@[go_sem] theorem b49 : ir49.body = bd49 := rfl
/-- spence/text.Cut -/
def bd50 : C :=
 (.seq (.reg [⟨some 4, none, .mv (.c (.d (.str []))), .none⟩,
 ⟨some 5, none, .mv (.c (.d (.str []))), .none⟩,
 ⟨some 6, none, .mv (.c (.d (.bool false))), .none⟩])
 (.seq (.reg [⟨some 8, none, .mv (.s 0), .none⟩,
 ⟨some 9, none, .mv (.s 1), .none⟩,
 ⟨some 10, none, .call 68 [.s 8, .s 9] 2, .none⟩,
 ⟨some 7, none, .mv (.s 10), .none⟩])
 (.seq (.seq (.reg [⟨some 11, none, .mv (.s 7), .none⟩,
 ⟨some 12, none, .bin .lss (.s 11) (.c (.d (.int .i64 0))), .none⟩])
 (.cond (.s 12)
 (.seq (.reg [⟨some 13, none, .mv (.s 0), .none⟩,
 ⟨some 4, none, .mv (.s 13), .none⟩,
 ⟨some 5, none, .mv (.c (.d (.str []))), .none⟩,
 ⟨some 6, none, .mv (.c (.d (.bool false))), .none⟩])
 (.ret none))
 .skip))
 (.seq (.drw [⟨some 14, none, .mv (.s 0), .none⟩,
 ⟨some 15, none, .mv (.s 7), .none⟩,
 ⟨some 16, none, .ssl (.s 14) none (some (.s 15)), .none⟩,
 ⟨some 17, none, .mv (.s 0), .none⟩,
 ⟨some 18, none, .mv (.s 7), .none⟩,
 ⟨some 19, none, .bin .add (.s 18) (.c (.d (.int .i64 1))), .none⟩,
 ⟨some 20, none, .ssl (.s 17) (some (.s 19)) none, .none⟩,
 ⟨some 4, none, .mv (.s 16), .none⟩,
 ⟨some 5, none, .mv (.s 20), .none⟩,
 ⟨some 6, none, .mv (.c (.d (.bool true))), .none⟩]
 [[], [], [0, 1], [], [], [4], [3, 5], [2, 0, 1, 2], [6, 7, 0, 1, 2, 3, 4, 5, 6, 7], [8, 0, 1, 2, 3, 4, 5, 6, 7, 8]] [])
 (.ret none)))))
def ir50 : F := { n := 21, res := [.tmp 4, .tmp 5, .tmp 6], body := bd50 }
@[go_sem] theorem n50 : ir50.n = 21 := rfl
@[go_sem] theorem r50 : ir50.res = [.tmp 4, .tmp 5, .tmp 6] := rfl
@[go_sem] theorem b50 : ir50.body = bd50 := rfl
def lb51_0 : C :=
 (.seq (.seq (.reg [⟨some 11, none, .mv (.s 6), .none⟩])
 (.cond (.s 11)
 .skip
 (.exit 0 (some [4]))))
 (.seq (.block 1 (.seq (.reg [⟨some 8, none, .mv (.c (.d (.str []))), .none⟩])
 (.seq (.reg [⟨some 13, none, .mv (.s 5), .none⟩,
 ⟨some 14, none, .call 50 [.s 13, .c (.d (.int .u8 44))] 2, .none⟩,
 ⟨some 12, none, .mv (.s 14), .none⟩,
 ⟨some 15, none, .ext (.s 12) 0, .none⟩,
 ⟨some 16, none, .ext (.s 12) 1, .none⟩,
 ⟨some 17, none, .ext (.s 12) 2, .none⟩,
 ⟨some 8, none, .mv (.s 15), .none⟩,
 ⟨some 5, none, .mv (.s 16), .none⟩,
 ⟨some 6, none, .mv (.s 17), .none⟩])
 (.seq (.reg [⟨some 18, none, .mv (.s 8), .none⟩,
 ⟨some 19, none, .call 26 [.s 18] 2, .none⟩,
 ⟨some 9, none, .mv (.s 19), .none⟩])
 (.seq (.seq (.reg [⟨some 20, none, .mv (.s 9), .none⟩,
 ⟨some 21, none, .bin .eql (.s 20) (.c (.d (.str []))), .none⟩])
 (.cond (.s 21)
 (.seq (.seq (.reg [⟨some 22, none, .mv (.s 7), .none⟩,
 ⟨some 23, none, .mv (.s 22), .none⟩,
 ⟨some 24, some (23, true), .mv (.s 6), .none⟩,
 ⟨some 25, some (23, true), .un .not (.s 24), .none⟩,
 ⟨some 26, none, .pick (.s 23) (.s 25) (.c (.d (.bool false))), .none⟩,
 ⟨some 27, none, .mv (.s 26), .none⟩,
 ⟨some 28, some (27, true), .mv (.s 8), .none⟩,
 ⟨some 29, some (27, true), .bin .neq (.s 28) (.c (.d (.str []))), .none⟩,
 ⟨some 30, none, .pick (.s 27) (.s 29) (.c (.d (.bool false))), .none⟩])
 (.cond (.s 30)
 (.seq (.reg [⟨some 2, none, .mv (.c (.d .nils)), .one 1 true⟩,
 ⟨some 3, none, .mv (.c (.d (.bool false))), .none⟩])
 (.ret (some [2, 3])))
 .skip))
 (.exit 1 none))
 .skip))
 (.seq (.seq (.reg [⟨some 31, none, .mv (.s 7), .none⟩,
 ⟨some 32, none, .mv (.s 31), .none⟩,
 ⟨some 33, some (32, true), .mv (.s 8), .none⟩,
 ⟨some 34, some (32, true), .sti (.s 33) (.c (.d (.int .i64 0))), .none⟩,
 ⟨some 35, some (32, true), .call 56 [.s 34] 2, .none⟩,
 ⟨some 36, none, .pick (.s 32) (.s 35) (.c (.d (.bool false))), .none⟩,
 ⟨some 37, none, .mv (.s 36), .none⟩,
 ⟨some 38, some (37, false), .mv (.s 6), .none⟩,
 ⟨some 39, some (37, false), .un .not (.s 38), .none⟩,
 ⟨some 40, some (37, false), .mv (.s 39), .none⟩,
 ⟨some 41, some (40, true), .mv (.s 8), .none⟩,
 ⟨some 42, some (40, true), .mv (.s 8), .none⟩,
 ⟨some 43, some (40, true), .lens (.s 42), .none⟩,
 ⟨some 44, some (40, true), .bin .sub (.s 43) (.c (.d (.int .i64 1))), .none⟩,
 ⟨some 45, some (40, true), .sti (.s 41) (.s 44), .none⟩,
 ⟨some 46, some (40, true), .call 56 [.s 45] 2, .none⟩,
 ⟨some 47, some (37, false), .pick (.s 40) (.s 46) (.c (.d (.bool false))), .none⟩,
 ⟨some 48, none, .pick (.s 37) (.c (.d (.bool true))) (.s 47), .none⟩])
 (.cond (.s 48)
 (.seq (.reg [⟨some 2, none, .mv (.c (.d .nils)), .one 1 true⟩,
 ⟨some 3, none, .mv (.c (.d (.bool false))), .none⟩])
 (.ret (some [2, 3])))
 .skip))
 (.reg [⟨some 49, none, .mv (.s 4), .none⟩,
 ⟨some 50, none, .mv (.s 9), .none⟩,
 ⟨some 51, none, .bsl 9 1 1 [.str []] [(0, (1, .s 50))], .none⟩,
 ⟨some 52, none, .app 9 1 16 (.s 49) (.s 51), .none⟩,
 ⟨some 4, none, .mv (.s 52), .none⟩])))))))
 (.reg [⟨some 7, none, .mv (.c (.d (.bool false))), .none⟩])))
def lp51_0 : C := lb51_0
theorem u51_0 (c : Ev.Callee) (l : Ev.Looper) (s : St) : evC c l lp51_0 s = evC c l lb51_0 s := rfl
abbrev st51_0 (m : Nat) (s4 s5 s6 s7 : AV) (h : Heap) : St := ⟨m,[.unk,.unk,.unk,.unk,s4,s5,s6,s7,.unk,.unk,.unk,.unk,.unk,.unk,.unk,.unk,.unk,.unk,.unk,.unk,.unk,.unk,.unk,.unk,.unk,.unk,.unk,.unk,.unk,.unk,.unk,.unk,.unk,.unk,.unk,.unk,.unk,.unk,.unk,.unk,.unk,.unk,.unk,.unk,.unk,.unk,.unk,.unk,.unk,.unk,.unk,.unk,.unk,.unk],h⟩
@[go_sem] theorem ks51_0 (a b c d e f g h i j k l m n o p q r s t u v w x y z a0 a1 a2 a3 a4 a5 a6 a7 a8 a9 b0 b1 b2 b3 b4 b5 b6 b7 b8 b9 c0 c1 c2 c3 c4 c5 c6 c7 : AV) : keepS [4,5,6,7] [a,b,c,d,e,f,g,h,i,j,k,l,m,n,o,p,q,r,s,t,u,v,w,x,y,z,a0,a1,a2,a3,a4,a5,a6,a7,a8,a9,b0,b1,b2,b3,b4,b5,b6,b7,b8,b9,c0,c1,c2,c3,c4,c5,c6,c7] 0 = [.unk,.unk,.unk,.unk,e,f,g,h,.unk,.unk,.unk,.unk,.unk,.unk,.unk,.unk,.unk,.unk,.unk,.unk,.unk,.unk,.unk,.unk,.unk,.unk,.unk,.unk,.unk,.unk,.unk,.unk,.unk,.unk,.unk,.unk,.unk,.unk,.unk,.unk,.unk,.unk,.unk,.unk,.unk,.unk,.unk,.unk,.unk,.unk,.unk,.unk,.unk,.unk] := rfl
@[go_sem] theorem ks51_1 (a b c d e f g h i j k l m n o p q r s t u v w x y z a0 a1 a2 a3 a4 a5 a6 a7 a8 a9 b0 b1 b2 b3 b4 b5 b6 b7 b8 b9 c0 c1 c2 c3 c4 c5 c6 c7 : AV) : keepS [4] [a,b,c,d,e,f,g,h,i,j,k,l,m,n,o,p,q,r,s,t,u,v,w,x,y,z,a0,a1,a2,a3,a4,a5,a6,a7,a8,a9,b0,b1,b2,b3,b4,b5,b6,b7,b8,b9,c0,c1,c2,c3,c4,c5,c6,c7] 0 = [.unk,.unk,.unk,.unk,e,.unk,.unk,.unk,.unk,.unk,.unk,.unk,.unk,.unk,.unk,.unk,.unk,.unk,.unk,.unk,.unk,.unk,.unk,.unk,.unk,.unk,.unk,.unk,.unk,.unk,.unk,.unk,.unk,.unk,.unk,.unk,.unk,.unk,.unk,.unk,.unk,.unk,.unk,.unk,.unk,.unk,.unk,.unk,.unk,.unk,.unk,.unk,.unk,.unk] := rfl
@[go_sem] theorem ks51_2 (a b c d e f g h i j k l m n o p q r s t u v w x y z a0 a1 a2 a3 a4 a5 a6 a7 a8 a9 b0 b1 b2 b3 b4 b5 b6 b7 b8 b9 c0 c1 c2 c3 c4 c5 c6 c7 : AV) : keepS [2,3] [a,b,c,d,e,f,g,h,i,j,k,l,m,n,o,p,q,r,s,t,u,v,w,x,y,z,a0,a1,a2,a3,a4,a5,a6,a7,a8,a9,b0,b1,b2,b3,b4,b5,b6,b7,b8,b9,c0,c1,c2,c3,c4,c5,c6,c7] 0 = [.unk,.unk,c,d,.unk,.unk,.unk,.unk,.unk,.unk,.unk,.unk,.unk,.unk,.unk,.unk,.unk,.unk,.unk,.unk,.unk,.unk,.unk,.unk,.unk,.unk,.unk,.unk,.unk,.unk,.unk,.unk,.unk,.unk,.unk,.unk,.unk,.unk,.unk,.unk,.unk,.unk,.unk,.unk,.unk,.unk,.unk,.unk,.unk,.unk,.unk,.unk,.unk,.unk] := rfl
/-- spence/text.List -/
def bd51 : C :=
 (.seq (.reg [⟨some 2, none, .mv (.c (.d .nils)), .one 1 true⟩,
 ⟨some 3, none, .mv (.c (.d (.bool false))), .none⟩])
 (.seq (.reg [⟨some 4, none, .mv (.c (.d .nils)), .one 1 true⟩])
 (.seq (.reg [⟨some 10, none, .mv (.s 0), .none⟩,
 ⟨some 5, none, .mv (.s 10), .none⟩,
 ⟨some 6, none, .mv (.c (.d (.bool true))), .none⟩])
 (.seq (.seq (.reg [⟨some 7, none, .mv (.c (.d (.bool true))), .none⟩])
 (.block 0 (.loop [4, 5, 6, 7] lp51_0)))
 (.seq (.reg [⟨some 53, none, .mv (.s 4), .none⟩,
 ⟨some 2, none, .mv (.s 53), .none⟩,
 ⟨some 3, none, .mv (.c (.d (.bool true))), .none⟩])
 (.ret none))))))
def ir51 : F := { n := 54, res := [.tmp 2, .tmp 3], body := bd51 }
@[go_sem] theorem n51 : ir51.n = 54 := rfl
@[go_sem] theorem r51 : ir51.res = [.tmp 2, .tmp 3] := rfl
@[go_sem] theorem b51 : ir51.body = bd51 := rfl
/-- spence/text.Fold -/
def bd52 : C :=
 (.seq (.reg [⟨some 4, none, .mv (.c (.d (.bool false))), .none⟩])
 (.seq (.reg [⟨some 5, none, .mv (.s 0), .none⟩,
 ⟨some 6, none, .call 69 [.s 5] 2, .none⟩,
 ⟨some 7, none, .mv (.s 1), .none⟩,
 ⟨some 8, none, .call 69 [.s 7] 2, .none⟩,
 ⟨some 9, none, .bin .eql (.s 6) (.s 8), .none⟩,
 ⟨some 4, none, .mv (.s 9), .none⟩])
 (.ret none)))
def ir52 : F := { n := 10, res := [.tmp 4], body := bd52 }
@[go_sem] theorem n52 : ir52.n = 10 := rfl
@[go_sem] theorem r52 : ir52.res = [.tmp 4] := rfl
@[go_sem] theorem b52 : ir52.body = bd52 := rfl
/-- spence/spec.One -/
def bd53 : C :=
 (.seq (.reg [⟨some 2, none, .alloc 61 [.int .i64 0, .int .i64 0, .int .i64 0], .none⟩,
 ⟨some 3, none, .mv (.c (.d (.int .i64 0))), .none⟩])
 (.seq (.reg [⟨some 8, none, .mv (.s 0), .none⟩,
 ⟨some 9, none, .call 50 [.s 8, .c (.d (.int .u8 45))] 2, .none⟩,
 ⟨some 7, none, .mv (.s 9), .none⟩,
 ⟨some 10, none, .ext (.s 7) 0, .none⟩,
 ⟨some 11, none, .ext (.s 7) 1, .none⟩,
 ⟨some 12, none, .ext (.s 7) 2, .none⟩,
 ⟨some 4, none, .mv (.s 10), .none⟩,
 ⟨some 5, none, .mv (.s 11), .none⟩,
 ⟨some 6, none, .mv (.s 12), .none⟩])
 (.seq (.block 0 (.seq (.reg [⟨some 14, none, .mv (.s 6), .none⟩,
 ⟨some 15, none, .un .not (.s 14), .none⟩,
 ⟨some 13, none, .mv (.s 15), .none⟩])
 (.cond (.s 13)
 (.seq (.reg [⟨some 16, none, .build [.int .i64 0, .int .i64 0, .int .i64 0] [], .none⟩,
 ⟨none, none, .st (.s 2) (.s 16) 3, .none⟩,
 ⟨some 3, none, .mv (.c (.d (.int .i64 3))), .none⟩])
 (.ret none))
 (.seq (.reg [⟨some 18, none, .mv (.s 4), .none⟩,
 ⟨some 19, none, .bin .eql (.s 18) (.c (.d (.str []))), .none⟩,
 ⟨some 17, none, .mv (.s 19), .none⟩])
 (.cond (.s 17)
 (.seq (.reg [⟨some 20, none, .mv (.s 5), .none⟩,
 ⟨some 21, none, .call 70 [.c (.d (.int .i64 3)), .s 20] 2, .none⟩,
 ⟨some 22, none, .ext (.s 21) 0, .none⟩,
 ⟨some 23, none, .ext (.s 21) 1, .none⟩,
 ⟨none, none, .st (.s 2) (.s 22) 3, .none⟩,
 ⟨some 3, none, .mv (.s 23), .none⟩])
 (.ret none))
 (.seq (.reg [⟨some 25, none, .mv (.s 5), .none⟩,
 ⟨some 26, none, .bin .eql (.s 25) (.c (.d (.str []))), .none⟩,
 ⟨some 24, none, .mv (.s 26), .none⟩])
 (.cond (.s 24)
 (.seq (.reg [⟨some 27, none, .mv (.s 4), .none⟩,
 ⟨some 28, none, .call 70 [.c (.d (.int .i64 1)), .s 27] 2, .none⟩,
 ⟨some 29, none, .ext (.s 28) 0, .none⟩,
 ⟨some 30, none, .ext (.s 28) 1, .none⟩,
 ⟨none, none, .st (.s 2) (.s 29) 3, .none⟩,
 ⟨some 3, none, .mv (.s 30), .none⟩])
 (.ret none))
 .skip)))))))
 (.seq (.reg [⟨some 31, none, .mv (.s 4), .none⟩,
 ⟨some 32, none, .mv (.s 5), .none⟩,
 ⟨some 33, none, .call 71 [.s 31, .s 32] 2, .none⟩,
 ⟨some 34, none, .ext (.s 33) 0, .none⟩,
 ⟨some 35, none, .ext (.s 33) 1, .none⟩,
 ⟨none, none, .st (.s 2) (.s 34) 3, .none⟩,
 ⟨some 3, none, .mv (.s 35), .none⟩])
 (.ret none)))))
def ir53 : F := { n := 36, res := [.cell 2 3 true, .tmp 3], body := bd53 }
@[go_sem] theorem n53 : ir53.n = 36 := rfl
@[go_sem] theorem r53 : ir53.res = [.cell 2 3 true, .tmp 3] := rfl
@[go_sem] theorem b53 : ir53.body = bd53 := rfl
/-- spence/spec.worse -/
def bd54 : C :=
 (.seq (.reg [⟨some 4, none, .mv (.c (.d (.int .i64 0))), .none⟩])
 (.seq (.seq (.reg [⟨some 5, none, .mv (.s 0), .none⟩,
 ⟨some 6, none, .bin .eql (.s 5) (.c (.d (.int .i64 3))), .none⟩,
 ⟨some 7, none, .mv (.s 6), .none⟩,
 ⟨some 8, some (7, false), .mv (.s 1), .none⟩,
 ⟨some 9, some (7, false), .bin .eql (.s 8) (.c (.d (.int .i64 0))), .none⟩,
 ⟨some 10, none, .pick (.s 7) (.c (.d (.bool true))) (.s 9), .none⟩])
 (.cond (.s 10)
 (.seq (.reg [⟨some 11, none, .mv (.s 0), .none⟩,
 ⟨some 4, none, .mv (.s 11), .none⟩])
 (.ret none))
 .skip))
 (.seq (.seq (.reg [⟨some 12, none, .mv (.s 1), .none⟩,
 ⟨some 13, none, .bin .eql (.s 12) (.c (.d (.int .i64 3))), .none⟩,
 ⟨some 14, none, .mv (.s 13), .none⟩,
 ⟨some 15, some (14, false), .mv (.s 0), .none⟩,
 ⟨some 16, some (14, false), .bin .eql (.s 15) (.c (.d (.int .i64 0))), .none⟩,
 ⟨some 17, none, .pick (.s 14) (.c (.d (.bool true))) (.s 16), .none⟩])
 (.cond (.s 17)
 (.seq (.reg [⟨some 18, none, .mv (.s 1), .none⟩,
 ⟨some 4, none, .mv (.s 18), .none⟩])
 (.ret none))
 .skip))
 (.seq (.reg [⟨some 19, none, .mv (.s 0), .none⟩,
 ⟨some 4, none, .mv (.s 19), .none⟩])
 (.ret none)))))
def ir54 : F := { n := 20, res := [.tmp 4], body := bd54 }
@[go_sem] theorem n54 : ir54.n = 20 := rfl
@[go_sem] theorem r54 : ir54.res = [.tmp 4] := rfl
@[go_sem] theorem b54 : ir54.body = bd54 := rfl
def lb55_0 : C :=
 (.seq (.seq (.reg [⟨some 6, none, .mv (.s 3), .none⟩,
 ⟨some 7, none, .bin .gtr (.s 6) (.c (.d (.int .i64 0))), .none⟩,
 ⟨some 8, none, .mv (.s 7), .none⟩,
 ⟨some 9, some (8, true), .mv (.s 0), .none⟩,
 ⟨some 10, some (8, true), .mv (.s 3), .none⟩,
 ⟨some 11, some (8, true), .bin .sub (.s 10) (.c (.d (.int .i64 1))), .none⟩,
 ⟨some 12, some (8, true), .sti (.s 9) (.s 11), .none⟩,
 ⟨some 13, some (8, true), .call 56 [.s 12] 2, .none⟩,
 ⟨some 14, none, .pick (.s 8) (.s 13) (.c (.d (.bool false))), .none⟩])
 (.cond (.s 14)
 .skip
 (.exit 0 (some [0, 3]))))
 (.block 1 (.reg [⟨some 15, none, .mv (.s 3), .none⟩,
 ⟨some 16, none, .bin .sub (.s 15) (.c (.d (.int .i64 1))), .none⟩,
 ⟨some 3, none, .mv (.s 16), .none⟩])))
def lp55_0 : C := lb55_0
theorem u55_0 (c : Ev.Callee) (l : Ev.Looper) (s : St) : evC c l lp55_0 s = evC c l lb55_0 s := rfl
abbrev st55_0 (m : Nat) (s0 s3 : AV) (h : Heap) : St := ⟨m,[s0,.unk,.unk,s3,.unk,.unk,.unk,.unk,.unk,.unk,.unk,.unk,.unk,.unk,.unk,.unk,.unk,.unk,.unk,.unk],h⟩
@[go_sem] theorem ks55_0 (a b c d e f g h i j k l m n o p q r s t : AV) : keepS [0,3] [a,b,c,d,e,f,g,h,i,j,k,l,m,n,o,p,q,r,s,t] 0 = [a,.unk,.unk,d,.unk,.unk,.unk,.unk,.unk,.unk,.unk,.unk,.unk,.unk,.unk,.unk,.unk,.unk,.unk,.unk] := rfl
/-- spence/text.Right -/
def bd55 : C :=
 (.seq (.reg [⟨some 2, none, .mv (.c (.d (.str []))), .none⟩])
 (.seq (.reg [⟨some 4, none, .mv (.s 0), .none⟩,
 ⟨some 5, none, .lens (.s 4), .none⟩,
 ⟨some 3, none, .mv (.s 5), .none⟩])
 (.seq (.block 0 (.loop [0, 3] lp55_0))
 (.seq (.reg [⟨some 17, none, .mv (.s 0), .none⟩,
 ⟨some 18, none, .mv (.s 3), .none⟩,
 ⟨some 19, none, .ssl (.s 17) none (some (.s 18)), .none⟩,
 ⟨some 2, none, .mv (.s 19), .none⟩])
 (.ret none)))))
def ir55 : F := { n := 20, res := [.tmp 2], body := bd55 }
@[go_sem] theorem n55 : ir55.n = 20 := rfl
@[go_sem] theorem r55 : ir55.res = [.tmp 2] := rfl
@[go_sem] theorem b55 : ir55.body = bd55 := rfl
/-- spence/text.blank -/
def bd56 : C :=
 (.seq (.reg [⟨some 2, none, .mv (.c (.d (.bool false))), .none⟩])
 (.seq (.reg [⟨some 3, none, .mv (.s 0), .none⟩,
 ⟨some 4, none, .bin .eql (.s 3) (.c (.d (.int .u8 32))), .none⟩,
 ⟨some 5, none, .mv (.s 4), .none⟩,
 ⟨some 6, some (5, false), .mv (.s 0), .none⟩,
 ⟨some 7, some (5, false), .bin .eql (.s 6) (.c (.d (.int .u8 9))), .none⟩,
 ⟨some 8, none, .pick (.s 5) (.c (.d (.bool true))) (.s 7), .none⟩,
 ⟨some 2, none, .mv (.s 8), .none⟩])
 (.ret none)))
def ir56 : F := { n := 9, res := [.tmp 2], body := bd56 }
@[go_sem] theorem n56 : ir56.n = 9 := rfl
@[go_sem] theorem r56 : ir56.res = [.tmp 2] := rfl
@[go_sem] theorem b56 : ir56.body = bd56 := rfl
/-- strings.CutPrefix -/
def bd57 : C :=
 (.seq (.reg [⟨some 4, none, .mv (.c (.d (.str []))), .none⟩,
 ⟨some 5, none, .mv (.c (.d (.bool false))), .none⟩])
 (.seq (.reg [⟨some 6, none, .mv (.s 0), .none⟩,
 ⟨some 7, none, .mv (.s 1), .none⟩,
 ⟨some 8, none, .call 72 [.s 6, .s 7] 2, .none⟩,
 ⟨some 9, none, .ext (.s 8) 0, .none⟩,
 ⟨some 10, none, .ext (.s 8) 1, .none⟩,
 ⟨some 4, none, .mv (.s 9), .none⟩,
 ⟨some 5, none, .mv (.s 10), .none⟩])
 (.ret none)))
def ir57 : F := { n := 11, res := [.tmp 4, .tmp 5], body := bd57 }
@[go_sem] theorem n57 : ir57.n = 11 := rfl
@[go_sem] theorem r57 : ir57.res = [.tmp 4, .tmp 5] := rfl
@[go_sem] theorem b57 : ir57.body = bd57 := rfl
def lb58_0 : C :=
 (.seq (.reg [⟨some 7, none, .bin .lss (.s 6) (.s 5), .none⟩])
 (.seq (.cond (.s 7)
 .skip
 (.exit 0 (some [])))
 (.seq (.block 1 (.seq (.reg [⟨some 8, none, .mv (.s 6), .none⟩,
 ⟨some 3, none, .mv (.s 8), .none⟩])
 (.seq (.reg [⟨some 9, none, .mv (.s 0), .none⟩,
 ⟨some 10, none, .mv (.s 3), .none⟩,
 ⟨some 11, none, .sti (.s 9) (.s 10), .none⟩,
 ⟨some 12, none, .call 73 [.s 11] 2, .none⟩,
 ⟨some 13, none, .un .not (.s 12), .none⟩])
 (.cond (.s 13)
 (.seq (.reg [⟨some 2, none, .mv (.c (.d (.bool false))), .none⟩])
 (.ret (some [2])))
 .skip))))
 (.reg [⟨some 14, none, .bin .add (.s 6) (.c (.d (.int .i64 1))), .none⟩,
 ⟨some 6, none, .mv (.s 14), .none⟩]))))
def lp58_0 : C := lb58_0
theorem u58_0 (c : Ev.Callee) (l : Ev.Looper) (s : St) : evC c l lp58_0 s = evC c l lb58_0 s := rfl
abbrev st58_0 (m : Nat) (s0 s5 s6 : AV) (h : Heap) : St := ⟨m,[s0,.unk,.unk,.unk,.unk,s5,s6,.unk,.unk,.unk,.unk,.unk,.unk,.unk,.unk],h⟩
@[go_sem] theorem ks58_0 (a b c d e f g h i j k l m n o : AV) : keepS [0,5,6] [a,b,c,d,e,f,g,h,i,j,k,l,m,n,o] 0 = [a,.unk,.unk,.unk,.unk,f,g,.unk,.unk,.unk,.unk,.unk,.unk,.unk,.unk] := rfl
@[go_sem] theorem ks58_1 (a b c d e f g h i j k l m n o : AV) : keepS [] [a,b,c,d,e,f,g,h,i,j,k,l,m,n,o] 0 = [.unk,.unk,.unk,.unk,.unk,.unk,.unk,.unk,.unk,.unk,.unk,.unk,.unk,.unk,.unk] := rfl
@[go_sem] theorem ks58_2 (a b c d e f g h i j k l m n o : AV) : keepS [2] [a,b,c,d,e,f,g,h,i,j,k,l,m,n,o] 0 = [.unk,.unk,c,.unk,.unk,.unk,.unk,.unk,.unk,.unk,.unk,.unk,.unk,.unk,.unk] := rfl
/-- spence/etag.plain -/
def bd58 : C :=
 (.seq (.reg [⟨some 2, none, .mv (.c (.d (.bool false))), .none⟩])
 (.seq (.seq (.reg [⟨some 4, none, .mv (.s 0), .none⟩,
 ⟨some 5, none, .lens (.s 4), .none⟩,
 ⟨some 6, none, .mv (.c (.d (.int .i64 0))), .none⟩])
 (.block 0 (.loop [0, 5, 6] lp58_0)))
 (.seq (.reg [⟨some 2, none, .mv (.c (.d (.bool true))), .none⟩])
 (.ret none))))
def ir58 : F := { n := 15, res := [.tmp 2], body := bd58 }
@[go_sem] theorem n58 : ir58.n = 15 := rfl
@[go_sem] theorem r58 : ir58.res = [.tmp 2] := rfl
@[go_sem] theorem b58 : ir58.body = bd58 := rfl
/-- spence/etag.Right -/
def bd59 : C :=
 (.seq (.reg [⟨some 1, none, .box 55 (.s 0), .none⟩,
 ⟨some 2, none, .mv (.c (.d (.bool false))), .none⟩])
 (.seq (.reg [⟨some 3, none, .fa (.s 1) 1, .none⟩,
 ⟨some 4, none, .ld (.s 3) 1 false, .none⟩,
 ⟨some 5, none, .call 58 [.s 4] 2, .none⟩,
 ⟨some 6, none, .mv (.s 5), .none⟩,
 ⟨some 7, some (6, true), .fa (.s 1) 1, .none⟩,
 ⟨some 8, some (6, true), .ld (.s 7) 1 false, .none⟩,
 ⟨some 9, some (6, true), .lens (.s 8), .none⟩,
 ⟨some 10, some (6, true), .bin .leq (.s 9) (.c (.d (.int .i64 40))), .none⟩,
 ⟨some 11, none, .pick (.s 6) (.s 10) (.c (.d (.bool false))), .none⟩,
 ⟨some 2, none, .mv (.s 11), .none⟩])
 (.ret none)))
def ir59 : F := { n := 12, res := [.tmp 2], body := bd59 }
@[go_sem] theorem n59 : ir59.n = 12 := rfl
@[go_sem] theorem r59 : ir59.res = [.tmp 2] := rfl
@[go_sem] theorem b59 : ir59.body = bd59 := rfl
/-- spence/etag.Weak -/
def bd60 : C :=
 (.seq (.reg [⟨some 2, none, .box 55 (.s 0), .none⟩,
 ⟨some 3, none, .box 55 (.s 1), .none⟩,
 ⟨some 4, none, .mv (.c (.d (.bool false))), .none⟩])
 (.seq (.reg [⟨some 5, none, .fa (.s 2) 1, .none⟩,
 ⟨some 6, none, .ld (.s 5) 1 false, .none⟩,
 ⟨some 7, none, .fa (.s 3) 1, .none⟩,
 ⟨some 8, none, .ld (.s 7) 1 false, .none⟩,
 ⟨some 9, none, .bin .eql (.s 6) (.s 8), .none⟩,
 ⟨some 4, none, .mv (.s 9), .none⟩])
 (.ret none)))
def ir60 : F := { n := 10, res := [.tmp 4], body := bd60 }
@[go_sem] theorem n60 : ir60.n = 10 := rfl
@[go_sem] theorem r60 : ir60.res = [.tmp 4] := rfl
@[go_sem] theorem b60 : ir60.body = bd60 := rfl
def lb61_0 : C :=
 (.seq (.reg [⟨some 9, none, .bin .lss (.s 8) (.s 7), .none⟩])
 (.seq (.cond (.s 9)
 .skip
 (.exit 0 (some [])))
 (.seq (.block 1 (.seq (.reg [⟨some 10, none, .mv (.s 8), .none⟩,
 ⟨some 5, none, .mv (.s 10), .none⟩])
 (.seq (.reg [⟨some 11, none, .mv (.s 1), .none⟩,
 ⟨some 12, none, .mv (.s 0), .none⟩,
 ⟨some 13, none, .mv (.s 5), .none⟩,
 ⟨some 14, none, .is (.s 12) (.s 13) 2, .none⟩,
 ⟨some 15, none, .ld (.s 14) 2 true, .none⟩,
 ⟨some 16, none, .callv (.s 11) [.s 15] 0, .none⟩])
 (.cond (.s 16)
 (.seq (.reg [⟨some 17, none, .mv (.s 5), .none⟩,
 ⟨some 4, none, .mv (.s 17), .none⟩])
 (.ret (some [4])))
 .skip))))
 (.reg [⟨some 18, none, .bin .add (.s 8) (.c (.d (.int .i64 1))), .none⟩,
 ⟨some 8, none, .mv (.s 18), .none⟩]))))
def lp61_0 : C := lb61_0
theorem u61_0 (c : Ev.Callee) (l : Ev.Looper) (s : St) : evC c l lp61_0 s = evC c l lb61_0 s := rfl
abbrev st61_0 (m : Nat) (s0 s1 s7 s8 : AV) (h : Heap) : St := ⟨m,[s0,s1,.unk,.unk,.unk,.unk,.unk,s7,s8,.unk,.unk,.unk,.unk,.unk,.unk,.unk,.unk,.unk,.unk],h⟩
@[go_sem] theorem ks61_0 (a b c d e f g h i j k l m n o p q r s : AV) : keepS [0,1,7,8] [a,b,c,d,e,f,g,h,i,j,k,l,m,n,o,p,q,r,s] 0 = [a,b,.unk,.unk,.unk,.unk,.unk,h,i,.unk,.unk,.unk,.unk,.unk,.unk,.unk,.unk,.unk,.unk] := rfl
@[go_sem] theorem ks61_1 (a b c d e f g h i j k l m n o p q r s : AV) : keepS [] [a,b,c,d,e,f,g,h,i,j,k,l,m,n,o,p,q,r,s] 0 = [.unk,.unk,.unk,.unk,.unk,.unk,.unk,.unk,.unk,.unk,.unk,.unk,.unk,.unk,.unk,.unk,.unk,.unk,.unk] := rfl
@[go_sem] theorem ks61_2 (a b c d e f g h i j k l m n o p q r s : AV) : keepS [4] [a,b,c,d,e,f,g,h,i,j,k,l,m,n,o,p,q,r,s] 0 = [.unk,.unk,.unk,.unk,e,.unk,.unk,.unk,.unk,.unk,.unk,.unk,.unk,.unk,.unk,.unk,.unk,.unk,.unk] := rfl
/-- slices.IndexFunc[[]spence/api.Span,spence/api.Span] -/
def bd61 : C :=
 (.seq (.reg [⟨some 4, none, .mv (.c (.d (.int .i64 0))), .none⟩])
 (.seq (.seq (.reg [⟨some 6, none, .mv (.s 0), .none⟩,
 ⟨some 7, none, .len (.s 6), .none⟩,
 ⟨some 8, none, .mv (.c (.d (.int .i64 0))), .none⟩])
 (.block 0 (.loop [0, 1, 7, 8] lp61_0)))
 (.seq (.reg [⟨some 4, none, .mv (.c (.d (.int .i64 (-1)))), .none⟩])
 (.ret none))))
def ir61 : F := { n := 19, res := [.tmp 4], body := bd61 }
@[go_sem] theorem n61 : ir61.n = 19 := rfl
@[go_sem] theorem r61 : ir61.res = [.tmp 4] := rfl
@[go_sem] theorem b61 : ir61.body = bd61 := rfl
/-- spence/spenceref01.Blank -/
def bd64 : C :=
 (.seq (.reg [⟨some 2, none, .mv (.c (.d (.bool false))), .none⟩])
 (.seq (.reg [⟨some 3, none, .mv (.s 0), .none⟩,
 ⟨some 4, none, .bin .eql (.s 3) (.c (.d (.int .u8 32))), .none⟩,
 ⟨some 5, none, .mv (.s 4), .none⟩,
 ⟨some 6, some (5, false), .mv (.s 0), .none⟩,
 ⟨some 7, some (5, false), .bin .eql (.s 6) (.c (.d (.int .u8 9))), .none⟩,
 ⟨some 8, none, .pick (.s 5) (.c (.d (.bool true))) (.s 7), .none⟩,
 ⟨some 2, none, .mv (.s 8), .none⟩])
 (.ret none)))
def ir64 : F := { n := 9, res := [.tmp 2], body := bd64 }
@[go_sem] theorem n64 : ir64.n = 9 := rfl
@[go_sem] theorem r64 : ir64.res = [.tmp 2] := rfl
@[go_sem] theorem b64 : ir64.body = bd64 := rfl
def lb65_2 : C :=
 (.seq (.seq (.reg [⟨some 51, none, .mv (.s 8), .none⟩,
 ⟨some 52, none, .mv (.s 6), .none⟩,
 ⟨some 53, none, .lens (.s 52), .none⟩,
 ⟨some 54, none, .bin .lss (.s 51) (.s 53), .none⟩])
 (.cond (.s 54)
 .skip
 (.exit 4 (some [7]))))
 (.seq (.block 5 (.reg [⟨some 57, none, .mv (.s 7), .none⟩,
 ⟨some 58, none, .bin .mul (.c (.d (.int .i64 10))) (.s 57), .none⟩,
 ⟨some 59, none, .mv (.s 6), .none⟩,
 ⟨some 60, none, .mv (.s 8), .none⟩,
 ⟨some 61, none, .sti (.s 59) (.s 60), .none⟩,
 ⟨some 62, none, .cvi .i64 (.s 61), .none⟩,
 ⟨some 63, none, .bin .add (.s 58) (.s 62), .none⟩,
 ⟨some 64, none, .bin .sub (.s 63) (.c (.d (.int .i64 48))), .none⟩,
 ⟨some 7, none, .mv (.s 64), .none⟩]))
 (.reg [⟨some 55, none, .mv (.s 8), .none⟩,
 ⟨some 56, none, .bin .add (.s 55) (.c (.d (.int .i64 1))), .none⟩,
 ⟨some 8, none, .mv (.s 56), .none⟩])))
def lp65_2 : C := lb65_2
theorem u65_2 (c : Ev.Callee) (l : Ev.Looper) (s : St) : evC c l lp65_2 s = evC c l lb65_2 s := rfl
abbrev st65_2 (m : Nat) (s6 s7 s8 : AV) (h : Heap) : St := ⟨m,[.unk,.unk,.unk,.unk,.unk,.unk,s6,s7,s8,.unk,.unk,.unk,.unk,.unk,.unk,.unk,.unk,.unk,.unk,.unk,.unk,.unk,.unk,.unk,.unk,.unk,.unk,.unk,.unk,.unk,.unk,.unk,.unk,.unk,.unk,.unk,.unk,.unk,.unk,.unk,.unk,.unk,.unk,.unk,.unk,.unk,.unk,.unk,.unk,.unk,.unk,.unk,.unk,.unk,.unk,.unk,.unk,.unk,.unk,.unk,.unk,.unk,.unk,.unk,.unk,.unk],h⟩
def lb65_1 : C :=
 (.seq (.seq (.reg [⟨some 23, none, .mv (.s 5), .none⟩,
 ⟨some 24, none, .mv (.s 0), .none⟩,
 ⟨some 25, none, .lens (.s 24), .none⟩,
 ⟨some 26, none, .bin .sub (.s 25) (.c (.d (.int .i64 1))), .none⟩,
 ⟨some 27, none, .bin .lss (.s 23) (.s 26), .none⟩,
 ⟨some 28, none, .mv (.s 27), .none⟩,
 ⟨some 29, some (28, true), .mv (.s 0), .none⟩,
 ⟨some 30, some (28, true), .mv (.s 5), .none⟩,
 ⟨some 31, some (28, true), .sti (.s 29) (.s 30), .none⟩,
 ⟨some 32, some (28, true), .bin .eql (.s 31) (.c (.d (.int .u8 48))), .none⟩,
 ⟨some 33, none, .pick (.s 28) (.s 32) (.c (.d (.bool false))), .none⟩])
 (.cond (.s 33)
 .skip
 (.exit 2 (some [0, 5]))))
 (.block 3 (.reg [⟨some 34, none, .mv (.s 5), .none⟩,
 ⟨some 35, none, .bin .add (.s 34) (.c (.d (.int .i64 1))), .none⟩,
 ⟨some 5, none, .mv (.s 35), .none⟩])))
def lp65_1 : C := lb65_1
theorem u65_1 (c : Ev.Callee) (l : Ev.Looper) (s : St) : evC c l lp65_1 s = evC c l lb65_1 s := rfl
abbrev st65_1 (m : Nat) (s0 s5 : AV) (h : Heap) : St := ⟨m,[s0,.unk,.unk,.unk,.unk,s5,.unk,.unk,.unk,.unk,.unk,.unk,.unk,.unk,.unk,.unk,.unk,.unk,.unk,.unk,.unk,.unk,.unk,.unk,.unk,.unk,.unk,.unk,.unk,.unk,.unk,.unk,.unk,.unk,.unk,.unk,.unk,.unk,.unk,.unk,.unk,.unk,.unk,.unk,.unk,.unk,.unk,.unk,.unk,.unk,.unk,.unk,.unk,.unk,.unk,.unk,.unk,.unk,.unk,.unk,.unk,.unk,.unk,.unk,.unk,.unk],h⟩
def lb65_0 : C :=
 (.seq (.seq (.reg [⟨some 12, none, .mv (.s 4), .none⟩,
 ⟨some 13, none, .mv (.s 0), .none⟩,
 ⟨some 14, none, .lens (.s 13), .none⟩,
 ⟨some 15, none, .bin .lss (.s 12) (.s 14), .none⟩])
 (.cond (.s 15)
 .skip
 (.exit 0 (some [0]))))
 (.seq (.block 1 (.seq (.reg [⟨some 18, none, .mv (.s 0), .none⟩,
 ⟨some 19, none, .mv (.s 4), .none⟩,
 ⟨some 20, none, .sti (.s 18) (.s 19), .none⟩,
 ⟨some 21, none, .call 84 [.s 20] 2, .none⟩,
 ⟨some 22, none, .un .not (.s 21), .none⟩])
 (.cond (.s 22)
 (.seq (.reg [⟨some 2, none, .mv (.c (.d (.int .i64 0))), .none⟩,
 ⟨some 3, none, .mv (.c (.d (.int .i64 3))), .none⟩])
 (.ret (some [2, 3])))
 .skip)))
 (.reg [⟨some 16, none, .mv (.s 4), .none⟩,
 ⟨some 17, none, .bin .add (.s 16) (.c (.d (.int .i64 1))), .none⟩,
 ⟨some 4, none, .mv (.s 17), .none⟩])))
def lp65_0 : C := lb65_0
theorem u65_0 (c : Ev.Callee) (l : Ev.Looper) (s : St) : evC c l lp65_0 s = evC c l lb65_0 s := rfl
abbrev st65_0 (m : Nat) (s0 s4 : AV) (h : Heap) : St := ⟨m,[s0,.unk,.unk,.unk,s4,.unk,.unk,.unk,.unk,.unk,.unk,.unk,.unk,.unk,.unk,.unk,.unk,.unk,.unk,.unk,.unk,.unk,.unk,.unk,.unk,.unk,.unk,.unk,.unk,.unk,.unk,.unk,.unk,.unk,.unk,.unk,.unk,.unk,.unk,.unk,.unk,.unk,.unk,.unk,.unk,.unk,.unk,.unk,.unk,.unk,.unk,.unk,.unk,.unk,.unk,.unk,.unk,.unk,.unk,.unk,.unk,.unk,.unk,.unk,.unk,.unk],h⟩
@[go_sem] theorem ks65_0 (a b c d e f g h i j k l m n o p q r s t u v w x y z a0 a1 a2 a3 a4 a5 a6 a7 a8 a9 b0 b1 b2 b3 b4 b5 b6 b7 b8 b9 c0 c1 c2 c3 c4 c5 c6 c7 c8 c9 d0 d1 d2 d3 d4 d5 d6 d7 d8 d9 : AV) : keepS [0,4] [a,b,c,d,e,f,g,h,i,j,k,l,m,n,o,p,q,r,s,t,u,v,w,x,y,z,a0,a1,a2,a3,a4,a5,a6,a7,a8,a9,b0,b1,b2,b3,b4,b5,b6,b7,b8,b9,c0,c1,c2,c3,c4,c5,c6,c7,c8,c9,d0,d1,d2,d3,d4,d5,d6,d7,d8,d9] 0 = [a,.unk,.unk,.unk,e,.unk,.unk,.unk,.unk,.unk,.unk,.unk,.unk,.unk,.unk,.unk,.unk,.unk,.unk,.unk,.unk,.unk,.unk,.unk,.unk,.unk,.unk,.unk,.unk,.unk,.unk,.unk,.unk,.unk,.unk,.unk,.unk,.unk,.unk,.unk,.unk,.unk,.unk,.unk,.unk,.unk,.unk,.unk,.unk,.unk,.unk,.unk,.unk,.unk,.unk,.unk,.unk,.unk,.unk,.unk,.unk,.unk,.unk,.unk,.unk,.unk] := rfl
@[go_sem] theorem ks65_1 (a b c d e f g h i j k l m n o p q r s t u v w x y z a0 a1 a2 a3 a4 a5 a6 a7 a8 a9 b0 b1 b2 b3 b4 b5 b6 b7 b8 b9 c0 c1 c2 c3 c4 c5 c6 c7 c8 c9 d0 d1 d2 d3 d4 d5 d6 d7 d8 d9 : AV) : keepS [0] [a,b,c,d,e,f,g,h,i,j,k,l,m,n,o,p,q,r,s,t,u,v,w,x,y,z,a0,a1,a2,a3,a4,a5,a6,a7,a8,a9,b0,b1,b2,b3,b4,b5,b6,b7,b8,b9,c0,c1,c2,c3,c4,c5,c6,c7,c8,c9,d0,d1,d2,d3,d4,d5,d6,d7,d8,d9] 0 = [a,.unk,.unk,.unk,.unk,.unk,.unk,.unk,.unk,.unk,.unk,.unk,.unk,.unk,.unk,.unk,.unk,.unk,.unk,.unk,.unk,.unk,.unk,.unk,.unk,.unk,.unk,.unk,.unk,.unk,.unk,.unk,.unk,.unk,.unk,.unk,.unk,.unk,.unk,.unk,.unk,.unk,.unk,.unk,.unk,.unk,.unk,.unk,.unk,.unk,.unk,.unk,.unk,.unk,.unk,.unk,.unk,.unk,.unk,.unk,.unk,.unk,.unk,.unk,.unk,.unk] := rfl
@[go_sem] theorem ks65_2 (a b c d e f g h i j k l m n o p q r s t u v w x y z a0 a1 a2 a3 a4 a5 a6 a7 a8 a9 b0 b1 b2 b3 b4 b5 b6 b7 b8 b9 c0 c1 c2 c3 c4 c5 c6 c7 c8 c9 d0 d1 d2 d3 d4 d5 d6 d7 d8 d9 : AV) : keepS [2,3] [a,b,c,d,e,f,g,h,i,j,k,l,m,n,o,p,q,r,s,t,u,v,w,x,y,z,a0,a1,a2,a3,a4,a5,a6,a7,a8,a9,b0,b1,b2,b3,b4,b5,b6,b7,b8,b9,c0,c1,c2,c3,c4,c5,c6,c7,c8,c9,d0,d1,d2,d3,d4,d5,d6,d7,d8,d9] 0 = [.unk,.unk,c,d,.unk,.unk,.unk,.unk,.unk,.unk,.unk,.unk,.unk,.unk,.unk,.unk,.unk,.unk,.unk,.unk,.unk,.unk,.unk,.unk,.unk,.unk,.unk,.unk,.unk,.unk,.unk,.unk,.unk,.unk,.unk,.unk,.unk,.unk,.unk,.unk,.unk,.unk,.unk,.unk,.unk,.unk,.unk,.unk,.unk,.unk,.unk,.unk,.unk,.unk,.unk,.unk,.unk,.unk,.unk,.unk,.unk,.unk,.unk,.unk,.unk,.unk] := rfl
@[go_sem] theorem ks65_3 (a b c d e f g h i j k l m n o p q r s t u v w x y z a0 a1 a2 a3 a4 a5 a6 a7 a8 a9 b0 b1 b2 b3 b4 b5 b6 b7 b8 b9 c0 c1 c2 c3 c4 c5 c6 c7 c8 c9 d0 d1 d2 d3 d4 d5 d6 d7 d8 d9 : AV) : keepS [0,5] [a,b,c,d,e,f,g,h,i,j,k,l,m,n,o,p,q,r,s,t,u,v,w,x,y,z,a0,a1,a2,a3,a4,a5,a6,a7,a8,a9,b0,b1,b2,b3,b4,b5,b6,b7,b8,b9,c0,c1,c2,c3,c4,c5,c6,c7,c8,c9,d0,d1,d2,d3,d4,d5,d6,d7,d8,d9] 0 = [a,.unk,.unk,.unk,.unk,f,.unk,.unk,.unk,.unk,.unk,.unk,.unk,.unk,.unk,.unk,.unk,.unk,.unk,.unk,.unk,.unk,.unk,.unk,.unk,.unk,.unk,.unk,.unk,.unk,.unk,.unk,.unk,.unk,.unk,.unk,.unk,.unk,.unk,.unk,.unk,.unk,.unk,.unk,.unk,.unk,.unk,.unk,.unk,.unk,.unk,.unk,.unk,.unk,.unk,.unk,.unk,.unk,.unk,.unk,.unk,.unk,.unk,.unk,.unk,.unk] := rfl
@[go_sem] theorem ks65_4 (a b c d e f g h i j k l m n o p q r s t u v w x y z a0 a1 a2 a3 a4 a5 a6 a7 a8 a9 b0 b1 b2 b3 b4 b5 b6 b7 b8 b9 c0 c1 c2 c3 c4 c5 c6 c7 c8 c9 d0 d1 d2 d3 d4 d5 d6 d7 d8 d9 : AV) : keepS [6,7,8] [a,b,c,d,e,f,g,h,i,j,k,l,m,n,o,p,q,r,s,t,u,v,w,x,y,z,a0,a1,a2,a3,a4,a5,a6,a7,a8,a9,b0,b1,b2,b3,b4,b5,b6,b7,b8,b9,c0,c1,c2,c3,c4,c5,c6,c7,c8,c9,d0,d1,d2,d3,d4,d5,d6,d7,d8,d9] 0 = [.unk,.unk,.unk,.unk,.unk,.unk,g,h,i,.unk,.unk,.unk,.unk,.unk,.unk,.unk,.unk,.unk,.unk,.unk,.unk,.unk,.unk,.unk,.unk,.unk,.unk,.unk,.unk,.unk,.unk,.unk,.unk,.unk,.unk,.unk,.unk,.unk,.unk,.unk,.unk,.unk,.unk,.unk,.unk,.unk,.unk,.unk,.unk,.unk,.unk,.unk,.unk,.unk,.unk,.unk,.unk,.unk,.unk,.unk,.unk,.unk,.unk,.unk,.unk,.unk] := rfl
@[go_sem] theorem ks65_5 (a b c d e f g h i j k l m n o p q r s t u v w x y z a0 a1 a2 a3 a4 a5 a6 a7 a8 a9 b0 b1 b2 b3 b4 b5 b6 b7 b8 b9 c0 c1 c2 c3 c4 c5 c6 c7 c8 c9 d0 d1 d2 d3 d4 d5 d6 d7 d8 d9 : AV) : keepS [7] [a,b,c,d,e,f,g,h,i,j,k,l,m,n,o,p,q,r,s,t,u,v,w,x,y,z,a0,a1,a2,a3,a4,a5,a6,a7,a8,a9,b0,b1,b2,b3,b4,b5,b6,b7,b8,b9,c0,c1,c2,c3,c4,c5,c6,c7,c8,c9,d0,d1,d2,d3,d4,d5,d6,d7,d8,d9] 0 = [.unk,.unk,.unk,.unk,.unk,.unk,.unk,h,.unk,.unk,.unk,.unk,.unk,.unk,.unk,.unk,.unk,.unk,.unk,.unk,.unk,.unk,.unk,.unk,.unk,.unk,.unk,.unk,.unk,.unk,.unk,.unk,.unk,.unk,.unk,.unk,.unk,.unk,.unk,.unk,.unk,.unk,.unk,.unk,.unk,.unk,.unk,.unk,.unk,.unk,.unk,.unk,.unk,.unk,.unk,.unk,.unk,.unk,.unk,.unk,.unk,.unk,.unk,.unk,.unk,.unk] := rfl
/-- spence/spenceref01.Parse -/
def bd65 : C :=
 (.seq (.reg [⟨some 2, none, .mv (.c (.d (.int .i64 0))), .none⟩,
 ⟨some 3, none, .mv (.c (.d (.int .i64 0))), .none⟩])
 (.seq (.seq (.reg [⟨some 9, none, .mv (.s 0), .none⟩,
 ⟨some 10, none, .lens (.s 9), .none⟩,
 ⟨some 11, none, .bin .eql (.s 10) (.c (.d (.int .i64 0))), .none⟩])
 (.cond (.s 11)
 (.seq (.reg [⟨some 2, none, .mv (.c (.d (.int .i64 0))), .none⟩,
 ⟨some 3, none, .mv (.c (.d (.int .i64 3))), .none⟩])
 (.ret none))
 .skip))
 (.seq (.seq (.reg [⟨some 4, none, .mv (.c (.d (.int .i64 0))), .none⟩])
 (.block 0 (.loop [0, 4] lp65_0)))
 (.seq (.reg [⟨some 5, none, .mv (.c (.d (.int .i64 0))), .none⟩])
 (.seq (.block 2 (.loop [0, 5] lp65_1))
 (.seq (.reg [⟨some 36, none, .mv (.s 0), .none⟩,
 ⟨some 37, none, .mv (.s 5), .none⟩,
 ⟨some 38, none, .ssl (.s 36) (some (.s 37)) none, .none⟩,
 ⟨some 6, none, .mv (.s 38), .none⟩])
 (.seq (.seq (.reg [⟨some 39, none, .mv (.s 6), .none⟩,
 ⟨some 40, none, .lens (.s 39), .none⟩,
 ⟨some 41, none, .bin .gtr (.s 40) (.c (.d (.int .i64 19))), .none⟩,
 ⟨some 42, none, .mv (.s 41), .none⟩,
 ⟨some 43, some (42, false), .mv (.s 6), .none⟩,
 ⟨some 44, some (42, false), .lens (.s 43), .none⟩,
 ⟨some 45, some (42, false), .bin .eql (.s 44) (.c (.d (.int .i64 19))), .none⟩,
 ⟨some 46, some (42, false), .mv (.s 45), .none⟩,
 ⟨some 47, some (46, true), .mv (.s 6), .none⟩,
 ⟨some 48, some (46, true), .bin .gtr (.s 47) (.c (.d (.str [52, 54, 49, 49, 54, 56, 54, 48, 49, 56, 52, 50, 55, 51, 56, 55, 57, 48, 51]))), .none⟩,
 ⟨some 49, some (42, false), .pick (.s 46) (.s 48) (.c (.d (.bool false))), .none⟩,
 ⟨some 50, none, .pick (.s 42) (.c (.d (.bool true))) (.s 49), .none⟩])
 (.cond (.s 50)
 (.seq (.reg [⟨some 2, none, .mv (.c (.d (.int .i64 0))), .none⟩,
 ⟨some 3, none, .mv (.c (.d (.int .i64 9))), .none⟩])
 (.ret none))
 .skip))
 (.seq (.reg [⟨some 7, none, .mv (.c (.d (.int .i64 0))), .none⟩])
 (.seq (.seq (.reg [⟨some 8, none, .mv (.c (.d (.int .i64 0))), .none⟩])
 (.block 4 (.loop [6, 7, 8] lp65_2)))
 (.seq (.reg [⟨some 65, none, .mv (.s 7), .none⟩,
 ⟨some 2, none, .mv (.s 65), .none⟩,
 ⟨some 3, none, .mv (.c (.d (.int .i64 0))), .none⟩])
 (.ret none)))))))))))
def ir65 : F := { n := 66, res := [.tmp 2, .tmp 3], body := bd65 }
@[go_sem] theorem n65 : ir65.n = 66 := rfl
@[go_sem] theorem r65 : ir65.res = [.tmp 2, .tmp 3] := rfl
@[go_sem] theorem b65 : ir65.body = bd65 := rfl
/-- spence/spenceref04.less -/
def bd66 : C :=
 (.seq (.reg [⟨some 4, none, .mv (.c (.d (.bool false))), .none⟩])
 (.seq (.reg [⟨some 5, none, .mv (.s 0), .none⟩,
 ⟨some 6, none, .call 85 [.s 5] 2, .none⟩,
 ⟨some 7, none, .mv (.s 1), .none⟩,
 ⟨some 8, none, .call 85 [.s 7] 2, .none⟩,
 ⟨some 0, none, .mv (.s 6), .none⟩,
 ⟨some 1, none, .mv (.s 8), .none⟩])
 (.seq (.seq (.reg [⟨some 9, none, .mv (.s 0), .none⟩,
 ⟨some 10, none, .lens (.s 9), .none⟩,
 ⟨some 11, none, .mv (.s 1), .none⟩,
 ⟨some 12, none, .lens (.s 11), .none⟩,
 ⟨some 13, none, .bin .neq (.s 10) (.s 12), .none⟩])
 (.cond (.s 13)
 (.seq (.reg [⟨some 14, none, .mv (.s 0), .none⟩,
 ⟨some 15, none, .lens (.s 14), .none⟩,
 ⟨some 16, none, .mv (.s 1), .none⟩,
 ⟨some 17, none, .lens (.s 16), .none⟩,
 ⟨some 18, none, .bin .lss (.s 15) (.s 17), .none⟩,
 ⟨some 4, none, .mv (.s 18), .none⟩])
 (.ret none))
 .skip))
 (.seq (.reg [⟨some 19, none, .mv (.s 0), .none⟩,
 ⟨some 20, none, .mv (.s 1), .none⟩,
 ⟨some 21, none, .bin .lss (.s 19) (.s 20), .none⟩,
 ⟨some 4, none, .mv (.s 21), .none⟩])
 (.ret none)))))
def ir66 : F := { n := 22, res := [.tmp 4], body := bd66 }
@[go_sem] theorem n66 : ir66.n = 22 := rfl
@[go_sem] theorem r66 : ir66.res = [.tmp 4] := rfl
@[go_sem] theorem b66 : ir66.body = bd66 := rfl
def lb67_0 : C :=
 (.seq (.seq (.reg [⟨some 5, none, .mv (.s 3), .none⟩,
 ⟨some 6, none, .mv (.s 0), .none⟩,
 ⟨some 7, none, .lens (.s 6), .none⟩,
 ⟨some 8, none, .bin .lss (.s 5) (.s 7), .none⟩])
 (.cond (.s 8)
 .skip
 (.exit 0 (some []))))
 (.seq (.block 1 (.seq (.reg [⟨some 11, none, .mv (.s 0), .none⟩,
 ⟨some 12, none, .mv (.s 3), .none⟩,
 ⟨some 13, none, .sti (.s 11) (.s 12), .none⟩,
 ⟨some 4, none, .mv (.s 13), .none⟩])
 (.seq (.reg [⟨some 14, none, .mv (.s 4), .none⟩,
 ⟨some 15, none, .bin .neq (.s 14) (.c (.d (.int .u8 33))), .none⟩,
 ⟨some 16, none, .mv (.s 15), .none⟩,
 ⟨some 17, some (16, true), .mv (.s 4), .none⟩,
 ⟨some 18, some (16, true), .bin .lss (.s 17) (.c (.d (.int .u8 35))), .none⟩,
 ⟨some 19, some (16, true), .mv (.s 18), .none⟩,
 ⟨some 20, some (19, false), .mv (.s 4), .none⟩,
 ⟨some 21, some (19, false), .bin .eql (.s 20) (.c (.d (.int .u8 127))), .none⟩,
 ⟨some 22, some (16, true), .pick (.s 19) (.c (.d (.bool true))) (.s 21), .none⟩,
 ⟨some 23, none, .pick (.s 16) (.s 22) (.c (.d (.bool false))), .none⟩])
 (.cond (.s 23)
 (.seq (.reg [⟨some 2, none, .mv (.c (.d (.bool false))), .none⟩])
 (.ret (some [2])))
 .skip))))
 (.reg [⟨some 9, none, .mv (.s 3), .none⟩,
 ⟨some 10, none, .bin .add (.s 9) (.c (.d (.int .i64 1))), .none⟩,
 ⟨some 3, none, .mv (.s 10), .none⟩])))
def lp67_0 : C := lb67_0
theorem u67_0 (c : Ev.Callee) (l : Ev.Looper) (s : St) : evC c l lp67_0 s = evC c l lb67_0 s := rfl
abbrev st67_0 (m : Nat) (s0 s3 : AV) (h : Heap) : St := ⟨m,[s0,.unk,.unk,s3,.unk,.unk,.unk,.unk,.unk,.unk,.unk,.unk,.unk,.unk,.unk,.unk,.unk,.unk,.unk,.unk,.unk,.unk,.unk,.unk],h⟩
@[go_sem] theorem ks67_0 (a b c d e f g h i j k l m n o p q r s t u v w x : AV) : keepS [0,3] [a,b,c,d,e,f,g,h,i,j,k,l,m,n,o,p,q,r,s,t,u,v,w,x] 0 = [a,.unk,.unk,d,.unk,.unk,.unk,.unk,.unk,.unk,.unk,.unk,.unk,.unk,.unk,.unk,.unk,.unk,.unk,.unk,.unk,.unk,.unk,.unk] := rfl
@[go_sem] theorem ks67_1 (a b c d e f g h i j k l m n o p q r s t u v w x : AV) : keepS [] [a,b,c,d,e,f,g,h,i,j,k,l,m,n,o,p,q,r,s,t,u,v,w,x] 0 = [.unk,.unk,.unk,.unk,.unk,.unk,.unk,.unk,.unk,.unk,.unk,.unk,.unk,.unk,.unk,.unk,.unk,.unk,.unk,.unk,.unk,.unk,.unk,.unk] := rfl
@[go_sem] theorem ks67_2 (a b c d e f g h i j k l m n o p q r s t u v w x : AV) : keepS [2] [a,b,c,d,e,f,g,h,i,j,k,l,m,n,o,p,q,r,s,t,u,v,w,x] 0 = [.unk,.unk,c,.unk,.unk,.unk,.unk,.unk,.unk,.unk,.unk,.unk,.unk,.unk,.unk,.unk,.unk,.unk,.unk,.unk,.unk,.unk,.unk,.unk] := rfl
/-- spence/spenceref04.Tag -/
def bd67 : C :=
 (.seq (.reg [⟨some 2, none, .mv (.c (.d (.bool false))), .none⟩])
 (.seq (.seq (.reg [⟨some 3, none, .mv (.c (.d (.int .i64 0))), .none⟩])
 (.block 0 (.loop [0, 3] lp67_0)))
 (.seq (.reg [⟨some 2, none, .mv (.c (.d (.bool true))), .none⟩])
 (.ret none))))
def ir67 : F := { n := 24, res := [.tmp 2], body := bd67 }
@[go_sem] theorem n67 : ir67.n = 24 := rfl
@[go_sem] theorem r67 : ir67.res = [.tmp 2] := rfl
@[go_sem] theorem b67 : ir67.body = bd67 := rfl
def lb69_0 : C :=
 (.seq (.reg [⟨some 11, none, .bin .lss (.s 10) (.s 9), .none⟩])
 (.seq (.cond (.s 11)
 .skip
 (.exit 0 (some [3])))
 (.seq (.block 1 (.seq (.reg [⟨some 12, none, .mv (.s 10), .none⟩,
 ⟨some 13, none, .is (.s 8) (.s 10) 1, .none⟩,
 ⟨some 14, none, .ld (.s 13) 1 false, .none⟩,
 ⟨some 4, none, .mv (.s 12), .none⟩,
 ⟨some 5, none, .mv (.s 14), .none⟩])
 (.seq (.reg [⟨some 15, none, .mv (.s 5), .none⟩,
 ⟨some 16, none, .bin .geq (.s 15) (.c (.d (.int .u8 65))), .none⟩,
 ⟨some 17, none, .mv (.s 16), .none⟩,
 ⟨some 18, some (17, true), .mv (.s 5), .none⟩,
 ⟨some 19, some (17, true), .bin .leq (.s 18) (.c (.d (.int .u8 90))), .none⟩,
 ⟨some 20, none, .pick (.s 17) (.s 19) (.c (.d (.bool false))), .none⟩])
 (.cond (.s 20)
 (.reg [⟨some 21, none, .mv (.s 3), .none⟩,
 ⟨some 22, none, .mv (.s 4), .none⟩,
 ⟨some 23, none, .mv (.s 5), .none⟩,
 ⟨some 24, none, .bin .sub (.s 23) (.c (.d (.int .u8 65))), .none⟩,
 ⟨some 25, none, .bin .add (.s 24) (.c (.d (.int .u8 97))), .none⟩,
 ⟨some 26, none, .is (.s 21) (.s 22) 1, .none⟩,
 ⟨none, none, .st (.s 26) (.s 25) 1, .none⟩])
 .skip))))
 (.reg [⟨some 27, none, .bin .add (.s 10) (.c (.d (.int .i64 1))), .none⟩,
 ⟨some 10, none, .mv (.s 27), .none⟩]))))
def lp69_0 : C := lb69_0
theorem u69_0 (c : Ev.Callee) (l : Ev.Looper) (s : St) : evC c l lp69_0 s = evC c l lb69_0 s := rfl
abbrev st69_0 (m : Nat) (s3 s8 s9 s10 : AV) (h : Heap) : St := ⟨m,[.unk,.unk,.unk,s3,.unk,.unk,.unk,.unk,s8,s9,s10,.unk,.unk,.unk,.unk,.unk,.unk,.unk,.unk,.unk,.unk,.unk,.unk,.unk,.unk,.unk,.unk,.unk,.unk,.unk],h⟩
@[go_sem] theorem ks69_0 (a b c d e f g h i j k l m n o p q r s t u v w x y z a0 a1 a2 a3 : AV) : keepS [3,8,9,10] [a,b,c,d,e,f,g,h,i,j,k,l,m,n,o,p,q,r,s,t,u,v,w,x,y,z,a0,a1,a2,a3] 0 = [.unk,.unk,.unk,d,.unk,.unk,.unk,.unk,i,j,k,.unk,.unk,.unk,.unk,.unk,.unk,.unk,.unk,.unk,.unk,.unk,.unk,.unk,.unk,.unk,.unk,.unk,.unk,.unk] := rfl
@[go_sem] theorem ks69_1 (a b c d e f g h i j k l m n o p q r s t u v w x y z a0 a1 a2 a3 : AV) : keepS [3] [a,b,c,d,e,f,g,h,i,j,k,l,m,n,o,p,q,r,s,t,u,v,w,x,y,z,a0,a1,a2,a3] 0 = [.unk,.unk,.unk,d,.unk,.unk,.unk,.unk,.unk,.unk,.unk,.unk,.unk,.unk,.unk,.unk,.unk,.unk,.unk,.unk,.unk,.unk,.unk,.unk,.unk,.unk,.unk,.unk,.unk,.unk] := rfl
/-- spence/text.Lower -/
def bd69 : C :=
 (.seq (.reg [⟨some 2, none, .mv (.c (.d (.str []))), .none⟩])
 (.seq (.reg [⟨some 6, none, .mv (.s 0), .none⟩,
 ⟨some 7, none, .s2b 5 (.s 6), .none⟩,
 ⟨some 3, none, .mv (.s 7), .none⟩])
 (.seq (.seq (.reg [⟨some 8, none, .mv (.s 3), .none⟩,
 ⟨some 9, none, .len (.s 8), .none⟩,
 ⟨some 10, none, .mv (.c (.d (.int .i64 0))), .none⟩])
 (.block 0 (.loop [3, 8, 9, 10] lp69_0)))
 (.seq (.reg [⟨some 28, none, .mv (.s 3), .none⟩,
 ⟨some 29, none, .b2s (.s 28), .none⟩,
 ⟨some 2, none, .mv (.s 29), .none⟩])
 (.ret none)))))
def ir69 : F := { n := 30, res := [.tmp 2], body := bd69 }
@[go_sem] theorem n69 : ir69.n = 30 := rfl
@[go_sem] theorem r69 : ir69.res = [.tmp 2] := rfl
@[go_sem] theorem b69 : ir69.body = bd69 := rfl
/-- spence/spec.single -/
def bd70 : C :=
 (.seq (.reg [⟨some 4, none, .alloc 61 [.int .i64 0, .int .i64 0, .int .i64 0], .none⟩,
 ⟨some 5, none, .mv (.c (.d (.int .i64 0))), .none⟩])
 (.seq (.reg [⟨some 9, none, .mv (.s 1), .none⟩,
 ⟨some 10, none, .call 87 [.s 9] 2, .none⟩,
 ⟨some 8, none, .mv (.s 10), .none⟩,
 ⟨some 11, none, .ext (.s 8) 0, .none⟩,
 ⟨some 12, none, .ext (.s 8) 1, .none⟩,
 ⟨some 6, none, .mv (.s 11), .none⟩,
 ⟨some 7, none, .mv (.s 12), .none⟩])
 (.seq (.seq (.reg [⟨some 13, none, .mv (.s 7), .none⟩,
 ⟨some 14, none, .bin .neq (.s 13) (.c (.d (.int .i64 0))), .none⟩])
 (.cond (.s 14)
 (.seq (.reg [⟨some 15, none, .build [.int .i64 0, .int .i64 0, .int .i64 0] [], .none⟩,
 ⟨some 16, none, .mv (.s 7), .none⟩,
 ⟨none, none, .st (.s 4) (.s 15) 3, .none⟩,
 ⟨some 5, none, .mv (.s 16), .none⟩])
 (.ret none))
 .skip))
 (.seq (.reg [⟨some 17, none, .mv (.s 0), .none⟩,
 ⟨some 18, none, .mv (.s 6), .none⟩,
 ⟨some 19, none, .build [.int .i64 0, .int .i64 0, .int .i64 0] [(0, (1, .s 17)), (1, (1, .s 18))], .none⟩,
 ⟨none, none, .st (.s 4) (.s 19) 3, .none⟩,
 ⟨some 5, none, .mv (.c (.d (.int .i64 0))), .none⟩])
 (.ret none)))))
def ir70 : F := { n := 20, res := [.cell 4 3 true, .tmp 5], body := bd70 }
@[go_sem] theorem n70 : ir70.n = 20 := rfl
@[go_sem] theorem r70 : ir70.res = [.cell 4 3 true, .tmp 5] := rfl
@[go_sem] theorem b70 : ir70.body = bd70 := rfl
/-- spence/spec.both -/
def bd71 : C :=
 (.seq (.reg [⟨some 4, none, .alloc 61 [.int .i64 0, .int .i64 0, .int .i64 0], .none⟩,
 ⟨some 5, none, .mv (.c (.d (.int .i64 0))), .none⟩])
 (.seq (.reg [⟨some 12, none, .mv (.s 0), .none⟩,
 ⟨some 13, none, .call 87 [.s 12] 2, .none⟩,
 ⟨some 11, none, .mv (.s 13), .none⟩,
 ⟨some 14, none, .ext (.s 11) 0, .none⟩,
 ⟨some 15, none, .ext (.s 11) 1, .none⟩,
 ⟨some 6, none, .mv (.s 14), .none⟩,
 ⟨some 7, none, .mv (.s 15), .none⟩])
 (.seq (.reg [⟨some 17, none, .mv (.s 1), .none⟩,
 ⟨some 18, none, .call 87 [.s 17] 2, .none⟩,
 ⟨some 16, none, .mv (.s 18), .none⟩,
 ⟨some 19, none, .ext (.s 16) 0, .none⟩,
 ⟨some 20, none, .ext (.s 16) 1, .none⟩,
 ⟨some 8, none, .mv (.s 19), .none⟩,
 ⟨some 9, none, .mv (.s 20), .none⟩])
 (.seq (.reg [⟨some 21, none, .mv (.s 6), .none⟩,
 ⟨some 22, none, .mv (.s 8), .none⟩,
 ⟨some 23, none, .build [.int .i64 0, .int .i64 0, .int .i64 0] [(0, (1, .c (.d (.int .i64 2)))), (1, (1, .s 21)), (2, (1, .s 22))], .none⟩,
 ⟨some 10, none, .alloc 61 [.int .i64 0, .int .i64 0, .int .i64 0], .none⟩,
 ⟨none, none, .st (.s 10) (.s 23) 3, .none⟩])
 (.seq (.seq (.reg [⟨some 24, none, .mv (.s 7), .none⟩,
 ⟨some 25, none, .mv (.s 9), .none⟩,
 ⟨some 26, none, .call 54 [.s 24, .s 25] 2, .none⟩,
 ⟨some 7, none, .mv (.s 26), .none⟩])
 (.seq (.reg [⟨some 27, none, .mv (.s 7), .none⟩,
 ⟨some 28, none, .bin .neq (.s 27) (.c (.d (.int .i64 0))), .none⟩])
 (.cond (.s 28)
 (.seq (.reg [⟨some 29, none, .build [.int .i64 0, .int .i64 0, .int .i64 0] [], .none⟩,
 ⟨some 30, none, .mv (.s 7), .none⟩,
 ⟨some 31, none, .mv (.s 0), .none⟩,
 ⟨some 32, none, .mv (.s 1), .none⟩,
 ⟨some 33, none, .call 88 [.s 30, .s 31, .s 32] 2, .none⟩,
 ⟨none, none, .st (.s 4) (.s 29) 3, .none⟩,
 ⟨some 5, none, .mv (.s 33), .none⟩])
 (.ret none))
 .skip)))
 (.seq (.seq (.reg [⟨some 34, none, .mv (.s 8), .none⟩,
 ⟨some 35, none, .mv (.s 6), .none⟩,
 ⟨some 36, none, .bin .lss (.s 34) (.s 35), .none⟩])
 (.cond (.s 36)
 (.seq (.reg [⟨some 37, none, .build [.int .i64 0, .int .i64 0, .int .i64 0] [], .none⟩,
 ⟨none, none, .st (.s 4) (.s 37) 3, .none⟩,
 ⟨some 5, none, .mv (.c (.d (.int .i64 3))), .none⟩])
 (.ret none))
 .skip))
 (.seq (.reg [⟨some 38, none, .ld (.s 10) 3 true, .none⟩,
 ⟨none, none, .st (.s 4) (.s 38) 3, .none⟩,
 ⟨some 5, none, .mv (.c (.d (.int .i64 0))), .none⟩])
 (.ret none))))))))
def ir71 : F := { n := 39, res := [.cell 4 3 true, .tmp 5], body := bd71 }
@[go_sem] theorem n71 : ir71.n = 39 := rfl
@[go_sem] theorem r71 : ir71.res = [.cell 4 3 true, .tmp 5] := rfl
@[go_sem] theorem b71 : ir71.body = bd71 := rfl
/-- internal/stringslite.CutPrefix -/
def bd72 : C :=
 (.seq (.reg [⟨some 4, none, .mv (.c (.d (.str []))), .none⟩,
 ⟨some 5, none, .mv (.c (.d (.bool false))), .none⟩])
 (.seq (.seq (.reg [⟨some 6, none, .mv (.s 0), .none⟩,
 ⟨some 7, none, .mv (.s 1), .none⟩,
 ⟨some 8, none, .call 89 [.s 6, .s 7] 2, .none⟩,
 ⟨some 9, none, .un .not (.s 8), .none⟩])
 (.cond (.s 9)
 (.seq (.reg [⟨some 10, none, .mv (.s 0), .none⟩,
 ⟨some 4, none, .mv (.s 10), .none⟩,
 ⟨some 5, none, .mv (.c (.d (.bool false))), .none⟩])
 (.ret none))
 .skip))
 (.seq (.reg [⟨some 11, none, .mv (.s 0), .none⟩,
 ⟨some 12, none, .mv (.s 1), .none⟩,
 ⟨some 13, none, .lens (.s 12), .none⟩,
 ⟨some 14, none, .ssl (.s 11) (some (.s 13)) none, .none⟩,
 ⟨some 4, none, .mv (.s 14), .none⟩,
 ⟨some 5, none, .mv (.c (.d (.bool true))), .none⟩])
 (.ret none))))
def ir72 : F := { n := 15, res := [.tmp 4, .tmp 5], body := bd72 }
@[go_sem] theorem n72 : ir72.n = 15 := rfl
@[go_sem] theorem r72 : ir72.res = [.tmp 4, .tmp 5] := rfl
@[go_sem] theorem b72 : ir72.body = bd72 := rfl
/-- spence/etag.may -/
def bd73 : C :=
 (.seq (.reg [⟨some 2, none, .mv (.c (.d (.bool false))), .none⟩])
 (.seq (.block 0 (.seq (.block 3 (.seq (.block 2 (.block 1 (.seq (.seq (.seq (.reg [⟨some 4, none, .mv (.s 0), .none⟩,
 ⟨some 5, none, .bin .geq (.s 4) (.c (.d (.int .u8 128))), .none⟩,
 ⟨some 3, none, .mv (.s 5), .none⟩])
 (.cond (.s 3)
 (.exit 1 none)
 .skip))
 (.seq (.seq (.reg [⟨some 7, none, .mv (.s 0), .none⟩,
 ⟨some 8, none, .bin .eql (.s 7) (.c (.d (.int .u8 33))), .none⟩,
 ⟨some 6, none, .mv (.s 8), .none⟩])
 (.cond (.s 6)
 (.exit 2 none)
 .skip))
 (.seq (.reg [⟨some 10, none, .mv (.s 0), .none⟩,
 ⟨some 11, none, .bin .eql (.s 10) (.c (.d (.int .u8 127))), .none⟩,
 ⟨some 9, none, .mv (.s 11), .none⟩])
 (.cond (.s 9)
 (.exit 3 none)
 .skip))))
 (.exit 0 none))))
 (.seq (.seq (.reg [⟨some 2, none, .mv (.c (.d (.bool true))), .none⟩])
 (.ret none))
 (.exit 0 none))))
 (.seq (.seq (.reg [⟨some 2, none, .mv (.c (.d (.bool false))), .none⟩])
 (.ret none))
 (.exit 0 none))))
 (.seq (.reg [⟨some 12, none, .mv (.s 0), .none⟩,
 ⟨some 13, none, .bin .geq (.s 12) (.c (.d (.int .u8 35))), .none⟩,
 ⟨some 2, none, .mv (.s 13), .none⟩])
 (.ret none))))
def ir73 : F := { n := 14, res := [.tmp 2], body := bd73 }
@[go_sem] theorem n73 : ir73.n = 14 := rfl
@[go_sem] theorem r73 : ir73.res = [.tmp 2] := rfl
@[go_sem] theorem b73 : ir73.body = bd73 := rfl
/-- spence/spenceref01.Digit -/
def bd84 : C :=
 (.seq (.reg [⟨some 2, none, .mv (.c (.d (.bool false))), .none⟩])
 (.seq (.reg [⟨some 3, none, .mv (.s 0), .none⟩,
 ⟨some 4, none, .bin .geq (.s 3) (.c (.d (.int .u8 48))), .none⟩,
 ⟨some 5, none, .mv (.s 4), .none⟩,
 ⟨some 6, some (5, true), .mv (.s 0), .none⟩,
 ⟨some 7, some (5, true), .bin .leq (.s 6) (.c (.d (.int .u8 57))), .none⟩,
 ⟨some 8, none, .pick (.s 5) (.s 7) (.c (.d (.bool false))), .none⟩,
 ⟨some 2, none, .mv (.s 8), .none⟩])
 (.ret none)))
def ir84 : F := { n := 9, res := [.tmp 2], body := bd84 }
@[go_sem] theorem n84 : ir84.n = 9 := rfl
@[go_sem] theorem r84 : ir84.res = [.tmp 2] := rfl
@[go_sem] theorem b84 : ir84.body = bd84 := rfl
def lb85_0 : C :=
 (.seq (.seq (.reg [⟨some 3, none, .mv (.s 0), .none⟩,
 ⟨some 4, none, .lens (.s 3), .none⟩,
 ⟨some 5, none, .bin .gtr (.s 4) (.c (.d (.int .i64 0))), .none⟩,
 ⟨some 6, none, .mv (.s 5), .none⟩,
 ⟨some 7, some (6, true), .mv (.s 0), .none⟩,
 ⟨some 8, some (6, true), .sti (.s 7) (.c (.d (.int .i64 0))), .none⟩,
 ⟨some 9, some (6, true), .bin .eql (.s 8) (.c (.d (.int .u8 48))), .none⟩,
 ⟨some 10, none, .pick (.s 6) (.s 9) (.c (.d (.bool false))), .none⟩])
 (.cond (.s 10)
 .skip
 (.exit 0 (some [0]))))
 (.block 1 (.reg [⟨some 11, none, .mv (.s 0), .none⟩,
 ⟨some 12, none, .ssl (.s 11) (some (.c (.d (.int .i64 1)))) none, .none⟩,
 ⟨some 0, none, .mv (.s 12), .none⟩])))
def lp85_0 : C := lb85_0
theorem u85_0 (c : Ev.Callee) (l : Ev.Looper) (s : St) : evC c l lp85_0 s = evC c l lb85_0 s := rfl
abbrev st85_0 (m : Nat) (s0 : AV) (h : Heap) : St := ⟨m,[s0,.unk,.unk,.unk,.unk,.unk,.unk,.unk,.unk,.unk,.unk,.unk,.unk,.unk],h⟩
@[go_sem] theorem ks85_0 (a b c d e f g h i j k l m n : AV) : keepS [0] [a,b,c,d,e,f,g,h,i,j,k,l,m,n] 0 = [a,.unk,.unk,.unk,.unk,.unk,.unk,.unk,.unk,.unk,.unk,.unk,.unk,.unk] := rfl
/-- spence/spenceref04.bare -/
def bd85 : C :=
 (.seq (.reg [⟨some 2, none, .mv (.c (.d (.str []))), .none⟩])
 (.seq (.block 0 (.loop [0] lp85_0))
 (.seq (.reg [⟨some 13, none, .mv (.s 0), .none⟩,
 ⟨some 2, none, .mv (.s 13), .none⟩])
 (.ret none))))
def ir85 : F := { n := 14, res := [.tmp 2], body := bd85 }
@[go_sem] theorem n85 : ir85.n = 14 := rfl
@[go_sem] theorem r85 : ir85.res = [.tmp 2] := rfl
@[go_sem] theorem b85 : ir85.body = bd85 := rfl
def lb87_0 : C :=
 (.seq (.reg [⟨some 12, none, .bin .lss (.s 11) (.s 10), .none⟩])
 (.seq (.cond (.s 12)
 .skip
 (.exit 0 (some [0, 4, 5])))
 (.seq (.block 1 (.seq (.reg [⟨some 13, none, .mv (.s 11), .none⟩,
 ⟨some 6, none, .mv (.s 13), .none⟩])
 (.seq (.reg [⟨some 15, none, .mv (.s 0), .none⟩,
 ⟨some 16, none, .mv (.s 6), .none⟩,
 ⟨some 17, none, .sti (.s 15) (.s 16), .none⟩,
 ⟨some 18, none, .call 96 [.s 17] 2, .none⟩,
 ⟨some 14, none, .mv (.s 18), .none⟩,
 ⟨some 19, none, .ext (.s 14) 0, .none⟩,
 ⟨some 20, none, .ext (.s 14) 1, .none⟩,
 ⟨some 7, none, .mv (.s 19), .none⟩,
 ⟨some 8, none, .mv (.s 20), .none⟩])
 (.seq (.block 2 (.seq (.reg [⟨some 22, none, .mv (.s 8), .none⟩,
 ⟨some 23, none, .un .not (.s 22), .none⟩,
 ⟨some 21, none, .mv (.s 23), .none⟩])
 (.cond (.s 21)
 (.seq (.reg [⟨some 2, none, .mv (.c (.d (.int .i64 0))), .none⟩,
 ⟨some 3, none, .mv (.c (.d (.int .i64 3))), .none⟩])
 (.ret (some [2, 3])))
 (.seq (.reg [⟨some 25, none, .mv (.s 5), .none⟩,
 ⟨some 24, none, .mv (.s 25), .none⟩])
 (.cond (.s 24)
 (.exit 1 none)
 .skip)))))
 (.seq (.seq (.reg [⟨some 26, none, .mv (.s 4), .none⟩,
 ⟨some 27, none, .mv (.s 7), .none⟩,
 ⟨some 28, none, .bin .sub (.c (.d (.int .i64 4611686018427387903))) (.s 27), .none⟩,
 ⟨some 29, none, .bin .quo (.s 28) (.c (.d (.int .i64 10))), .none⟩,
 ⟨some 30, none, .bin .gtr (.s 26) (.s 29), .none⟩])
 (.cond (.s 30)
 (.seq (.reg [⟨some 5, none, .mv (.c (.d (.bool true))), .none⟩])
 (.exit 1 none))
 .skip))
 (.reg [⟨some 31, none, .mv (.s 4), .none⟩,
 ⟨some 32, none, .bin .mul (.c (.d (.int .i64 10))) (.s 31), .none⟩,
 ⟨some 33, none, .mv (.s 7), .none⟩,
 ⟨some 34, none, .bin .add (.s 32) (.s 33), .none⟩,
 ⟨some 4, none, .mv (.s 34), .none⟩]))))))
 (.reg [⟨some 35, none, .bin .add (.s 11) (.c (.d (.int .i64 1))), .none⟩,
 ⟨some 11, none, .mv (.s 35), .none⟩]))))
def lp87_0 : C := lb87_0
theorem u87_0 (c : Ev.Callee) (l : Ev.Looper) (s : St) : evC c l lp87_0 s = evC c l lb87_0 s := rfl
abbrev st87_0 (m : Nat) (s0 s4 s5 s10 s11 : AV) (h : Heap) : St := ⟨m,[s0,.unk,.unk,.unk,s4,s5,.unk,.unk,.unk,.unk,s10,s11,.unk,.unk,.unk,.unk,.unk,.unk,.unk,.unk,.unk,.unk,.unk,.unk,.unk,.unk,.unk,.unk,.unk,.unk,.unk,.unk,.unk,.unk,.unk,.unk,.unk,.unk,.unk,.unk,.unk,.unk],h⟩
@[go_sem] theorem ks87_0 (a b c d e f g h i j k l m n o p q r s t u v w x y z a0 a1 a2 a3 a4 a5 a6 a7 a8 a9 b0 b1 b2 b3 b4 b5 : AV) : keepS [0,4,5,10,11] [a,b,c,d,e,f,g,h,i,j,k,l,m,n,o,p,q,r,s,t,u,v,w,x,y,z,a0,a1,a2,a3,a4,a5,a6,a7,a8,a9,b0,b1,b2,b3,b4,b5] 0 = [a,.unk,.unk,.unk,e,f,.unk,.unk,.unk,.unk,k,l,.unk,.unk,.unk,.unk,.unk,.unk,.unk,.unk,.unk,.unk,.unk,.unk,.unk,.unk,.unk,.unk,.unk,.unk,.unk,.unk,.unk,.unk,.unk,.unk,.unk,.unk,.unk,.unk,.unk,.unk] := rfl
@[go_sem] theorem ks87_1 (a b c d e f g h i j k l m n o p q r s t u v w x y z a0 a1 a2 a3 a4 a5 a6 a7 a8 a9 b0 b1 b2 b3 b4 b5 : AV) : keepS [0,4,5] [a,b,c,d,e,f,g,h,i,j,k,l,m,n,o,p,q,r,s,t,u,v,w,x,y,z,a0,a1,a2,a3,a4,a5,a6,a7,a8,a9,b0,b1,b2,b3,b4,b5] 0 = [a,.unk,.unk,.unk,e,f,.unk,.unk,.unk,.unk,.unk,.unk,.unk,.unk,.unk,.unk,.unk,.unk,.unk,.unk,.unk,.unk,.unk,.unk,.unk,.unk,.unk,.unk,.unk,.unk,.unk,.unk,.unk,.unk,.unk,.unk,.unk,.unk,.unk,.unk,.unk,.unk] := rfl
@[go_sem] theorem ks87_2 (a b c d e f g h i j k l m n o p q r s t u v w x y z a0 a1 a2 a3 a4 a5 a6 a7 a8 a9 b0 b1 b2 b3 b4 b5 : AV) : keepS [2,3] [a,b,c,d,e,f,g,h,i,j,k,l,m,n,o,p,q,r,s,t,u,v,w,x,y,z,a0,a1,a2,a3,a4,a5,a6,a7,a8,a9,b0,b1,b2,b3,b4,b5] 0 = [.unk,.unk,c,d,.unk,.unk,.unk,.unk,.unk,.unk,.unk,.unk,.unk,.unk,.unk,.unk,.unk,.unk,.unk,.unk,.unk,.unk,.unk,.unk,.unk,.unk,.unk,.unk,.unk,.unk,.unk,.unk,.unk,.unk,.unk,.unk,.unk,.unk,.unk,.unk,.unk,.unk] := rfl
/-- spence/nums.Parse -/
def bd87 : C :=
 (.seq (.reg [⟨some 2, none, .mv (.c (.d (.int .i64 0))), .none⟩,
 ⟨some 3, none, .mv (.c (.d (.int .i64 0))), .none⟩])
 (.scp (.seq (.reg [⟨some 4, none, .mv (.c (.d (.int .i64 0))), .none⟩,
 ⟨some 5, none, .mv (.c (.d (.bool false))), .none⟩])
 (.seq .skip
 (.seq (.seq (.reg [⟨some 9, none, .mv (.s 0), .none⟩,
 ⟨some 10, none, .lens (.s 9), .none⟩,
 ⟨some 11, none, .mv (.c (.d (.int .i64 0))), .none⟩])
 (.block 0 (.loop [0, 4, 5, 10, 11] lp87_0)))
 (.seq (.block 3 (.seq (.reg [⟨some 37, none, .mv (.s 0), .none⟩,
 ⟨some 38, none, .bin .eql (.s 37) (.c (.d (.str []))), .none⟩,
 ⟨some 36, none, .mv (.s 38), .none⟩])
 (.cond (.s 36)
 (.seq (.reg [⟨some 2, none, .mv (.c (.d (.int .i64 0))), .none⟩,
 ⟨some 3, none, .mv (.c (.d (.int .i64 3))), .none⟩])
 (.ret none))
 (.seq (.reg [⟨some 40, none, .mv (.s 5), .none⟩,
 ⟨some 39, none, .mv (.s 40), .none⟩])
 (.cond (.s 39)
 (.seq (.reg [⟨some 2, none, .mv (.c (.d (.int .i64 0))), .none⟩,
 ⟨some 3, none, .mv (.c (.d (.int .i64 9))), .none⟩])
 (.ret none))
 .skip)))))
 (.seq (.reg [⟨some 41, none, .mv (.s 4), .none⟩,
 ⟨some 2, none, .mv (.s 41), .none⟩,
 ⟨some 3, none, .mv (.c (.d (.int .i64 0))), .none⟩])
 (.ret none))))))))
def ir87 : F := { n := 42, res := [.tmp 2, .tmp 3], body := bd87 }
@[go_sem] theorem n87 : ir87.n = 42 := rfl
@[go_sem] theorem r87 : ir87.res = [.tmp 2, .tmp 3] := rfl
@[go_sem] theorem b87 : ir87.body = bd87 := rfl
/-- spence/spec.late -/
def bd88 : C :=
 (.seq (.reg [⟨some 6, none, .mv (.c (.d (.int .i64 0))), .none⟩])
 (.seq (.reg [⟨some 7, none, .mv (.s 1), .none⟩,
 ⟨some 8, none, .call 97 [.s 7] 2, .none⟩,
 ⟨some 9, none, .mv (.s 2), .none⟩,
 ⟨some 10, none, .call 97 [.s 9] 2, .none⟩,
 ⟨some 1, none, .mv (.s 8), .none⟩,
 ⟨some 2, none, .mv (.s 10), .none⟩])
 (.seq (.seq (.reg [⟨some 11, none, .mv (.s 0), .none⟩,
 ⟨some 12, none, .bin .eql (.s 11) (.c (.d (.int .i64 9))), .none⟩,
 ⟨some 13, none, .mv (.s 12), .none⟩,
 ⟨some 14, some (13, true), .mv (.s 2), .none⟩,
 ⟨some 15, some (13, true), .lens (.s 14), .none⟩,
 ⟨some 16, some (13, true), .mv (.s 1), .none⟩,
 ⟨some 17, some (13, true), .lens (.s 16), .none⟩,
 ⟨some 18, some (13, true), .bin .lss (.s 15) (.s 17), .none⟩,
 ⟨some 19, some (13, true), .mv (.s 18), .none⟩,
 ⟨some 20, some (19, false), .mv (.s 2), .none⟩,
 ⟨some 21, some (19, false), .lens (.s 20), .none⟩,
 ⟨some 22, some (19, false), .mv (.s 1), .none⟩,
 ⟨some 23, some (19, false), .lens (.s 22), .none⟩,
 ⟨some 24, some (19, false), .bin .eql (.s 21) (.s 23), .none⟩,
 ⟨some 25, some (19, false), .mv (.s 24), .none⟩,
 ⟨some 26, some (25, true), .mv (.s 2), .none⟩,
 ⟨some 27, some (25, true), .mv (.s 1), .none⟩,
 ⟨some 28, some (25, true), .bin .lss (.s 26) (.s 27), .none⟩,
 ⟨some 29, some (19, false), .pick (.s 25) (.s 28) (.c (.d (.bool false))), .none⟩,
 ⟨some 30, some (13, true), .pick (.s 19) (.c (.d (.bool true))) (.s 29), .none⟩,
 ⟨some 31, none, .pick (.s 13) (.s 30) (.c (.d (.bool false))), .none⟩])
 (.cond (.s 31)
 (.seq (.reg [⟨some 6, none, .mv (.c (.d (.int .i64 3))), .none⟩])
 (.ret none))
 .skip))
 (.seq (.reg [⟨some 32, none, .mv (.s 0), .none⟩,
 ⟨some 6, none, .mv (.s 32), .none⟩])
 (.ret none)))))
def ir88 : F := { n := 33, res := [.tmp 6], body := bd88 }
@[go_sem] theorem n88 : ir88.n = 33 := rfl
@[go_sem] theorem r88 : ir88.res = [.tmp 6] := rfl
@[go_sem] theorem b88 : ir88.body = bd88 := rfl
/-- internal/stringslite.HasPrefix -/
def bd89 : C :=
 (.seq (.reg [⟨some 4, none, .mv (.c (.d (.bool false))), .none⟩])
 (.seq (.reg [⟨some 5, none, .mv (.s 0), .none⟩,
 ⟨some 6, none, .lens (.s 5), .none⟩,
 ⟨some 7, none, .mv (.s 1), .none⟩,
 ⟨some 8, none, .lens (.s 7), .none⟩,
 ⟨some 9, none, .bin .geq (.s 6) (.s 8), .none⟩,
 ⟨some 10, none, .mv (.s 9), .none⟩,
 ⟨some 11, some (10, true), .mv (.s 0), .none⟩,
 ⟨some 12, some (10, true), .mv (.s 1), .none⟩,
 ⟨some 13, some (10, true), .lens (.s 12), .none⟩,
 ⟨some 14, some (10, true), .ssl (.s 11) none (some (.s 13)), .none⟩,
 ⟨some 15, some (10, true), .mv (.s 1), .none⟩,
 ⟨some 16, some (10, true), .bin .eql (.s 14) (.s 15), .none⟩,
 ⟨some 17, none, .pick (.s 10) (.s 16) (.c (.d (.bool false))), .none⟩,
 ⟨some 4, none, .mv (.s 17), .none⟩])
 (.ret none)))
def ir89 : F := { n := 18, res := [.tmp 4], body := bd89 }
@[go_sem] theorem n89 : ir89.n = 18 := rfl
@[go_sem] theorem r89 : ir89.res = [.tmp 4] := rfl
@[go_sem] theorem b89 : ir89.body = bd89 := rfl
/-- spence/nums.digit -/
def bd96 : C :=
 (.seq (.reg [⟨some 2, none, .mv (.c (.d (.int .i64 0))), .none⟩,
 ⟨some 3, none, .mv (.c (.d (.bool false))), .none⟩])
 (.seq (.seq (.reg [⟨some 4, none, .mv (.s 0), .none⟩,
 ⟨some 5, none, .bin .lss (.s 4) (.c (.d (.int .u8 48))), .none⟩,
 ⟨some 6, none, .mv (.s 5), .none⟩,
 ⟨some 7, some (6, false), .mv (.s 0), .none⟩,
 ⟨some 8, some (6, false), .bin .gtr (.s 7) (.c (.d (.int .u8 57))), .none⟩,
 ⟨some 9, none, .pick (.s 6) (.c (.d (.bool true))) (.s 8), .none⟩])
 (.cond (.s 9)
 (.seq (.reg [⟨some 2, none, .mv (.c (.d (.int .i64 0))), .none⟩,
 ⟨some 3, none, .mv (.c (.d (.bool false))), .none⟩])
 (.ret none))
 .skip))
 (.seq (.reg [⟨some 10, none, .mv (.s 0), .none⟩,
 ⟨some 11, none, .bin .sub (.s 10) (.c (.d (.int .u8 48))), .none⟩,
 ⟨some 12, none, .cvi .i64 (.s 11), .none⟩,
 ⟨some 2, none, .mv (.s 12), .none⟩,
 ⟨some 3, none, .mv (.c (.d (.bool true))), .none⟩])
 (.ret none))))
def ir96 : F := { n := 13, res := [.tmp 2, .tmp 3], body := bd96 }
@[go_sem] theorem n96 : ir96.n = 13 := rfl
@[go_sem] theorem r96 : ir96.res = [.tmp 2, .tmp 3] := rfl
@[go_sem] theorem b96 : ir96.body = bd96 := rfl
/-- spence/spec.bare -/
def bd97 : C :=
 (.seq (.reg [⟨some 2, none, .mv (.c (.d (.str []))), .none⟩])
 (.seq (.reg [⟨some 3, none, .mv (.s 0), .none⟩,
 ⟨some 4, none, .call 99 [.s 3, .c (.d (.str [48]))] 2, .none⟩,
 ⟨some 2, none, .mv (.s 4), .none⟩])
 (.ret none)))
def ir97 : F := { n := 5, res := [.tmp 2], body := bd97 }
@[go_sem] theorem n97 : ir97.n = 5 := rfl
@[go_sem] theorem r97 : ir97.res = [.tmp 2] := rfl
@[go_sem] theorem b97 : ir97.body = bd97 := rfl
/-- strings.TrimLeft -/
def bd99 : C :=
 (.seq (.reg [⟨some 4, none, .mv (.c (.d (.str []))), .none⟩])
 (.seq (.seq (.reg [⟨some 7, none, .mv (.s 0), .none⟩,
 ⟨some 8, none, .bin .eql (.s 7) (.c (.d (.str []))), .none⟩,
 ⟨some 9, none, .mv (.s 8), .none⟩,
 ⟨some 10, some (9, false), .mv (.s 1), .none⟩,
 ⟨some 11, some (9, false), .bin .eql (.s 10) (.c (.d (.str []))), .none⟩,
 ⟨some 12, none, .pick (.s 9) (.c (.d (.bool true))) (.s 11), .none⟩])
 (.cond (.s 12)
 (.seq (.reg [⟨some 13, none, .mv (.s 0), .none⟩,
 ⟨some 4, none, .mv (.s 13), .none⟩])
 (.ret none))
 .skip))
 (.seq (.seq (.reg [⟨some 14, none, .mv (.s 1), .none⟩,
 ⟨some 15, none, .lens (.s 14), .none⟩,
 ⟨some 16, none, .bin .eql (.s 15) (.c (.d (.int .i64 1))), .none⟩,
 ⟨some 17, none, .mv (.s 16), .none⟩,
 ⟨some 18, some (17, true), .mv (.s 1), .none⟩,
 ⟨some 19, some (17, true), .sti (.s 18) (.c (.d (.int .i64 0))), .none⟩,
 ⟨some 20, some (17, true), .bin .lss (.s 19) (.c (.d (.int .u8 128))), .none⟩,
 ⟨some 21, none, .pick (.s 17) (.s 20) (.c (.d (.bool false))), .none⟩])
 (.cond (.s 21)
 (.seq (.reg [⟨some 22, none, .mv (.s 0), .none⟩,
 ⟨some 23, none, .mv (.s 1), .none⟩,
 ⟨some 24, none, .sti (.s 23) (.c (.d (.int .i64 0))), .none⟩,
 ⟨some 25, none, .call 100 [.s 22, .s 24] 2, .none⟩,
 ⟨some 4, none, .mv (.s 25), .none⟩])
 (.ret none))
 .skip))
 (.seq (.seq (.reg [⟨some 27, none, .mv (.s 1), .none⟩,
 ⟨some 28, none, .call 101 [.s 27] 2, .none⟩,
 ⟨some 26, none, .mv (.s 28), .none⟩,
 ⟨some 29, none, .ext (.s 26) 0, .none⟩,
 ⟨some 30, none, .ext (.s 26) 1, .none⟩,
 ⟨some 5, none, .alloc 128 [.bool false, .bool false, .bool false, .bool false, .bool false, .bool false, .bool false, .bool false, .bool false, .bool false, .bool false, .bool false, .bool false, .bool false, .bool false, .bool false, .bool false, .bool false, .bool false, .bool false, .bool false, .bool false, .bool false, .bool false, .bool false, .bool false, .bool false, .bool false, .bool false, .bool false, .bool false, .bool false, .bool false, .bool false, .bool false, .bool false, .bool false, .bool false, .bool false, .bool false, .bool false, .bool false, .bool false, .bool false, .bool false, .bool false, .bool false, .bool false, .bool false, .bool false, .bool false, .bool false, .bool false, .bool false, .bool false, .bool false, .bool false, .bool false, .bool false, .bool false, .bool false, .bool false, .bool false, .bool false, .bool false, .bool false, .bool false, .bool false, .bool false, .bool false, .bool false, .bool false, .bool false, .bool false, .bool false, .bool false, .bool false, .bool false, .bool false, .bool false, .bool false, .bool false, .bool false, .bool false, .bool false, .bool false, .bool false, .bool false, .bool false, .bool false, .bool false, .bool false, .bool false, .bool false, .bool false, .bool false, .bool false, .bool false, .bool false, .bool false, .bool false, .bool false, .bool false, .bool false, .bool false, .bool false, .bool false, .bool false, .bool false, .bool false, .bool false, .bool false, .bool false, .bool false, .bool false, .bool false, .bool false, .bool false, .bool false, .bool false, .bool false, .bool false, .bool false, .bool false, .bool false, .bool false, .bool false, .bool false, .bool false, .bool false, .bool false, .bool false, .bool false, .bool false, .bool false, .bool false, .bool false, .bool false, .bool false, .bool false, .bool false, .bool false, .bool false, .bool false, .bool false, .bool false, .bool false, .bool false, .bool false, .bool false, .bool false, .bool false, .bool false, .bool false, .bool false, .bool false, .bool false, .bool false, .bool false, .bool false, .bool false, .bool false, .bool false, .bool false, .bool false, .bool false, .bool false, .bool false, .bool false, .bool false, .bool false, .bool false, .bool false, .bool false, .bool false, .bool false, .bool false, .bool false, .bool false, .bool false, .bool false, .bool false, .bool false, .bool false, .bool false, .bool false, .bool false, .bool false, .bool false, .bool false, .bool false, .bool false, .bool false, .bool false, .bool false, .bool false, .bool false, .bool false, .bool false, .bool false, .bool false, .bool false, .bool false, .bool false, .bool false, .bool false, .bool false, .bool false, .bool false, .bool false, .bool false, .bool false, .bool false, .bool false, .bool false, .bool false, .bool false, .bool false, .bool false, .bool false, .bool false, .bool false, .bool false, .bool false, .bool false, .bool false, .bool false, .bool false, .bool false, .bool false, .bool false, .bool false, .bool false, .bool false, .bool false, .bool false, .bool false, .bool false, .bool false, .bool false, .bool false, .bool false, .bool false, .bool false, .bool false, .bool false, .bool false, .bool false, .bool false, .bool false, .bool false, .bool false, .bool false, .bool false, .bool false, .bool false], .none⟩,
 ⟨none, none, .st (.s 5) (.s 29) 256, .none⟩,
 ⟨some 6, none, .mv (.s 30), .none⟩])
 (.seq (.reg [⟨some 31, none, .mv (.s 6), .none⟩])
 (.cond (.s 31)
 (.seq (.reg [⟨some 32, none, .mv (.s 0), .none⟩,
 ⟨some 33, none, .call 102 [.s 32, .s 5] 0, .none⟩,
 ⟨some 4, none, .mv (.s 33), .none⟩])
 (.ret none))
 .skip)))
 (.seq (.reg [⟨some 34, none, .mv (.s 0), .none⟩,
 ⟨some 35, none, .mv (.s 1), .none⟩,
 ⟨some 36, none, .call 103 [.s 34, .s 35] 2, .none⟩,
 ⟨some 4, none, .mv (.s 36), .none⟩])
 (.ret none))))))
def ir99 : F := { n := 37, res := [.tmp 4], body := bd99 }
@[go_sem] theorem n99 : ir99.n = 37 := rfl
@[go_sem] theorem r99 : ir99.res = [.tmp 4] := rfl
@[go_sem] theorem b99 : ir99.body = bd99 := rfl
def lb100_0 : C :=
 (.seq (.seq (.reg [⟨some 5, none, .mv (.s 0), .none⟩,
 ⟨some 6, none, .lens (.s 5), .none⟩,
 ⟨some 7, none, .bin .gtr (.s 6) (.c (.d (.int .i64 0))), .none⟩,
 ⟨some 8, none, .mv (.s 7), .none⟩,
 ⟨some 9, some (8, true), .mv (.s 0), .none⟩,
 ⟨some 10, some (8, true), .sti (.s 9) (.c (.d (.int .i64 0))), .none⟩,
 ⟨some 11, some (8, true), .mv (.s 1), .none⟩,
 ⟨some 12, some (8, true), .bin .eql (.s 10) (.s 11), .none⟩,
 ⟨some 13, none, .pick (.s 8) (.s 12) (.c (.d (.bool false))), .none⟩])
 (.cond (.s 13)
 .skip
 (.exit 0 (some [0]))))
 (.block 1 (.reg [⟨some 14, none, .mv (.s 0), .none⟩,
 ⟨some 15, none, .ssl (.s 14) (some (.c (.d (.int .i64 1)))) none, .none⟩,
 ⟨some 0, none, .mv (.s 15), .none⟩])))
def lp100_0 : C := lb100_0
theorem u100_0 (c : Ev.Callee) (l : Ev.Looper) (s : St) : evC c l lp100_0 s = evC c l lb100_0 s := rfl
abbrev st100_0 (m : Nat) (s0 s1 : AV) (h : Heap) : St := ⟨m,[s0,s1,.unk,.unk,.unk,.unk,.unk,.unk,.unk,.unk,.unk,.unk,.unk,.unk,.unk,.unk,.unk],h⟩
@[go_sem] theorem ks100_0 (a b c d e f g h i j k l m n o p q : AV) : keepS [0,1] [a,b,c,d,e,f,g,h,i,j,k,l,m,n,o,p,q] 0 = [a,b,.unk,.unk,.unk,.unk,.unk,.unk,.unk,.unk,.unk,.unk,.unk,.unk,.unk,.unk,.unk] := rfl
@[go_sem] theorem ks100_1 (a b c d e f g h i j k l m n o p q : AV) : keepS [0] [a,b,c,d,e,f,g,h,i,j,k,l,m,n,o,p,q] 0 = [a,.unk,.unk,.unk,.unk,.unk,.unk,.unk,.unk,.unk,.unk,.unk,.unk,.unk,.unk,.unk,.unk] := rfl
/-- strings.trimLeftByte -/
def bd100 : C :=
 (.seq (.reg [⟨some 4, none, .mv (.c (.d (.str []))), .none⟩])
 (.seq (.block 0 (.loop [0, 1] lp100_0))
 (.seq (.reg [⟨some 16, none, .mv (.s 0), .none⟩,
 ⟨some 4, none, .mv (.s 16), .none⟩])
 (.ret none))))
def ir100 : F := { n := 17, res := [.tmp 4], body := bd100 }
@[go_sem] theorem n100 : ir100.n = 17 := rfl
@[go_sem] theorem r100 : ir100.res = [.tmp 4] := rfl
@[go_sem] theorem b100 : ir100.body = bd100 := rfl
def lb101_0 : C :=
 (.seq (.seq (.reg [⟨some 6, none, .mv (.s 4), .none⟩,
 ⟨some 7, none, .mv (.s 0), .none⟩,
 ⟨some 8, none, .lens (.s 7), .none⟩,
 ⟨some 9, none, .bin .lss (.s 6) (.s 8), .none⟩])
 (.cond (.s 9)
 .skip
 (.exit 0 (some [2]))))
 (.seq (.block 1 (.seq (.reg [⟨some 12, none, .mv (.s 0), .none⟩,
 ⟨some 13, none, .mv (.s 4), .none⟩,
 ⟨some 14, none, .sti (.s 12) (.s 13), .none⟩,
 ⟨some 5, none, .mv (.s 14), .none⟩])
 (.seq (.seq (.reg [⟨some 15, none, .mv (.s 5), .none⟩,
 ⟨some 16, none, .bin .geq (.s 15) (.c (.d (.int .u8 128))), .none⟩])
 (.cond (.s 16)
 (.seq (.reg [⟨some 17, none, .ld (.s 2) 256 true, .none⟩,
 ⟨none, none, .st (.s 2) (.s 17) 256, .none⟩,
 ⟨some 3, none, .mv (.c (.d (.bool false))), .none⟩])
 (.ret (some [2, 3])))
 .skip))
 (.reg [⟨some 18, none, .mv (.s 5), .none⟩,
 ⟨some 19, none, .ia (.s 2) (.s 18) 256 1, .none⟩,
 ⟨none, none, .st (.s 19) (.c (.d (.bool true))) 1, .none⟩]))))
 (.reg [⟨some 10, none, .mv (.s 4), .none⟩,
 ⟨some 11, none, .bin .add (.s 10) (.c (.d (.int .i64 1))), .none⟩,
 ⟨some 4, none, .mv (.s 11), .none⟩])))
def lp101_0 : C := lb101_0
theorem u101_0 (c : Ev.Callee) (l : Ev.Looper) (s : St) : evC c l lp101_0 s = evC c l lb101_0 s := rfl
abbrev st101_0 (m : Nat) (s0 s2 s4 : AV) (h : Heap) : St := ⟨m,[s0,.unk,s2,.unk,s4,.unk,.unk,.unk,.unk,.unk,.unk,.unk,.unk,.unk,.unk,.unk,.unk,.unk,.unk,.unk,.unk],h⟩
@[go_sem] theorem ks101_0 (a b c d e f g h i j k l m n o p q r s t u : AV) : keepS [0,2,4] [a,b,c,d,e,f,g,h,i,j,k,l,m,n,o,p,q,r,s,t,u] 0 = [a,.unk,c,.unk,e,.unk,.unk,.unk,.unk,.unk,.unk,.unk,.unk,.unk,.unk,.unk,.unk,.unk,.unk,.unk,.unk] := rfl
@[go_sem] theorem ks101_1 (a b c d e f g h i j k l m n o p q r s t u : AV) : keepS [2] [a,b,c,d,e,f,g,h,i,j,k,l,m,n,o,p,q,r,s,t,u] 0 = [.unk,.unk,c,.unk,.unk,.unk,.unk,.unk,.unk,.unk,.unk,.unk,.unk,.unk,.unk,.unk,.unk,.unk,.unk,.unk,.unk] := rfl
@[go_sem] theorem ks101_2 (a b c d e f g h i j k l m n o p q r s t u : AV) : keepS [2,3] [a,b,c,d,e,f,g,h,i,j,k,l,m,n,o,p,q,r,s,t,u] 0 = [.unk,.unk,c,d,.unk,.unk,.unk,.unk,.unk,.unk,.unk,.unk,.unk,.unk,.unk,.unk,.unk,.unk,.unk,.unk,.unk] := rfl
/-- strings.makeASCIISet -/
def bd101 : C :=
 (.seq (.reg [⟨some 2, none, .alloc 128 [.bool false, .bool false, .bool false, .bool false, .bool false, .bool false, .bool false, .bool false, .bool false, .bool false, .bool false, .bool false, .bool false, .bool false, .bool false, .bool false, .bool false, .bool false, .bool false, .bool false, .bool false, .bool false, .bool false, .bool false, .bool false, .bool false, .bool false, .bool false, .bool false, .bool false, .bool false, .bool false, .bool false, .bool false, .bool false, .bool false, .bool false, .bool false, .bool false, .bool false, .bool false, .bool false, .bool false, .bool false, .bool false, .bool false, .bool false, .bool false, .bool false, .bool false, .bool false, .bool false, .bool false, .bool false, .bool false, .bool false, .bool false, .bool false, .bool false, .bool false, .bool false, .bool false, .bool false, .bool false, .bool false, .bool false, .bool false, .bool false, .bool false, .bool false, .bool false, .bool false, .bool false, .bool false, .bool false, .bool false, .bool false, .bool false, .bool false, .bool false, .bool false, .bool false, .bool false, .bool false, .bool false, .bool false, .bool false, .bool false, .bool false, .bool false, .bool false, .bool false, .bool false, .bool false, .bool false, .bool false, .bool false, .bool false, .bool false, .bool false, .bool false, .bool false, .bool false, .bool false, .bool false, .bool false, .bool false, .bool false, .bool false, .bool false, .bool false, .bool false, .bool false, .bool false, .bool false, .bool false, .bool false, .bool false, .bool false, .bool false, .bool false, .bool false, .bool false, .bool false, .bool false, .bool false, .bool false, .bool false, .bool false, .bool false, .bool false, .bool false, .bool false, .bool false, .bool false, .bool false, .bool false, .bool false, .bool false, .bool false, .bool false, .bool false, .bool false, .bool false, .bool false, .bool false, .bool false, .bool false, .bool false, .bool false, .bool false, .bool false, .bool false, .bool false, .bool false, .bool false, .bool false, .bool false, .bool false, .bool false, .bool false, .bool false, .bool false, .bool false, .bool false, .bool false, .bool false, .bool false, .bool false, .bool false, .bool false, .bool false, .bool false, .bool false, .bool false, .bool false, .bool false, .bool false, .bool false, .bool false, .bool false, .bool false, .bool false, .bool false, .bool false, .bool false, .bool false, .bool false, .bool false, .bool false, .bool false, .bool false, .bool false, .bool false, .bool false, .bool false, .bool false, .bool false, .bool false, .bool false, .bool false, .bool false, .bool false, .bool false, .bool false, .bool false, .bool false, .bool false, .bool false, .bool false, .bool false, .bool false, .bool false, .bool false, .bool false, .bool false, .bool false, .bool false, .bool false, .bool false, .bool false, .bool false, .bool false, .bool false, .bool false, .bool false, .bool false, .bool false, .bool false, .bool false, .bool false, .bool false, .bool false, .bool false, .bool false, .bool false, .bool false, .bool false, .bool false, .bool false, .bool false, .bool false, .bool false, .bool false, .bool false, .bool false, .bool false, .bool false, .bool false, .bool false, .bool false, .bool false, .bool false, .bool false, .bool false, .bool false], .none⟩,
 ⟨some 3, none, .mv (.c (.d (.bool false))), .none⟩])
 (.seq (.seq (.reg [⟨some 4, none, .mv (.c (.d (.int .i64 0))), .none⟩])
 (.block 0 (.loop [0, 2, 4] lp101_0)))
 (.seq (.reg [⟨some 20, none, .ld (.s 2) 256 true, .none⟩,
 ⟨none, none, .st (.s 2) (.s 20) 256, .none⟩,
 ⟨some 3, none, .mv (.c (.d (.bool true))), .none⟩])
 (.ret none))))
def ir101 : F := { n := 21, res := [.cell 2 256 true, .tmp 3], body := bd101 }
@[go_sem] theorem n101 : ir101.n = 21 := rfl
@[go_sem] theorem r101 : ir101.res = [.cell 2 256 true, .tmp 3] := rfl
@[go_sem] theorem b101 : ir101.body = bd101 := rfl
def lb102_0 : C :=
 (.seq (.seq (.reg [⟨some 5, none, .mv (.s 0), .none⟩,
 ⟨some 6, none, .lens (.s 5), .none⟩,
 ⟨some 7, none, .bin .gtr (.s 6) (.c (.d (.int .i64 0))), .none⟩])
 (.cond (.s 7)
 .skip
 (.exit 0 (some [0]))))
 (.block 1 (.seq (.seq (.reg [⟨some 8, none, .mv (.s 1), .none⟩,
 ⟨some 9, none, .mv (.s 0), .none⟩,
 ⟨some 10, none, .sti (.s 9) (.c (.d (.int .i64 0))), .none⟩,
 ⟨some 11, none, .call 104 [.s 8, .s 10] 0, .none⟩,
 ⟨some 12, none, .un .not (.s 11), .none⟩])
 (.cond (.s 12)
 (.exit 0 (some [0]))
 .skip))
 (.reg [⟨some 13, none, .mv (.s 0), .none⟩,
 ⟨some 14, none, .ssl (.s 13) (some (.c (.d (.int .i64 1)))) none, .none⟩,
 ⟨some 0, none, .mv (.s 14), .none⟩]))))
def lp102_0 : C := lb102_0
theorem u102_0 (c : Ev.Callee) (l : Ev.Looper) (s : St) : evC c l lp102_0 s = evC c l lb102_0 s := rfl
abbrev st102_0 (m : Nat) (s0 s1 : AV) (h : Heap) : St := ⟨m,[s0,s1,.unk,.unk,.unk,.unk,.unk,.unk,.unk,.unk,.unk,.unk,.unk,.unk,.unk,.unk],h⟩
@[go_sem] theorem ks102_0 (a b c d e f g h i j k l m n o p : AV) : keepS [0,1] [a,b,c,d,e,f,g,h,i,j,k,l,m,n,o,p] 0 = [a,b,.unk,.unk,.unk,.unk,.unk,.unk,.unk,.unk,.unk,.unk,.unk,.unk,.unk,.unk] := rfl
@[go_sem] theorem ks102_1 (a b c d e f g h i j k l m n o p : AV) : keepS [0] [a,b,c,d,e,f,g,h,i,j,k,l,m,n,o,p] 0 = [a,.unk,.unk,.unk,.unk,.unk,.unk,.unk,.unk,.unk,.unk,.unk,.unk,.unk,.unk,.unk] := rfl
/-- strings.trimLeftASCII -/
def bd102 : C :=
 (.seq (.reg [⟨some 4, none, .mv (.c (.d (.str []))), .none⟩])
 (.seq (.block 0 (.loop [0, 1] lp102_0))
 (.seq (.reg [⟨some 15, none, .mv (.s 0), .none⟩,
 ⟨some 4, none, .mv (.s 15), .none⟩])
 (.ret none))))
def ir102 : F := { n := 16, res := [.tmp 4], body := bd102 }
@[go_sem] theorem n102 : ir102.n = 16 := rfl
@[go_sem] theorem r102 : ir102.res = [.tmp 4] := rfl
@[go_sem] theorem b102 : ir102.body = bd102 := rfl
def lb103_0 : C :=
 (.seq (.seq (.reg [⟨some 7, none, .mv (.s 0), .none⟩,
 ⟨some 8, none, .lens (.s 7), .none⟩,
 ⟨some 9, none, .bin .gtr (.s 8) (.c (.d (.int .i64 0))), .none⟩])
 (.cond (.s 9)
 .skip
 (.exit 0 (some [0]))))
 (.block 1 (.seq (.reg [⟨some 11, none, .mv (.s 0), .none⟩,
 ⟨some 12, none, .call 105 [.s 11] 2, .none⟩,
 ⟨some 10, none, .mv (.s 12), .none⟩,
 ⟨some 13, none, .ext (.s 10) 0, .none⟩,
 ⟨some 14, none, .ext (.s 10) 1, .none⟩,
 ⟨some 5, none, .mv (.s 13), .none⟩,
 ⟨some 6, none, .mv (.s 14), .none⟩])
 (.seq (.seq (.reg [⟨some 15, none, .mv (.s 1), .none⟩,
 ⟨some 16, none, .mv (.s 5), .none⟩,
 ⟨some 17, none, .call 106 [.s 15, .s 16] 2, .none⟩,
 ⟨some 18, none, .un .not (.s 17), .none⟩])
 (.cond (.s 18)
 (.exit 0 (some [0]))
 .skip))
 (.reg [⟨some 19, none, .mv (.s 0), .none⟩,
 ⟨some 20, none, .mv (.s 6), .none⟩,
 ⟨some 21, none, .ssl (.s 19) (some (.s 20)) none, .none⟩,
 ⟨some 0, none, .mv (.s 21), .none⟩])))))
def lp103_0 : C := lb103_0
theorem u103_0 (c : Ev.Callee) (l : Ev.Looper) (s : St) : evC c l lp103_0 s = evC c l lb103_0 s := rfl
abbrev st103_0 (m : Nat) (s0 s1 : AV) (h : Heap) : St := ⟨m,[s0,s1,.unk,.unk,.unk,.unk,.unk,.unk,.unk,.unk,.unk,.unk,.unk,.unk,.unk,.unk,.unk,.unk,.unk,.unk,.unk,.unk,.unk],h⟩
@[go_sem] theorem ks103_0 (a b c d e f g h i j k l m n o p q r s t u v w : AV) : keepS [0,1] [a,b,c,d,e,f,g,h,i,j,k,l,m,n,o,p,q,r,s,t,u,v,w] 0 = [a,b,.unk,.unk,.unk,.unk,.unk,.unk,.unk,.unk,.unk,.unk,.unk,.unk,.unk,.unk,.unk,.unk,.unk,.unk,.unk,.unk,.unk] := rfl
@[go_sem] theorem ks103_1 (a b c d e f g h i j k l m n o p q r s t u v w : AV) : keepS [0] [a,b,c,d,e,f,g,h,i,j,k,l,m,n,o,p,q,r,s,t,u,v,w] 0 = [a,.unk,.unk,.unk,.unk,.unk,.unk,.unk,.unk,.unk,.unk,.unk,.unk,.unk,.unk,.unk,.unk,.unk,.unk,.unk,.unk,.unk,.unk] := rfl
/-- strings.trimLeftUnicode -/
def bd103 : C :=
 (.seq (.reg [⟨some 4, none, .mv (.c (.d (.str []))), .none⟩])
 (.seq (.block 0 (.loop [0, 1] lp103_0))
 (.seq (.reg [⟨some 22, none, .mv (.s 0), .none⟩,
 ⟨some 4, none, .mv (.s 22), .none⟩])
 (.ret none))))
def ir103 : F := { n := 23, res := [.tmp 4], body := bd103 }
@[go_sem] theorem n103 : ir103.n = 23 := rfl
@[go_sem] theorem r103 : ir103.res = [.tmp 4] := rfl
@[go_sem] theorem b103 : ir103.body = bd103 := rfl
/-- (*strings.asciiSet).contains -/
def bd104 : C :=
 (.seq (.reg [⟨some 4, none, .mv (.c (.d (.bool false))), .none⟩])
 (.seq (.reg [⟨some 5, none, .mv (.s 0), .none⟩,
 ⟨some 6, none, .mv (.s 1), .none⟩,
 ⟨some 7, none, .nc (.s 5), .none⟩,
 ⟨some 8, none, .ia (.s 7) (.s 6) 256 1, .none⟩,
 ⟨some 9, none, .ld (.s 8) 1 false, .none⟩,
 ⟨some 4, none, .mv (.s 9), .none⟩])
 (.ret none)))
def ir104 : F := { n := 10, res := [.tmp 4], body := bd104 }
@[go_sem] theorem n104 : ir104.n = 10 := rfl
@[go_sem] theorem r104 : ir104.res = [.tmp 4] := rfl
@[go_sem] theorem b104 : ir104.body = bd104 := rfl
/-- unicode/utf8.DecodeRuneInString -/
def bd105 : C :=
 (.seq (.reg [⟨some 2, none, .mv (.c (.d (.int .i32 0))), .none⟩,
 ⟨some 3, none, .mv (.c (.d (.int .i64 0))), .none⟩])
 (.seq (.seq (.reg [⟨some 4, none, .mv (.s 0), .none⟩,
 ⟨some 5, none, .bin .neq (.s 4) (.c (.d (.str []))), .none⟩,
 ⟨some 6, none, .mv (.s 5), .none⟩,
 ⟨some 7, some (6, true), .mv (.s 0), .none⟩,
 ⟨some 8, some (6, true), .sti (.s 7) (.c (.d (.int .i64 0))), .none⟩,
 ⟨some 9, some (6, true), .bin .lss (.s 8) (.c (.d (.int .u8 128))), .none⟩,
 ⟨some 10, none, .pick (.s 6) (.s 9) (.c (.d (.bool false))), .none⟩])
 (.cond (.s 10)
 (.seq (.reg [⟨some 11, none, .mv (.s 0), .none⟩,
 ⟨some 12, none, .sti (.s 11) (.c (.d (.int .i64 0))), .none⟩,
 ⟨some 13, none, .cvi .i32 (.s 12), .none⟩,
 ⟨some 2, none, .mv (.s 13), .none⟩,
 ⟨some 3, none, .mv (.c (.d (.int .i64 1))), .none⟩])
 (.ret none))
 (.reg [⟨some 15, none, .mv (.s 0), .none⟩,
 ⟨some 16, none, .call 107 [.s 15] 2, .none⟩,
 ⟨some 14, none, .mv (.s 16), .none⟩,
 ⟨some 17, none, .ext (.s 14) 0, .none⟩,
 ⟨some 18, none, .ext (.s 14) 1, .none⟩,
 ⟨some 2, none, .mv (.s 17), .none⟩,
 ⟨some 3, none, .mv (.s 18), .none⟩])))
 (.ret none)))
def ir105 : F := { n := 19, res := [.tmp 2, .tmp 3], body := bd105 }
@[go_sem] theorem n105 : ir105.n = 19 := rfl
@[go_sem] theorem r105 : ir105.res = [.tmp 2, .tmp 3] := rfl
@[go_sem] theorem b105 : ir105.body = bd105 := rfl
/-- strings.ContainsRune -/
def bd106 : C :=
 (.seq (.reg [⟨some 4, none, .mv (.c (.d (.bool false))), .none⟩])
 (.seq (.reg [⟨some 5, none, .mv (.s 0), .none⟩,
 ⟨some 6, none, .mv (.s 1), .none⟩,
 ⟨some 7, none, .call 108 [.s 5, .s 6] 2, .none⟩,
 ⟨some 8, none, .bin .geq (.s 7) (.c (.d (.int .i64 0))), .none⟩,
 ⟨some 4, none, .mv (.s 8), .none⟩])
 (.ret none)))
def ir106 : F := { n := 9, res := [.tmp 4], body := bd106 }
@[go_sem] theorem n106 : ir106.n = 9 := rfl
@[go_sem] theorem r106 : ir106.res = [.tmp 4] := rfl
@[go_sem] theorem b106 : ir106.body = bd106 := rfl
/-- unicode/utf8.decodeRuneInStringSlow -/
def bd107 : C :=
 (.seq (.reg [⟨some 2, none, .mv (.c (.d (.int .i32 0))), .none⟩,
 ⟨some 3, none, .mv (.c (.d (.int .i64 0))), .none⟩])
 (.seq (.reg [⟨some 13, none, .mv (.s 0), .none⟩,
 ⟨some 14, none, .lens (.s 13), .none⟩,
 ⟨some 4, none, .mv (.s 14), .none⟩])
 (.seq (.seq (.reg [⟨some 15, none, .mv (.s 4), .none⟩,
 ⟨some 16, none, .bin .lss (.s 15) (.c (.d (.int .i64 1))), .none⟩])
 (.cond (.s 16)
 (.seq (.reg [⟨some 2, none, .mv (.c (.d (.int .i32 65533))), .none⟩,
 ⟨some 3, none, .mv (.c (.d (.int .i64 0))), .none⟩])
 (.ret none))
 .skip))
 (.seq (.reg [⟨some 17, none, .mv (.s 0), .none⟩,
 ⟨some 18, none, .sti (.s 17) (.c (.d (.int .i64 0))), .none⟩,
 ⟨some 5, none, .mv (.s 18), .none⟩])
 (.seq (.reg [⟨some 19, none, .mv (.s 5), .none⟩,
 ⟨some 20, none, .bad, .none⟩,
 ⟨some 21, none, .ld (.s 20) 1 false, .none⟩,
 ⟨some 6, none, .mv (.s 21), .none⟩])
 (.seq (.seq (.reg [⟨some 22, none, .mv (.s 6), .none⟩,
 ⟨some 23, none, .bin .geq (.s 22) (.c (.d (.int .u8 240))), .none⟩])
 (.cond (.s 23)
 (.seq (.reg [⟨some 24, none, .mv (.s 6), .none⟩,
 ⟨some 25, none, .cvi .i32 (.s 24), .none⟩,
 ⟨some 26, none, .bin .shl (.s 25) (.c (.d (.int .u64 31))), .none⟩,
 ⟨some 27, none, .bin .shr (.s 26) (.c (.d (.int .u64 31))), .none⟩,
 ⟨some 7, none, .mv (.s 27), .none⟩])
 (.seq (.reg [⟨some 28, none, .mv (.s 0), .none⟩,
 ⟨some 29, none, .sti (.s 28) (.c (.d (.int .i64 0))), .none⟩,
 ⟨some 30, none, .cvi .i32 (.s 29), .none⟩,
 ⟨some 31, none, .mv (.s 7), .none⟩,
 ⟨some 32, none, .bin .andNot (.s 30) (.s 31), .none⟩,
 ⟨some 33, none, .mv (.s 7), .none⟩,
 ⟨some 34, none, .bin .and (.c (.d (.int .i32 65533))) (.s 33), .none⟩,
 ⟨some 35, none, .bin .or (.s 32) (.s 34), .none⟩,
 ⟨some 2, none, .mv (.s 35), .none⟩,
 ⟨some 3, none, .mv (.c (.d (.int .i64 1))), .none⟩])
 (.ret none)))
 .skip))
 (.seq (.reg [⟨some 36, none, .mv (.s 6), .none⟩,
 ⟨some 37, none, .bin .and (.s 36) (.c (.d (.int .u8 7))), .none⟩,
 ⟨some 38, none, .cvi .i64 (.s 37), .none⟩,
 ⟨some 8, none, .mv (.s 38), .none⟩])
 (.seq (.reg [⟨some 39, none, .mv (.s 6), .none⟩,
 ⟨some 40, none, .bin .shr (.s 39) (.c (.d (.int .u64 4))), .none⟩,
 ⟨some 41, none, .bad, .none⟩,
 ⟨some 42, none, .ld (.s 41) 2 true, .none⟩,
 ⟨some 9, none, .alloc 139 [.int .u8 0, .int .u8 0], .none⟩,
 ⟨none, none, .st (.s 9) (.s 42) 2, .none⟩])
 (.seq (.seq (.reg [⟨some 43, none, .mv (.s 4), .none⟩,
 ⟨some 44, none, .mv (.s 8), .none⟩,
 ⟨some 45, none, .bin .lss (.s 43) (.s 44), .none⟩])
 (.cond (.s 45)
 (.seq (.reg [⟨some 2, none, .mv (.c (.d (.int .i32 65533))), .none⟩,
 ⟨some 3, none, .mv (.c (.d (.int .i64 1))), .none⟩])
 (.ret none))
 .skip))
 (.seq (.reg [⟨some 46, none, .mv (.s 0), .none⟩,
 ⟨some 47, none, .sti (.s 46) (.c (.d (.int .i64 1))), .none⟩,
 ⟨some 10, none, .mv (.s 47), .none⟩])
 (.seq (.seq (.reg [⟨some 48, none, .mv (.s 10), .none⟩,
 ⟨some 49, none, .fa (.s 9) 0, .none⟩,
 ⟨some 50, none, .ld (.s 49) 1 false, .none⟩,
 ⟨some 51, none, .bin .lss (.s 48) (.s 50), .none⟩,
 ⟨some 52, none, .mv (.s 51), .none⟩,
 ⟨some 53, some (52, false), .fa (.s 9) 1, .none⟩,
 ⟨some 54, some (52, false), .ld (.s 53) 1 false, .none⟩,
 ⟨some 55, some (52, false), .mv (.s 10), .none⟩,
 ⟨some 56, some (52, false), .bin .lss (.s 54) (.s 55), .none⟩,
 ⟨some 57, none, .pick (.s 52) (.c (.d (.bool true))) (.s 56), .none⟩])
 (.cond (.s 57)
 (.seq (.reg [⟨some 2, none, .mv (.c (.d (.int .i32 65533))), .none⟩,
 ⟨some 3, none, .mv (.c (.d (.int .i64 1))), .none⟩])
 (.ret none))
 .skip))
 (.seq (.seq (.reg [⟨some 58, none, .mv (.s 8), .none⟩,
 ⟨some 59, none, .bin .leq (.s 58) (.c (.d (.int .i64 2))), .none⟩])
 (.cond (.s 59)
 (.seq (.reg [⟨some 60, none, .mv (.s 5), .none⟩,
 ⟨some 61, none, .bin .and (.s 60) (.c (.d (.int .u8 31))), .none⟩,
 ⟨some 62, none, .cvi .i32 (.s 61), .none⟩,
 ⟨some 63, none, .bin .shl (.s 62) (.c (.d (.int .u64 6))), .none⟩,
 ⟨some 64, none, .mv (.s 10), .none⟩,
 ⟨some 65, none, .bin .and (.s 64) (.c (.d (.int .u8 63))), .none⟩,
 ⟨some 66, none, .cvi .i32 (.s 65), .none⟩,
 ⟨some 67, none, .bin .or (.s 63) (.s 66), .none⟩,
 ⟨some 2, none, .mv (.s 67), .none⟩,
 ⟨some 3, none, .mv (.c (.d (.int .i64 2))), .none⟩])
 (.ret none))
 .skip))
 (.seq (.reg [⟨some 68, none, .mv (.s 0), .none⟩,
 ⟨some 69, none, .sti (.s 68) (.c (.d (.int .i64 2))), .none⟩,
 ⟨some 11, none, .mv (.s 69), .none⟩])
 (.seq (.seq (.reg [⟨some 70, none, .mv (.s 11), .none⟩,
 ⟨some 71, none, .bin .lss (.s 70) (.c (.d (.int .u8 128))), .none⟩,
 ⟨some 72, none, .mv (.s 71), .none⟩,
 ⟨some 73, some (72, false), .mv (.s 11), .none⟩,
 ⟨some 74, some (72, false), .bin .lss (.c (.d (.int .u8 191))) (.s 73), .none⟩,
 ⟨some 75, none, .pick (.s 72) (.c (.d (.bool true))) (.s 74), .none⟩])
 (.cond (.s 75)
 (.seq (.reg [⟨some 2, none, .mv (.c (.d (.int .i32 65533))), .none⟩,
 ⟨some 3, none, .mv (.c (.d (.int .i64 1))), .none⟩])
 (.ret none))
 .skip))
 (.seq (.seq (.reg [⟨some 76, none, .mv (.s 8), .none⟩,
 ⟨some 77, none, .bin .leq (.s 76) (.c (.d (.int .i64 3))), .none⟩])
 (.cond (.s 77)
 (.seq (.reg [⟨some 78, none, .mv (.s 5), .none⟩,
 ⟨some 79, none, .bin .and (.s 78) (.c (.d (.int .u8 15))), .none⟩,
 ⟨some 80, none, .cvi .i32 (.s 79), .none⟩,
 ⟨some 81, none, .bin .shl (.s 80) (.c (.d (.int .u64 12))), .none⟩,
 ⟨some 82, none, .mv (.s 10), .none⟩,
 ⟨some 83, none, .bin .and (.s 82) (.c (.d (.int .u8 63))), .none⟩,
 ⟨some 84, none, .cvi .i32 (.s 83), .none⟩,
 ⟨some 85, none, .bin .shl (.s 84) (.c (.d (.int .u64 6))), .none⟩,
 ⟨some 86, none, .bin .or (.s 81) (.s 85), .none⟩,
 ⟨some 87, none, .mv (.s 11), .none⟩,
 ⟨some 88, none, .bin .and (.s 87) (.c (.d (.int .u8 63))), .none⟩,
 ⟨some 89, none, .cvi .i32 (.s 88), .none⟩,
 ⟨some 90, none, .bin .or (.s 86) (.s 89), .none⟩,
 ⟨some 2, none, .mv (.s 90), .none⟩,
 ⟨some 3, none, .mv (.c (.d (.int .i64 3))), .none⟩])
 (.ret none))
 .skip))
 (.seq (.reg [⟨some 91, none, .mv (.s 0), .none⟩,
 ⟨some 92, none, .sti (.s 91) (.c (.d (.int .i64 3))), .none⟩,
 ⟨some 12, none, .mv (.s 92), .none⟩])
 (.seq (.seq (.reg [⟨some 93, none, .mv (.s 12), .none⟩,
 ⟨some 94, none, .bin .lss (.s 93) (.c (.d (.int .u8 128))), .none⟩,
 ⟨some 95, none, .mv (.s 94), .none⟩,
 ⟨some 96, some (95, false), .mv (.s 12), .none⟩,
 ⟨some 97, some (95, false), .bin .lss (.c (.d (.int .u8 191))) (.s 96), .none⟩,
 ⟨some 98, none, .pick (.s 95) (.c (.d (.bool true))) (.s 97), .none⟩])
 (.cond (.s 98)
 (.seq (.reg [⟨some 2, none, .mv (.c (.d (.int .i32 65533))), .none⟩,
 ⟨some 3, none, .mv (.c (.d (.int .i64 1))), .none⟩])
 (.ret none))
 .skip))
 (.seq (.reg [⟨some 99, none, .mv (.s 5), .none⟩,
 ⟨some 100, none, .bin .and (.s 99) (.c (.d (.int .u8 7))), .none⟩,
 ⟨some 101, none, .cvi .i32 (.s 100), .none⟩,
 ⟨some 102, none, .bin .shl (.s 101) (.c (.d (.int .u64 18))), .none⟩,
 ⟨some 103, none, .mv (.s 10), .none⟩,
 ⟨some 104, none, .bin .and (.s 103) (.c (.d (.int .u8 63))), .none⟩,
 ⟨some 105, none, .cvi .i32 (.s 104), .none⟩,
 ⟨some 106, none, .bin .shl (.s 105) (.c (.d (.int .u64 12))), .none⟩,
 ⟨some 107, none, .bin .or (.s 102) (.s 106), .none⟩,
 ⟨some 108, none, .mv (.s 11), .none⟩,
 ⟨some 109, none, .bin .and (.s 108) (.c (.d (.int .u8 63))), .none⟩,
 ⟨some 110, none, .cvi .i32 (.s 109), .none⟩,
 ⟨some 111, none, .bin .shl (.s 110) (.c (.d (.int .u64 6))), .none⟩,
 ⟨some 112, none, .bin .or (.s 107) (.s 111), .none⟩,
 ⟨some 113, none, .mv (.s 12), .none⟩,
 ⟨some 114, none, .bin .and (.s 113) (.c (.d (.int .u8 63))), .none⟩,
 ⟨some 115, none, .cvi .i32 (.s 114), .none⟩,
 ⟨some 116, none, .bin .or (.s 112) (.s 115), .none⟩,
 ⟨some 2, none, .mv (.s 116), .none⟩,
 ⟨some 3, none, .mv (.c (.d (.int .i64 4))), .none⟩])
 (.ret none)))))))))))))))))))
def ir107 : F := { n := 117, res := [.tmp 2, .tmp 3], body := bd107 }
@[go_sem] theorem n107 : ir107.n = 117 := rfl
@[go_sem] theorem r107 : ir107.res = [.tmp 2, .tmp 3] := rfl
@[go_sem] theorem b107 : ir107.body = bd107 := rfl
def lb108_4 : C :=
 (.seq (.seq (.reg [⟨some 140, none, .mv (.s 16), .none⟩,
 ⟨some 141, none, .mv (.s 7), .none⟩,
 ⟨some 142, none, .lens (.s 141), .none⟩,
 ⟨some 143, none, .bin .lss (.s 140) (.s 142), .none⟩])
 (.cond (.s 143)
 .skip
 (.exit 7 (some [8, 9]))))
 (.seq (.block 8 (.seq (.drw [⟨some 146, none, .mv (.s 0), .none⟩,
 ⟨some 147, none, .mv (.s 9), .none⟩,
 ⟨some 148, none, .mv (.s 16), .none⟩,
 ⟨some 149, none, .bin .sub (.s 147) (.s 148), .none⟩,
 ⟨some 150, none, .sti (.s 146) (.s 149), .none⟩,
 ⟨some 151, none, .mv (.s 7), .none⟩,
 ⟨some 152, none, .mv (.s 8), .none⟩,
 ⟨some 153, none, .mv (.s 16), .none⟩,
 ⟨some 154, none, .bin .sub (.s 152) (.s 153), .none⟩,
 ⟨some 155, none, .sti (.s 151) (.s 154), .none⟩,
 ⟨some 156, none, .bin .neq (.s 150) (.s 155), .none⟩]
 [[], [], [], [1, 2], [0, 3], [], [], [], [6, 7], [5, 8], [4, 9]] [])
 (.cond (.s 156)
 (.exit 6 (some [0, 7, 8, 9, 14, 15]))
 .skip)))
 (.reg [⟨some 144, none, .mv (.s 16), .none⟩,
 ⟨some 145, none, .bin .add (.s 144) (.c (.d (.int .i64 1))), .none⟩,
 ⟨some 16, none, .mv (.s 145), .none⟩])))
def lp108_4 : C := lb108_4
theorem u108_4 (c : Ev.Callee) (l : Ev.Looper) (s : St) : evC c l lp108_4 s = evC c l lb108_4 s := rfl
abbrev st108_4 (m : Nat) (s0 s7 s8 s9 s14 s15 s16 : AV) (h : Heap) : St := ⟨m,[s0,.unk,.unk,.unk,.unk,.unk,.unk,s7,s8,s9,.unk,.unk,.unk,.unk,s14,s15,s16,.unk,.unk,.unk,.unk,.unk,.unk,.unk,.unk,.unk,.unk,.unk,.unk,.unk,.unk,.unk,.unk,.unk,.unk,.unk,.unk,.unk,.unk,.unk,.unk,.unk,.unk,.unk,.unk,.unk,.unk,.unk,.unk,.unk,.unk,.unk,.unk,.unk,.unk,.unk,.unk,.unk,.unk,.unk,.unk,.unk,.unk,.unk,.unk,.unk,.unk,.unk,.unk,.unk,.unk,.unk,.unk,.unk,.unk,.unk,.unk,.unk,.unk,.unk,.unk,.unk,.unk,.unk,.unk,.unk,.unk,.unk,.unk,.unk,.unk,.unk,.unk,.unk,.unk,.unk,.unk,.unk,.unk,.unk,.unk,.unk,.unk,.unk,.unk,.unk,.unk,.unk,.unk,.unk,.unk,.unk,.unk,.unk,.unk,.unk,.unk,.unk,.unk,.unk,.unk,.unk,.unk,.unk,.unk,.unk,.unk,.unk,.unk,.unk,.unk,.unk,.unk,.unk,.unk,.unk,.unk,.unk,.unk,.unk,.unk,.unk,.unk,.unk,.unk,.unk,.unk,.unk,.unk,.unk,.unk,.unk,.unk,.unk,.unk,.unk,.unk,.unk,.unk,.unk,.unk,.unk,.unk,.unk,.unk,.unk,.unk,.unk,.unk,.unk,.unk,.unk,.unk,.unk,.unk,.unk,.unk,.unk,.unk,.unk,.unk,.unk,.unk,.unk,.unk,.unk,.unk],h⟩
def lb108_3 : C :=
 (.seq (.seq (.reg [⟨some 121, none, .mv (.s 9), .none⟩,
 ⟨some 122, none, .mv (.s 0), .none⟩,
 ⟨some 123, none, .lens (.s 122), .none⟩,
 ⟨some 124, none, .bin .lss (.s 121) (.s 123), .none⟩])
 (.cond (.s 124)
 .skip
 (.exit 5 (some []))))
 (.seq (.block 6 (.seq (.reg [⟨some 127, none, .mv (.s 0), .none⟩,
 ⟨some 128, none, .mv (.s 9), .none⟩,
 ⟨some 129, none, .sti (.s 127) (.s 128), .none⟩,
 ⟨some 130, none, .mv (.s 14), .none⟩,
 ⟨some 131, none, .bin .eql (.s 129) (.s 130), .none⟩,
 ⟨some 132, none, .mv (.s 131), .none⟩,
 ⟨some 133, some (132, true), .mv (.s 0), .none⟩,
 ⟨some 134, some (132, true), .mv (.s 9), .none⟩,
 ⟨some 135, some (132, true), .bin .sub (.s 134) (.c (.d (.int .i64 1))), .none⟩,
 ⟨some 136, some (132, true), .sti (.s 133) (.s 135), .none⟩,
 ⟨some 137, some (132, true), .mv (.s 15), .none⟩,
 ⟨some 138, some (132, true), .bin .eql (.s 136) (.s 137), .none⟩,
 ⟨some 139, none, .pick (.s 132) (.s 138) (.c (.d (.bool false))), .none⟩])
 (.cond (.s 139)
 (.seq (.seq (.reg [⟨some 16, none, .mv (.c (.d (.int .i64 2))), .none⟩])
 (.block 7 (.loop [0, 7, 8, 9, 14, 15, 16] lp108_4)))
 (.seq (.reg [⟨some 157, none, .mv (.s 9), .none⟩,
 ⟨some 158, none, .mv (.s 8), .none⟩,
 ⟨some 159, none, .bin .sub (.s 157) (.s 158), .none⟩,
 ⟨some 4, none, .mv (.s 159), .none⟩])
 (.ret (some [4]))))
 .skip)))
 (.reg [⟨some 125, none, .mv (.s 9), .none⟩,
 ⟨some 126, none, .bin .add (.s 125) (.c (.d (.int .i64 1))), .none⟩,
 ⟨some 9, none, .mv (.s 126), .none⟩])))
def lp108_3 : C := lb108_3
theorem u108_3 (c : Ev.Callee) (l : Ev.Looper) (s : St) : evC c l lp108_3 s = evC c l lb108_3 s := rfl
abbrev st108_3 (m : Nat) (s0 s7 s8 s9 s14 s15 : AV) (h : Heap) : St := ⟨m,[s0,.unk,.unk,.unk,.unk,.unk,.unk,s7,s8,s9,.unk,.unk,.unk,.unk,s14,s15,.unk,.unk,.unk,.unk,.unk,.unk,.unk,.unk,.unk,.unk,.unk,.unk,.unk,.unk,.unk,.unk,.unk,.unk,.unk,.unk,.unk,.unk,.unk,.unk,.unk,.unk,.unk,.unk,.unk,.unk,.unk,.unk,.unk,.unk,.unk,.unk,.unk,.unk,.unk,.unk,.unk,.unk,.unk,.unk,.unk,.unk,.unk,.unk,.unk,.unk,.unk,.unk,.unk,.unk,.unk,.unk,.unk,.unk,.unk,.unk,.unk,.unk,.unk,.unk,.unk,.unk,.unk,.unk,.unk,.unk,.unk,.unk,.unk,.unk,.unk,.unk,.unk,.unk,.unk,.unk,.unk,.unk,.unk,.unk,.unk,.unk,.unk,.unk,.unk,.unk,.unk,.unk,.unk,.unk,.unk,.unk,.unk,.unk,.unk,.unk,.unk,.unk,.unk,.unk,.unk,.unk,.unk,.unk,.unk,.unk,.unk,.unk,.unk,.unk,.unk,.unk,.unk,.unk,.unk,.unk,.unk,.unk,.unk,.unk,.unk,.unk,.unk,.unk,.unk,.unk,.unk,.unk,.unk,.unk,.unk,.unk,.unk,.unk,.unk,.unk,.unk,.unk,.unk,.unk,.unk,.unk,.unk,.unk,.unk,.unk,.unk,.unk,.unk,.unk,.unk,.unk,.unk,.unk,.unk,.unk,.unk,.unk,.unk,.unk,.unk,.unk,.unk,.unk,.unk,.unk,.unk],h⟩
def lb108_2 : C :=
 (.seq (.seq (.reg [⟨some 48, none, .mv (.s 12), .none⟩,
 ⟨some 49, none, .mv (.s 7), .none⟩,
 ⟨some 50, none, .lens (.s 49), .none⟩,
 ⟨some 51, none, .bin .lss (.s 48) (.s 50), .none⟩])
 (.cond (.s 51)
 .skip
 (.exit 3 (some [8, 9]))))
 (.seq (.block 4 (.seq (.drw [⟨some 54, none, .mv (.s 0), .none⟩,
 ⟨some 55, none, .mv (.s 9), .none⟩,
 ⟨some 56, none, .mv (.s 12), .none⟩,
 ⟨some 57, none, .bin .sub (.s 55) (.s 56), .none⟩,
 ⟨some 58, none, .sti (.s 54) (.s 57), .none⟩,
 ⟨some 59, none, .mv (.s 7), .none⟩,
 ⟨some 60, none, .mv (.s 8), .none⟩,
 ⟨some 61, none, .mv (.s 12), .none⟩,
 ⟨some 62, none, .bin .sub (.s 60) (.s 61), .none⟩,
 ⟨some 63, none, .sti (.s 59) (.s 62), .none⟩,
 ⟨some 64, none, .bin .neq (.s 58) (.s 63), .none⟩]
 [[], [], [], [1, 2], [0, 3], [], [], [], [6, 7], [5, 8], [4, 9]] [])
 (.cond (.s 64)
 .bad
 .skip)))
 (.reg [⟨some 52, none, .mv (.s 12), .none⟩,
 ⟨some 53, none, .bin .add (.s 52) (.c (.d (.int .i64 1))), .none⟩,
 ⟨some 12, none, .mv (.s 53), .none⟩])))
def lp108_2 : C := lb108_2
theorem u108_2 (c : Ev.Callee) (l : Ev.Looper) (s : St) : evC c l lp108_2 s = evC c l lb108_2 s := rfl
abbrev st108_2 (m : Nat) (s0 s7 s8 s9 s12 : AV) (h : Heap) : St := ⟨m,[s0,.unk,.unk,.unk,.unk,.unk,.unk,s7,s8,s9,.unk,.unk,s12,.unk,.unk,.unk,.unk,.unk,.unk,.unk,.unk,.unk,.unk,.unk,.unk,.unk,.unk,.unk,.unk,.unk,.unk,.unk,.unk,.unk,.unk,.unk,.unk,.unk,.unk,.unk,.unk,.unk,.unk,.unk,.unk,.unk,.unk,.unk,.unk,.unk,.unk,.unk,.unk,.unk,.unk,.unk,.unk,.unk,.unk,.unk,.unk,.unk,.unk,.unk,.unk,.unk,.unk,.unk,.unk,.unk,.unk,.unk,.unk,.unk,.unk,.unk,.unk,.unk,.unk,.unk,.unk,.unk,.unk,.unk,.unk,.unk,.unk,.unk,.unk,.unk,.unk,.unk,.unk,.unk,.unk,.unk,.unk,.unk,.unk,.unk,.unk,.unk,.unk,.unk,.unk,.unk,.unk,.unk,.unk,.unk,.unk,.unk,.unk,.unk,.unk,.unk,.unk,.unk,.unk,.unk,.unk,.unk,.unk,.unk,.unk,.unk,.unk,.unk,.unk,.unk,.unk,.unk,.unk,.unk,.unk,.unk,.unk,.unk,.unk,.unk,.unk,.unk,.unk,.unk,.unk,.unk,.unk,.unk,.unk,.unk,.unk,.unk,.unk,.unk,.unk,.unk,.unk,.unk,.unk,.unk,.unk,.unk,.unk,.unk,.unk,.unk,.unk,.unk,.unk,.unk,.unk,.unk,.unk,.unk,.unk,.unk,.unk,.unk,.unk,.unk,.unk,.unk,.unk,.unk,.unk,.unk,.unk],h⟩
def lb108_1 : C :=
 (.seq (.seq (.reg [⟨some 23, none, .mv (.s 9), .none⟩,
 ⟨some 24, none, .mv (.s 0), .none⟩,
 ⟨some 25, none, .lens (.s 24), .none⟩,
 ⟨some 26, none, .bin .lss (.s 23) (.s 25), .none⟩])
 (.cond (.s 26)
 .skip
 (.exit 1 (some []))))
 (.block 2 (.scp (.seq (.seq (.drw [⟨some 27, none, .mv (.s 0), .none⟩,
 ⟨some 28, none, .mv (.s 9), .none⟩,
 ⟨some 29, none, .sti (.s 27) (.s 28), .none⟩,
 ⟨some 30, none, .mv (.s 7), .none⟩,
 ⟨some 31, none, .mv (.s 8), .none⟩,
 ⟨some 32, none, .sti (.s 30) (.s 31), .none⟩,
 ⟨some 33, none, .bin .neq (.s 29) (.s 32), .none⟩]
 [[], [], [0, 1], [], [], [3, 4], [2, 5]] [])
 (.cond (.s 33)
 (.seq (.drw [⟨some 34, none, .mv (.s 0), .none⟩,
 ⟨some 35, none, .mv (.s 9), .none⟩,
 ⟨some 36, none, .bin .add (.s 35) (.c (.d (.int .i64 1))), .none⟩,
 ⟨some 37, none, .ssl (.s 34) (some (.s 36)) none, .none⟩,
 ⟨some 38, none, .mv (.s 7), .none⟩,
 ⟨some 39, none, .mv (.s 8), .none⟩,
 ⟨some 40, none, .sti (.s 38) (.s 39), .none⟩,
 ⟨some 41, none, .call 68 [.s 37, .s 40] 2, .none⟩,
 ⟨some 11, none, .mv (.s 41), .none⟩]
 [[], [], [1], [0, 2], [], [], [4, 5], [3, 6], [7, 7, 0, 1, 2, 3, 4, 5, 6, 7]] [])
 (.seq (.seq (.reg [⟨some 42, none, .mv (.s 11), .none⟩,
 ⟨some 43, none, .bin .lss (.s 42) (.c (.d (.int .i64 0))), .none⟩])
 (.cond (.s 43)
 (.seq (.reg [⟨some 4, none, .mv (.c (.d (.int .i64 (-1)))), .none⟩])
 (.ret (some [4])))
 .skip))
 (.reg [⟨some 44, none, .mv (.s 9), .none⟩,
 ⟨some 45, none, .mv (.s 11), .none⟩,
 ⟨some 46, none, .bin .add (.s 45) (.c (.d (.int .i64 1))), .none⟩,
 ⟨some 47, none, .bin .add (.s 44) (.s 46), .none⟩,
 ⟨some 9, none, .mv (.s 47), .none⟩])))
 .skip))
 (.ann [0, 7, 8, 9] (.seq (.seq (.reg [⟨some 12, none, .mv (.c (.d (.int .i64 1))), .none⟩])
 (.block 3 (.loop [0, 7, 8, 9, 12] lp108_2)))
 (.seq (.seq (.reg [⟨some 65, none, .mv (.s 9), .none⟩,
 ⟨some 66, none, .mv (.s 8), .none⟩,
 ⟨some 67, none, .bin .sub (.s 65) (.s 66), .none⟩,
 ⟨some 4, none, .mv (.s 67), .none⟩])
 (.ret (some [4])))
 (.seq .skip
 (.seq (.reg [⟨some 68, none, .mv (.s 10), .none⟩,
 ⟨some 69, none, .bin .add (.s 68) (.c (.d (.int .i64 1))), .none⟩,
 ⟨some 10, none, .mv (.s 69), .none⟩])
 (.seq (.reg [⟨some 70, none, .mv (.s 9), .none⟩,
 ⟨some 71, none, .bin .add (.s 70) (.c (.d (.int .i64 1))), .none⟩,
 ⟨some 9, none, .mv (.s 71), .none⟩])
 (.seq (.reg [⟨some 72, none, .mv (.c (.d (.bool true))), .none⟩,
 ⟨some 73, some (72, true), .mv (.s 10), .none⟩,
 ⟨some 74, some (72, true), .mv (.s 9), .none⟩,
 ⟨some 75, some (72, true), .call 110 [.s 74] 2, .none⟩,
 ⟨some 76, some (72, true), .bin .gtr (.s 73) (.s 75), .none⟩,
 ⟨some 77, none, .pick (.s 72) (.s 76) (.c (.d (.bool false))), .none⟩,
 ⟨some 78, none, .mv (.s 77), .none⟩,
 ⟨some 79, some (78, true), .mv (.s 9), .none⟩,
 ⟨some 80, some (78, true), .mv (.s 0), .none⟩,
 ⟨some 81, some (78, true), .lens (.s 80), .none⟩,
 ⟨some 82, some (78, true), .bin .lss (.s 79) (.s 81), .none⟩,
 ⟨some 83, none, .pick (.s 78) (.s 82) (.c (.d (.bool false))), .none⟩,
 ⟨some 84, none, .mv (.s 83), .none⟩,
 ⟨some 85, some (84, false), .mv (.c (.d (.bool false))), .none⟩,
 ⟨some 86, some (85, true), .mv (.s 10), .none⟩,
 ⟨some 87, some (85, true), .mv (.s 9), .none⟩,
 ⟨some 88, some (85, true), .bin .shr (.s 87) (.c (.d (.int .u64 4))), .none⟩,
 ⟨some 89, some (85, true), .bin .add (.c (.d (.int .i64 4))) (.s 88), .none⟩,
 ⟨some 90, some (85, true), .bin .geq (.s 86) (.s 89), .none⟩,
 ⟨some 91, some (84, false), .pick (.s 85) (.s 90) (.c (.d (.bool false))), .none⟩,
 ⟨some 92, some (84, false), .mv (.s 91), .none⟩,
 ⟨some 93, some (92, true), .mv (.s 9), .none⟩,
 ⟨some 94, some (92, true), .mv (.s 0), .none⟩,
 ⟨some 95, some (92, true), .lens (.s 94), .none⟩,
 ⟨some 96, some (92, true), .bin .lss (.s 93) (.s 95), .none⟩,
 ⟨some 97, some (84, false), .pick (.s 92) (.s 96) (.c (.d (.bool false))), .none⟩,
 ⟨some 98, none, .pick (.s 84) (.c (.d (.bool true))) (.s 97), .none⟩])
 (.cond (.s 98)
 .bad
 .skip))))))))))))
def lp108_1 : C := lb108_1
theorem u108_1 (c : Ev.Callee) (l : Ev.Looper) (s : St) : evC c l lp108_1 s = evC c l lb108_1 s := rfl
abbrev st108_1 (m : Nat) (s0 s7 s8 s9 : AV) (h : Heap) : St := ⟨m,[s0,.unk,.unk,.unk,.unk,.unk,.unk,s7,s8,s9,.unk,.unk,.unk,.unk,.unk,.unk,.unk,.unk,.unk,.unk,.unk,.unk,.unk,.unk,.unk,.unk,.unk,.unk,.unk,.unk,.unk,.unk,.unk,.unk,.unk,.unk,.unk,.unk,.unk,.unk,.unk,.unk,.unk,.unk,.unk,.unk,.unk,.unk,.unk,.unk,.unk,.unk,.unk,.unk,.unk,.unk,.unk,.unk,.unk,.unk,.unk,.unk,.unk,.unk,.unk,.unk,.unk,.unk,.unk,.unk,.unk,.unk,.unk,.unk,.unk,.unk,.unk,.unk,.unk,.unk,.unk,.unk,.unk,.unk,.unk,.unk,.unk,.unk,.unk,.unk,.unk,.unk,.unk,.unk,.unk,.unk,.unk,.unk,.unk,.unk,.unk,.unk,.unk,.unk,.unk,.unk,.unk,.unk,.unk,.unk,.unk,.unk,.unk,.unk,.unk,.unk,.unk,.unk,.unk,.unk,.unk,.unk,.unk,.unk,.unk,.unk,.unk,.unk,.unk,.unk,.unk,.unk,.unk,.unk,.unk,.unk,.unk,.unk,.unk,.unk,.unk,.unk,.unk,.unk,.unk,.unk,.unk,.unk,.unk,.unk,.unk,.unk,.unk,.unk,.unk,.unk,.unk,.unk,.unk,.unk,.unk,.unk,.unk,.unk,.unk,.unk,.unk,.unk,.unk,.unk,.unk,.unk,.unk,.unk,.unk,.unk,.unk,.unk,.unk,.unk,.unk,.unk,.unk,.unk,.unk,.unk,.unk],h⟩
def lb108_0 : C :=
 (.seq (.reg [⟨some 176, none, .bad, .none⟩,
 ⟨some 177, none, .ext (.s 176) 0, .none⟩])
 (.seq (.cond (.s 177)
 .skip
 (.exit 9 (some [])))
 (.block 10 (.seq (.reg [⟨some 178, none, .ext (.s 176) 1, .none⟩,
 ⟨some 179, none, .ext (.s 176) 2, .none⟩,
 ⟨some 5, none, .mv (.s 178), .none⟩,
 ⟨some 6, none, .mv (.s 179), .none⟩])
 (.seq (.reg [⟨some 180, none, .mv (.s 6), .none⟩,
 ⟨some 181, none, .bin .eql (.s 180) (.c (.d (.int .i32 65533))), .none⟩])
 (.cond (.s 181)
 (.seq (.reg [⟨some 182, none, .mv (.s 5), .none⟩,
 ⟨some 4, none, .mv (.s 182), .none⟩])
 (.ret (some [4])))
 .skip))))))
def lp108_0 : C := lb108_0
theorem u108_0 (c : Ev.Callee) (l : Ev.Looper) (s : St) : evC c l lp108_0 s = evC c l lb108_0 s := rfl
abbrev st108_0 (m : Nat) (h : Heap) : St := ⟨m,[.unk,.unk,.unk,.unk,.unk,.unk,.unk,.unk,.unk,.unk,.unk,.unk,.unk,.unk,.unk,.unk,.unk,.unk,.unk,.unk,.unk,.unk,.unk,.unk,.unk,.unk,.unk,.unk,.unk,.unk,.unk,.unk,.unk,.unk,.unk,.unk,.unk,.unk,.unk,.unk,.unk,.unk,.unk,.unk,.unk,.unk,.unk,.unk,.unk,.unk,.unk,.unk,.unk,.unk,.unk,.unk,.unk,.unk,.unk,.unk,.unk,.unk,.unk,.unk,.unk,.unk,.unk,.unk,.unk,.unk,.unk,.unk,.unk,.unk,.unk,.unk,.unk,.unk,.unk,.unk,.unk,.unk,.unk,.unk,.unk,.unk,.unk,.unk,.unk,.unk,.unk,.unk,.unk,.unk,.unk,.unk,.unk,.unk,.unk,.unk,.unk,.unk,.unk,.unk,.unk,.unk,.unk,.unk,.unk,.unk,.unk,.unk,.unk,.unk,.unk,.unk,.unk,.unk,.unk,.unk,.unk,.unk,.unk,.unk,.unk,.unk,.unk,.unk,.unk,.unk,.unk,.unk,.unk,.unk,.unk,.unk,.unk,.unk,.unk,.unk,.unk,.unk,.unk,.unk,.unk,.unk,.unk,.unk,.unk,.unk,.unk,.unk,.unk,.unk,.unk,.unk,.unk,.unk,.unk,.unk,.unk,.unk,.unk,.unk,.unk,.unk,.unk,.unk,.unk,.unk,.unk,.unk,.unk,.unk,.unk,.unk,.unk,.unk,.unk,.unk,.unk,.unk,.unk,.unk,.unk,.unk,.unk],h⟩
@[go_sem] theorem ks108_0 (a b c d e f g h i j k l m n o p q r s t u v w x y z a0 a1 a2 a3 a4 a5 a6 a7 a8 a9 b0 b1 b2 b3 b4 b5 b6 b7 b8 b9 c0 c1 c2 c3 c4 c5 c6 c7 c8 c9 d0 d1 d2 d3 d4 d5 d6 d7 d8 d9 e0 e1 e2 e3 e4 e5 e6 e7 e8 e9 f0 f1 f2 f3 f4 f5 f6 f7 f8 f9 g0 g1 g2 g3 g4 g5 g6 g7 g8 g9 h0 h1 h2 h3 h4 h5 h6 h7 h8 h9 i0 i1 i2 i3 i4 i5 i6 i7 i8 i9 j0 j1 j2 j3 j4 j5 j6 j7 j8 j9 k0 k1 k2 k3 k4 k5 k6 k7 k8 k9 l0 l1 l2 l3 l4 l5 l6 l7 l8 l9 m0 m1 m2 m3 m4 m5 m6 m7 m8 m9 n0 n1 n2 n3 n4 n5 n6 n7 n8 n9 o0 o1 o2 o3 o4 o5 o6 o7 o8 o9 p0 p1 p2 p3 p4 p5 p6 p7 p8 p9 q0 : AV) : keepS [] [a,b,c,d,e,f,g,h,i,j,k,l,m,n,o,p,q,r,s,t,u,v,w,x,y,z,a0,a1,a2,a3,a4,a5,a6,a7,a8,a9,b0,b1,b2,b3,b4,b5,b6,b7,b8,b9,c0,c1,c2,c3,c4,c5,c6,c7,c8,c9,d0,d1,d2,d3,d4,d5,d6,d7,d8,d9,e0,e1,e2,e3,e4,e5,e6,e7,e8,e9,f0,f1,f2,f3,f4,f5,f6,f7,f8,f9,g0,g1,g2,g3,g4,g5,g6,g7,g8,g9,h0,h1,h2,h3,h4,h5,h6,h7,h8,h9,i0,i1,i2,i3,i4,i5,i6,i7,i8,i9,j0,j1,j2,j3,j4,j5,j6,j7,j8,j9,k0,k1,k2,k3,k4,k5,k6,k7,k8,k9,l0,l1,l2,l3,l4,l5,l6,l7,l8,l9,m0,m1,m2,m3,m4,m5,m6,m7,m8,m9,n0,n1,n2,n3,n4,n5,n6,n7,n8,n9,o0,o1,o2,o3,o4,o5,o6,o7,o8,o9,p0,p1,p2,p3,p4,p5,p6,p7,p8,p9,q0] 0 = [.unk,.unk,.unk,.unk,.unk,.unk,.unk,.unk,.unk,.unk,.unk,.unk,.unk,.unk,.unk,.unk,.unk,.unk,.unk,.unk,.unk,.unk,.unk,.unk,.unk,.unk,.unk,.unk,.unk,.unk,.unk,.unk,.unk,.unk,.unk,.unk,.unk,.unk,.unk,.unk,.unk,.unk,.unk,.unk,.unk,.unk,.unk,.unk,.unk,.unk,.unk,.unk,.unk,.unk,.unk,.unk,.unk,.unk,.unk,.unk,.unk,.unk,.unk,.unk,.unk,.unk,.unk,.unk,.unk,.unk,.unk,.unk,.unk,.unk,.unk,.unk,.unk,.unk,.unk,.unk,.unk,.unk,.unk,.unk,.unk,.unk,.unk,.unk,.unk,.unk,.unk,.unk,.unk,.unk,.unk,.unk,.unk,.unk,.unk,.unk,.unk,.unk,.unk,.unk,.unk,.unk,.unk,.unk,.unk,.unk,.unk,.unk,.unk,.unk,.unk,.unk,.unk,.unk,.unk,.unk,.unk,.unk,.unk,.unk,.unk,.unk,.unk,.unk,.unk,.unk,.unk,.unk,.unk,.unk,.unk,.unk,.unk,.unk,.unk,.unk,.unk,.unk,.unk,.unk,.unk,.unk,.unk,.unk,.unk,.unk,.unk,.unk,.unk,.unk,.unk,.unk,.unk,.unk,.unk,.unk,.unk,.unk,.unk,.unk,.unk,.unk,.unk,.unk,.unk,.unk,.unk,.unk,.unk,.unk,.unk,.unk,.unk,.unk,.unk,.unk,.unk,.unk,.unk,.unk,.unk,.unk,.unk] := rfl
@[go_sem] theorem ks108_1 (a b c d e f g h i j k l m n o p q r s t u v w x y z a0 a1 a2 a3 a4 a5 a6 a7 a8 a9 b0 b1 b2 b3 b4 b5 b6 b7 b8 b9 c0 c1 c2 c3 c4 c5 c6 c7 c8 c9 d0 d1 d2 d3 d4 d5 d6 d7 d8 d9 e0 e1 e2 e3 e4 e5 e6 e7 e8 e9 f0 f1 f2 f3 f4 f5 f6 f7 f8 f9 g0 g1 g2 g3 g4 g5 g6 g7 g8 g9 h0 h1 h2 h3 h4 h5 h6 h7 h8 h9 i0 i1 i2 i3 i4 i5 i6 i7 i8 i9 j0 j1 j2 j3 j4 j5 j6 j7 j8 j9 k0 k1 k2 k3 k4 k5 k6 k7 k8 k9 l0 l1 l2 l3 l4 l5 l6 l7 l8 l9 m0 m1 m2 m3 m4 m5 m6 m7 m8 m9 n0 n1 n2 n3 n4 n5 n6 n7 n8 n9 o0 o1 o2 o3 o4 o5 o6 o7 o8 o9 p0 p1 p2 p3 p4 p5 p6 p7 p8 p9 q0 : AV) : keepS [4] [a,b,c,d,e,f,g,h,i,j,k,l,m,n,o,p,q,r,s,t,u,v,w,x,y,z,a0,a1,a2,a3,a4,a5,a6,a7,a8,a9,b0,b1,b2,b3,b4,b5,b6,b7,b8,b9,c0,c1,c2,c3,c4,c5,c6,c7,c8,c9,d0,d1,d2,d3,d4,d5,d6,d7,d8,d9,e0,e1,e2,e3,e4,e5,e6,e7,e8,e9,f0,f1,f2,f3,f4,f5,f6,f7,f8,f9,g0,g1,g2,g3,g4,g5,g6,g7,g8,g9,h0,h1,h2,h3,h4,h5,h6,h7,h8,h9,i0,i1,i2,i3,i4,i5,i6,i7,i8,i9,j0,j1,j2,j3,j4,j5,j6,j7,j8,j9,k0,k1,k2,k3,k4,k5,k6,k7,k8,k9,l0,l1,l2,l3,l4,l5,l6,l7,l8,l9,m0,m1,m2,m3,m4,m5,m6,m7,m8,m9,n0,n1,n2,n3,n4,n5,n6,n7,n8,n9,o0,o1,o2,o3,o4,o5,o6,o7,o8,o9,p0,p1,p2,p3,p4,p5,p6,p7,p8,p9,q0] 0 = [.unk,.unk,.unk,.unk,e,.unk,.unk,.unk,.unk,.unk,.unk,.unk,.unk,.unk,.unk,.unk,.unk,.unk,.unk,.unk,.unk,.unk,.unk,.unk,.unk,.unk,.unk,.unk,.unk,.unk,.unk,.unk,.unk,.unk,.unk,.unk,.unk,.unk,.unk,.unk,.unk,.unk,.unk,.unk,.unk,.unk,.unk,.unk,.unk,.unk,.unk,.unk,.unk,.unk,.unk,.unk,.unk,.unk,.unk,.unk,.unk,.unk,.unk,.unk,.unk,.unk,.unk,.unk,.unk,.unk,.unk,.unk,.unk,.unk,.unk,.unk,.unk,.unk,.unk,.unk,.unk,.unk,.unk,.unk,.unk,.unk,.unk,.unk,.unk,.unk,.unk,.unk,.unk,.unk,.unk,.unk,.unk,.unk,.unk,.unk,.unk,.unk,.unk,.unk,.unk,.unk,.unk,.unk,.unk,.unk,.unk,.unk,.unk,.unk,.unk,.unk,.unk,.unk,.unk,.unk,.unk,.unk,.unk,.unk,.unk,.unk,.unk,.unk,.unk,.unk,.unk,.unk,.unk,.unk,.unk,.unk,.unk,.unk,.unk,.unk,.unk,.unk,.unk,.unk,.unk,.unk,.unk,.unk,.unk,.unk,.unk,.unk,.unk,.unk,.unk,.unk,.unk,.unk,.unk,.unk,.unk,.unk,.unk,.unk,.unk,.unk,.unk,.unk,.unk,.unk,.unk,.unk,.unk,.unk,.unk,.unk,.unk,.unk,.unk,.unk,.unk,.unk,.unk,.unk,.unk,.unk,.unk] := rfl
@[go_sem] theorem ks108_2 (a b c d e f g h i j k l m n o p q r s t u v w x y z a0 a1 a2 a3 a4 a5 a6 a7 a8 a9 b0 b1 b2 b3 b4 b5 b6 b7 b8 b9 c0 c1 c2 c3 c4 c5 c6 c7 c8 c9 d0 d1 d2 d3 d4 d5 d6 d7 d8 d9 e0 e1 e2 e3 e4 e5 e6 e7 e8 e9 f0 f1 f2 f3 f4 f5 f6 f7 f8 f9 g0 g1 g2 g3 g4 g5 g6 g7 g8 g9 h0 h1 h2 h3 h4 h5 h6 h7 h8 h9 i0 i1 i2 i3 i4 i5 i6 i7 i8 i9 j0 j1 j2 j3 j4 j5 j6 j7 j8 j9 k0 k1 k2 k3 k4 k5 k6 k7 k8 k9 l0 l1 l2 l3 l4 l5 l6 l7 l8 l9 m0 m1 m2 m3 m4 m5 m6 m7 m8 m9 n0 n1 n2 n3 n4 n5 n6 n7 n8 n9 o0 o1 o2 o3 o4 o5 o6 o7 o8 o9 p0 p1 p2 p3 p4 p5 p6 p7 p8 p9 q0 : AV) : keepS [0,7,8,9] [a,b,c,d,e,f,g,h,i,j,k,l,m,n,o,p,q,r,s,t,u,v,w,x,y,z,a0,a1,a2,a3,a4,a5,a6,a7,a8,a9,b0,b1,b2,b3,b4,b5,b6,b7,b8,b9,c0,c1,c2,c3,c4,c5,c6,c7,c8,c9,d0,d1,d2,d3,d4,d5,d6,d7,d8,d9,e0,e1,e2,e3,e4,e5,e6,e7,e8,e9,f0,f1,f2,f3,f4,f5,f6,f7,f8,f9,g0,g1,g2,g3,g4,g5,g6,g7,g8,g9,h0,h1,h2,h3,h4,h5,h6,h7,h8,h9,i0,i1,i2,i3,i4,i5,i6,i7,i8,i9,j0,j1,j2,j3,j4,j5,j6,j7,j8,j9,k0,k1,k2,k3,k4,k5,k6,k7,k8,k9,l0,l1,l2,l3,l4,l5,l6,l7,l8,l9,m0,m1,m2,m3,m4,m5,m6,m7,m8,m9,n0,n1,n2,n3,n4,n5,n6,n7,n8,n9,o0,o1,o2,o3,o4,o5,o6,o7,o8,o9,p0,p1,p2,p3,p4,p5,p6,p7,p8,p9,q0] 0 = [a,.unk,.unk,.unk,.unk,.unk,.unk,h,i,j,.unk,.unk,.unk,.unk,.unk,.unk,.unk,.unk,.unk,.unk,.unk,.unk,.unk,.unk,.unk,.unk,.unk,.unk,.unk,.unk,.unk,.unk,.unk,.unk,.unk,.unk,.unk,.unk,.unk,.unk,.unk,.unk,.unk,.unk,.unk,.unk,.unk,.unk,.unk,.unk,.unk,.unk,.unk,.unk,.unk,.unk,.unk,.unk,.unk,.unk,.unk,.unk,.unk,.unk,.unk,.unk,.unk,.unk,.unk,.unk,.unk,.unk,.unk,.unk,.unk,.unk,.unk,.unk,.unk,.unk,.unk,.unk,.unk,.unk,.unk,.unk,.unk,.unk,.unk,.unk,.unk,.unk,.unk,.unk,.unk,.unk,.unk,.unk,.unk,.unk,.unk,.unk,.unk,.unk,.unk,.unk,.unk,.unk,.unk,.unk,.unk,.unk,.unk,.unk,.unk,.unk,.unk,.unk,.unk,.unk,.unk,.unk,.unk,.unk,.unk,.unk,.unk,.unk,.unk,.unk,.unk,.unk,.unk,.unk,.unk,.unk,.unk,.unk,.unk,.unk,.unk,.unk,.unk,.unk,.unk,.unk,.unk,.unk,.unk,.unk,.unk,.unk,.unk,.unk,.unk,.unk,.unk,.unk,.unk,.unk,.unk,.unk,.unk,.unk,.unk,.unk,.unk,.unk,.unk,.unk,.unk,.unk,.unk,.unk,.unk,.unk,.unk,.unk,.unk,.unk,.unk,.unk,.unk,.unk,.unk,.unk,.unk] := rfl
@[go_sem] theorem ks108_3 (a b c d e f g h i j k l m n o p q r s t u v w x y z a0 a1 a2 a3 a4 a5 a6 a7 a8 a9 b0 b1 b2 b3 b4 b5 b6 b7 b8 b9 c0 c1 c2 c3 c4 c5 c6 c7 c8 c9 d0 d1 d2 d3 d4 d5 d6 d7 d8 d9 e0 e1 e2 e3 e4 e5 e6 e7 e8 e9 f0 f1 f2 f3 f4 f5 f6 f7 f8 f9 g0 g1 g2 g3 g4 g5 g6 g7 g8 g9 h0 h1 h2 h3 h4 h5 h6 h7 h8 h9 i0 i1 i2 i3 i4 i5 i6 i7 i8 i9 j0 j1 j2 j3 j4 j5 j6 j7 j8 j9 k0 k1 k2 k3 k4 k5 k6 k7 k8 k9 l0 l1 l2 l3 l4 l5 l6 l7 l8 l9 m0 m1 m2 m3 m4 m5 m6 m7 m8 m9 n0 n1 n2 n3 n4 n5 n6 n7 n8 n9 o0 o1 o2 o3 o4 o5 o6 o7 o8 o9 p0 p1 p2 p3 p4 p5 p6 p7 p8 p9 q0 : AV) : keepS [0,7,8,9,12] [a,b,c,d,e,f,g,h,i,j,k,l,m,n,o,p,q,r,s,t,u,v,w,x,y,z,a0,a1,a2,a3,a4,a5,a6,a7,a8,a9,b0,b1,b2,b3,b4,b5,b6,b7,b8,b9,c0,c1,c2,c3,c4,c5,c6,c7,c8,c9,d0,d1,d2,d3,d4,d5,d6,d7,d8,d9,e0,e1,e2,e3,e4,e5,e6,e7,e8,e9,f0,f1,f2,f3,f4,f5,f6,f7,f8,f9,g0,g1,g2,g3,g4,g5,g6,g7,g8,g9,h0,h1,h2,h3,h4,h5,h6,h7,h8,h9,i0,i1,i2,i3,i4,i5,i6,i7,i8,i9,j0,j1,j2,j3,j4,j5,j6,j7,j8,j9,k0,k1,k2,k3,k4,k5,k6,k7,k8,k9,l0,l1,l2,l3,l4,l5,l6,l7,l8,l9,m0,m1,m2,m3,m4,m5,m6,m7,m8,m9,n0,n1,n2,n3,n4,n5,n6,n7,n8,n9,o0,o1,o2,o3,o4,o5,o6,o7,o8,o9,p0,p1,p2,p3,p4,p5,p6,p7,p8,p9,q0] 0 = [a,.unk,.unk,.unk,.unk,.unk,.unk,h,i,j,.unk,.unk,m,.unk,.unk,.unk,.unk,.unk,.unk,.unk,.unk,.unk,.unk,.unk,.unk,.unk,.unk,.unk,.unk,.unk,.unk,.unk,.unk,.unk,.unk,.unk,.unk,.unk,.unk,.unk,.unk,.unk,.unk,.unk,.unk,.unk,.unk,.unk,.unk,.unk,.unk,.unk,.unk,.unk,.unk,.unk,.unk,.unk,.unk,.unk,.unk,.unk,.unk,.unk,.unk,.unk,.unk,.unk,.unk,.unk,.unk,.unk,.unk,.unk,.unk,.unk,.unk,.unk,.unk,.unk,.unk,.unk,.unk,.unk,.unk,.unk,.unk,.unk,.unk,.unk,.unk,.unk,.unk,.unk,.unk,.unk,.unk,.unk,.unk,.unk,.unk,.unk,.unk,.unk,.unk,.unk,.unk,.unk,.unk,.unk,.unk,.unk,.unk,.unk,.unk,.unk,.unk,.unk,.unk,.unk,.unk,.unk,.unk,.unk,.unk,.unk,.unk,.unk,.unk,.unk,.unk,.unk,.unk,.unk,.unk,.unk,.unk,.unk,.unk,.unk,.unk,.unk,.unk,.unk,.unk,.unk,.unk,.unk,.unk,.unk,.unk,.unk,.unk,.unk,.unk,.unk,.unk,.unk,.unk,.unk,.unk,.unk,.unk,.unk,.unk,.unk,.unk,.unk,.unk,.unk,.unk,.unk,.unk,.unk,.unk,.unk,.unk,.unk,.unk,.unk,.unk,.unk,.unk,.unk,.unk,.unk,.unk] := rfl
@[go_sem] theorem ks108_4 (a b c d e f g h i j k l m n o p q r s t u v w x y z a0 a1 a2 a3 a4 a5 a6 a7 a8 a9 b0 b1 b2 b3 b4 b5 b6 b7 b8 b9 c0 c1 c2 c3 c4 c5 c6 c7 c8 c9 d0 d1 d2 d3 d4 d5 d6 d7 d8 d9 e0 e1 e2 e3 e4 e5 e6 e7 e8 e9 f0 f1 f2 f3 f4 f5 f6 f7 f8 f9 g0 g1 g2 g3 g4 g5 g6 g7 g8 g9 h0 h1 h2 h3 h4 h5 h6 h7 h8 h9 i0 i1 i2 i3 i4 i5 i6 i7 i8 i9 j0 j1 j2 j3 j4 j5 j6 j7 j8 j9 k0 k1 k2 k3 k4 k5 k6 k7 k8 k9 l0 l1 l2 l3 l4 l5 l6 l7 l8 l9 m0 m1 m2 m3 m4 m5 m6 m7 m8 m9 n0 n1 n2 n3 n4 n5 n6 n7 n8 n9 o0 o1 o2 o3 o4 o5 o6 o7 o8 o9 p0 p1 p2 p3 p4 p5 p6 p7 p8 p9 q0 : AV) : keepS [8,9] [a,b,c,d,e,f,g,h,i,j,k,l,m,n,o,p,q,r,s,t,u,v,w,x,y,z,a0,a1,a2,a3,a4,a5,a6,a7,a8,a9,b0,b1,b2,b3,b4,b5,b6,b7,b8,b9,c0,c1,c2,c3,c4,c5,c6,c7,c8,c9,d0,d1,d2,d3,d4,d5,d6,d7,d8,d9,e0,e1,e2,e3,e4,e5,e6,e7,e8,e9,f0,f1,f2,f3,f4,f5,f6,f7,f8,f9,g0,g1,g2,g3,g4,g5,g6,g7,g8,g9,h0,h1,h2,h3,h4,h5,h6,h7,h8,h9,i0,i1,i2,i3,i4,i5,i6,i7,i8,i9,j0,j1,j2,j3,j4,j5,j6,j7,j8,j9,k0,k1,k2,k3,k4,k5,k6,k7,k8,k9,l0,l1,l2,l3,l4,l5,l6,l7,l8,l9,m0,m1,m2,m3,m4,m5,m6,m7,m8,m9,n0,n1,n2,n3,n4,n5,n6,n7,n8,n9,o0,o1,o2,o3,o4,o5,o6,o7,o8,o9,p0,p1,p2,p3,p4,p5,p6,p7,p8,p9,q0] 0 = [.unk,.unk,.unk,.unk,.unk,.unk,.unk,.unk,i,j,.unk,.unk,.unk,.unk,.unk,.unk,.unk,.unk,.unk,.unk,.unk,.unk,.unk,.unk,.unk,.unk,.unk,.unk,.unk,.unk,.unk,.unk,.unk,.unk,.unk,.unk,.unk,.unk,.unk,.unk,.unk,.unk,.unk,.unk,.unk,.unk,.unk,.unk,.unk,.unk,.unk,.unk,.unk,.unk,.unk,.unk,.unk,.unk,.unk,.unk,.unk,.unk,.unk,.unk,.unk,.unk,.unk,.unk,.unk,.unk,.unk,.unk,.unk,.unk,.unk,.unk,.unk,.unk,.unk,.unk,.unk,.unk,.unk,.unk,.unk,.unk,.unk,.unk,.unk,.unk,.unk,.unk,.unk,.unk,.unk,.unk,.unk,.unk,.unk,.unk,.unk,.unk,.unk,.unk,.unk,.unk,.unk,.unk,.unk,.unk,.unk,.unk,.unk,.unk,.unk,.unk,.unk,.unk,.unk,.unk,.unk,.unk,.unk,.unk,.unk,.unk,.unk,.unk,.unk,.unk,.unk,.unk,.unk,.unk,.unk,.unk,.unk,.unk,.unk,.unk,.unk,.unk,.unk,.unk,.unk,.unk,.unk,.unk,.unk,.unk,.unk,.unk,.unk,.unk,.unk,.unk,.unk,.unk,.unk,.unk,.unk,.unk,.unk,.unk,.unk,.unk,.unk,.unk,.unk,.unk,.unk,.unk,.unk,.unk,.unk,.unk,.unk,.unk,.unk,.unk,.unk,.unk,.unk,.unk,.unk,.unk,.unk] := rfl
@[go_sem] theorem ks108_5 (a b c d e f g h i j k l m n o p q r s t u v w x y z a0 a1 a2 a3 a4 a5 a6 a7 a8 a9 b0 b1 b2 b3 b4 b5 b6 b7 b8 b9 c0 c1 c2 c3 c4 c5 c6 c7 c8 c9 d0 d1 d2 d3 d4 d5 d6 d7 d8 d9 e0 e1 e2 e3 e4 e5 e6 e7 e8 e9 f0 f1 f2 f3 f4 f5 f6 f7 f8 f9 g0 g1 g2 g3 g4 g5 g6 g7 g8 g9 h0 h1 h2 h3 h4 h5 h6 h7 h8 h9 i0 i1 i2 i3 i4 i5 i6 i7 i8 i9 j0 j1 j2 j3 j4 j5 j6 j7 j8 j9 k0 k1 k2 k3 k4 k5 k6 k7 k8 k9 l0 l1 l2 l3 l4 l5 l6 l7 l8 l9 m0 m1 m2 m3 m4 m5 m6 m7 m8 m9 n0 n1 n2 n3 n4 n5 n6 n7 n8 n9 o0 o1 o2 o3 o4 o5 o6 o7 o8 o9 p0 p1 p2 p3 p4 p5 p6 p7 p8 p9 q0 : AV) : keepS [0,7,8,9,14,15] [a,b,c,d,e,f,g,h,i,j,k,l,m,n,o,p,q,r,s,t,u,v,w,x,y,z,a0,a1,a2,a3,a4,a5,a6,a7,a8,a9,b0,b1,b2,b3,b4,b5,b6,b7,b8,b9,c0,c1,c2,c3,c4,c5,c6,c7,c8,c9,d0,d1,d2,d3,d4,d5,d6,d7,d8,d9,e0,e1,e2,e3,e4,e5,e6,e7,e8,e9,f0,f1,f2,f3,f4,f5,f6,f7,f8,f9,g0,g1,g2,g3,g4,g5,g6,g7,g8,g9,h0,h1,h2,h3,h4,h5,h6,h7,h8,h9,i0,i1,i2,i3,i4,i5,i6,i7,i8,i9,j0,j1,j2,j3,j4,j5,j6,j7,j8,j9,k0,k1,k2,k3,k4,k5,k6,k7,k8,k9,l0,l1,l2,l3,l4,l5,l6,l7,l8,l9,m0,m1,m2,m3,m4,m5,m6,m7,m8,m9,n0,n1,n2,n3,n4,n5,n6,n7,n8,n9,o0,o1,o2,o3,o4,o5,o6,o7,o8,o9,p0,p1,p2,p3,p4,p5,p6,p7,p8,p9,q0] 0 = [a,.unk,.unk,.unk,.unk,.unk,.unk,h,i,j,.unk,.unk,.unk,.unk,o,p,.unk,.unk,.unk,.unk,.unk,.unk,.unk,.unk,.unk,.unk,.unk,.unk,.unk,.unk,.unk,.unk,.unk,.unk,.unk,.unk,.unk,.unk,.unk,.unk,.unk,.unk,.unk,.unk,.unk,.unk,.unk,.unk,.unk,.unk,.unk,.unk,.unk,.unk,.unk,.unk,.unk,.unk,.unk,.unk,.unk,.unk,.unk,.unk,.unk,.unk,.unk,.unk,.unk,.unk,.unk,.unk,.unk,.unk,.unk,.unk,.unk,.unk,.unk,.unk,.unk,.unk,.unk,.unk,.unk,.unk,.unk,.unk,.unk,.unk,.unk,.unk,.unk,.unk,.unk,.unk,.unk,.unk,.unk,.unk,.unk,.unk,.unk,.unk,.unk,.unk,.unk,.unk,.unk,.unk,.unk,.unk,.unk,.unk,.unk,.unk,.unk,.unk,.unk,.unk,.unk,.unk,.unk,.unk,.unk,.unk,.unk,.unk,.unk,.unk,.unk,.unk,.unk,.unk,.unk,.unk,.unk,.unk,.unk,.unk,.unk,.unk,.unk,.unk,.unk,.unk,.unk,.unk,.unk,.unk,.unk,.unk,.unk,.unk,.unk,.unk,.unk,.unk,.unk,.unk,.unk,.unk,.unk,.unk,.unk,.unk,.unk,.unk,.unk,.unk,.unk,.unk,.unk,.unk,.unk,.unk,.unk,.unk,.unk,.unk,.unk,.unk,.unk,.unk,.unk,.unk,.unk] := rfl
@[go_sem] theorem ks108_6 (a b c d e f g h i j k l m n o p q r s t u v w x y z a0 a1 a2 a3 a4 a5 a6 a7 a8 a9 b0 b1 b2 b3 b4 b5 b6 b7 b8 b9 c0 c1 c2 c3 c4 c5 c6 c7 c8 c9 d0 d1 d2 d3 d4 d5 d6 d7 d8 d9 e0 e1 e2 e3 e4 e5 e6 e7 e8 e9 f0 f1 f2 f3 f4 f5 f6 f7 f8 f9 g0 g1 g2 g3 g4 g5 g6 g7 g8 g9 h0 h1 h2 h3 h4 h5 h6 h7 h8 h9 i0 i1 i2 i3 i4 i5 i6 i7 i8 i9 j0 j1 j2 j3 j4 j5 j6 j7 j8 j9 k0 k1 k2 k3 k4 k5 k6 k7 k8 k9 l0 l1 l2 l3 l4 l5 l6 l7 l8 l9 m0 m1 m2 m3 m4 m5 m6 m7 m8 m9 n0 n1 n2 n3 n4 n5 n6 n7 n8 n9 o0 o1 o2 o3 o4 o5 o6 o7 o8 o9 p0 p1 p2 p3 p4 p5 p6 p7 p8 p9 q0 : AV) : keepS [0,7,8,9,14,15,16] [a,b,c,d,e,f,g,h,i,j,k,l,m,n,o,p,q,r,s,t,u,v,w,x,y,z,a0,a1,a2,a3,a4,a5,a6,a7,a8,a9,b0,b1,b2,b3,b4,b5,b6,b7,b8,b9,c0,c1,c2,c3,c4,c5,c6,c7,c8,c9,d0,d1,d2,d3,d4,d5,d6,d7,d8,d9,e0,e1,e2,e3,e4,e5,e6,e7,e8,e9,f0,f1,f2,f3,f4,f5,f6,f7,f8,f9,g0,g1,g2,g3,g4,g5,g6,g7,g8,g9,h0,h1,h2,h3,h4,h5,h6,h7,h8,h9,i0,i1,i2,i3,i4,i5,i6,i7,i8,i9,j0,j1,j2,j3,j4,j5,j6,j7,j8,j9,k0,k1,k2,k3,k4,k5,k6,k7,k8,k9,l0,l1,l2,l3,l4,l5,l6,l7,l8,l9,m0,m1,m2,m3,m4,m5,m6,m7,m8,m9,n0,n1,n2,n3,n4,n5,n6,n7,n8,n9,o0,o1,o2,o3,o4,o5,o6,o7,o8,o9,p0,p1,p2,p3,p4,p5,p6,p7,p8,p9,q0] 0 = [a,.unk,.unk,.unk,.unk,.unk,.unk,h,i,j,.unk,.unk,.unk,.unk,o,p,q,.unk,.unk,.unk,.unk,.unk,.unk,.unk,.unk,.unk,.unk,.unk,.unk,.unk,.unk,.unk,.unk,.unk,.unk,.unk,.unk,.unk,.unk,.unk,.unk,.unk,.unk,.unk,.unk,.unk,.unk,.unk,.unk,.unk,.unk,.unk,.unk,.unk,.unk,.unk,.unk,.unk,.unk,.unk,.unk,.unk,.unk,.unk,.unk,.unk,.unk,.unk,.unk,.unk,.unk,.unk,.unk,.unk,.unk,.unk,.unk,.unk,.unk,.unk,.unk,.unk,.unk,.unk,.unk,.unk,.unk,.unk,.unk,.unk,.unk,.unk,.unk,.unk,.unk,.unk,.unk,.unk,.unk,.unk,.unk,.unk,.unk,.unk,.unk,.unk,.unk,.unk,.unk,.unk,.unk,.unk,.unk,.unk,.unk,.unk,.unk,.unk,.unk,.unk,.unk,.unk,.unk,.unk,.unk,.unk,.unk,.unk,.unk,.unk,.unk,.unk,.unk,.unk,.unk,.unk,.unk,.unk,.unk,.unk,.unk,.unk,.unk,.unk,.unk,.unk,.unk,.unk,.unk,.unk,.unk,.unk,.unk,.unk,.unk,.unk,.unk,.unk,.unk,.unk,.unk,.unk,.unk,.unk,.unk,.unk,.unk,.unk,.unk,.unk,.unk,.unk,.unk,.unk,.unk,.unk,.unk,.unk,.unk,.unk,.unk,.unk,.unk,.unk,.unk,.unk,.unk] := rfl
/-- strings.IndexRune -/
def bd108 : C :=
 (.seq (.reg [⟨some 4, none, .mv (.c (.d (.int .i64 0))), .none⟩])
 (.block 0 (.seq (.reg [⟨some 161, none, .mv (.s 1), .none⟩,
 ⟨some 162, none, .bin .leq (.c (.d (.int .i32 0))) (.s 161), .none⟩,
 ⟨some 163, none, .mv (.s 162), .none⟩,
 ⟨some 164, some (163, true), .mv (.s 1), .none⟩,
 ⟨some 165, some (163, true), .bin .lss (.s 164) (.c (.d (.int .i32 128))), .none⟩,
 ⟨some 166, none, .pick (.s 163) (.s 165) (.c (.d (.bool false))), .none⟩,
 ⟨some 160, none, .mv (.s 166), .none⟩])
 (.cond (.s 160)
 (.seq (.reg [⟨some 167, none, .mv (.s 0), .none⟩,
 ⟨some 168, none, .mv (.s 1), .none⟩,
 ⟨some 169, none, .cvi .u8 (.s 168), .none⟩,
 ⟨some 170, none, .call 68 [.s 167, .s 169] 2, .none⟩,
 ⟨some 4, none, .mv (.s 170), .none⟩])
 (.ret none))
 (.seq (.reg [⟨some 172, none, .mv (.s 1), .none⟩,
 ⟨some 173, none, .bin .eql (.s 172) (.c (.d (.int .i32 65533))), .none⟩,
 ⟨some 171, none, .mv (.s 173), .none⟩])
 (.cond (.s 171)
 (.seq (.seq (.reg [⟨some 174, none, .mv (.s 0), .none⟩,
 ⟨some 175, none, .bad, .none⟩])
 (.block 9 (.loop [] lp108_0)))
 (.seq (.reg [⟨some 4, none, .mv (.c (.d (.int .i64 (-1)))), .none⟩])
 (.ret none)))
 (.seq (.reg [⟨some 184, none, .mv (.s 1), .none⟩,
 ⟨some 185, none, .call 109 [.s 184] 2, .none⟩,
 ⟨some 186, none, .un .not (.s 185), .none⟩,
 ⟨some 183, none, .mv (.s 186), .none⟩])
 (.cond (.s 183)
 (.seq (.reg [⟨some 4, none, .mv (.c (.d (.int .i64 (-1)))), .none⟩])
 (.ret none))
 (.scp (.seq (.reg [⟨some 17, none, .mv (.s 1), .none⟩,
 ⟨some 18, none, .bad, .none⟩,
 ⟨some 7, none, .mv (.s 18), .none⟩])
 (.seq (.reg [⟨some 19, none, .mv (.s 7), .none⟩,
 ⟨some 20, none, .lens (.s 19), .none⟩,
 ⟨some 21, none, .bin .sub (.s 20) (.c (.d (.int .i64 1))), .none⟩,
 ⟨some 8, none, .mv (.s 21), .none⟩])
 (.seq (.reg [⟨some 22, none, .mv (.s 8), .none⟩,
 ⟨some 9, none, .mv (.s 22), .none⟩])
 (.seq (.reg [⟨some 10, none, .mv (.c (.d (.int .i64 0))), .none⟩])
 (.seq (.block 1 (.loop [0, 7, 8, 9] lp108_1))
 (.seq (.seq (.reg [⟨some 4, none, .mv (.c (.d (.int .i64 (-1)))), .none⟩])
 (.ret none))
 (.seq .skip
 (.seq (.cond (.c (.d (.bool true)))
 (.seq (.reg [⟨some 99, none, .mv (.s 0), .none⟩,
 ⟨some 100, none, .mv (.s 9), .none⟩,
 ⟨some 101, none, .mv (.s 8), .none⟩,
 ⟨some 102, none, .bin .sub (.s 100) (.s 101), .none⟩,
 ⟨some 103, none, .ssl (.s 99) (some (.s 102)) none, .none⟩,
 ⟨some 104, none, .mv (.s 1), .none⟩,
 ⟨some 105, none, .bad, .none⟩,
 ⟨some 106, none, .bad, .none⟩,
 ⟨some 13, none, .mv (.s 106), .none⟩])
 (.seq (.reg [⟨some 107, none, .mv (.s 13), .none⟩,
 ⟨some 108, none, .bin .geq (.s 107) (.c (.d (.int .i64 0))), .none⟩])
 (.cond (.s 108)
 (.seq (.reg [⟨some 109, none, .mv (.s 9), .none⟩,
 ⟨some 110, none, .mv (.s 13), .none⟩,
 ⟨some 111, none, .bin .add (.s 109) (.s 110), .none⟩,
 ⟨some 112, none, .mv (.s 8), .none⟩,
 ⟨some 113, none, .bin .sub (.s 111) (.s 112), .none⟩,
 ⟨some 4, none, .mv (.s 113), .none⟩])
 (.ret none))
 .skip)))
 (.scp (.seq (.reg [⟨some 114, none, .mv (.s 7), .none⟩,
 ⟨some 115, none, .mv (.s 8), .none⟩,
 ⟨some 116, none, .sti (.s 114) (.s 115), .none⟩,
 ⟨some 14, none, .mv (.s 116), .none⟩])
 (.seq (.reg [⟨some 117, none, .mv (.s 7), .none⟩,
 ⟨some 118, none, .mv (.s 8), .none⟩,
 ⟨some 119, none, .bin .sub (.s 118) (.c (.d (.int .i64 1))), .none⟩,
 ⟨some 120, none, .sti (.s 117) (.s 119), .none⟩,
 ⟨some 15, none, .mv (.s 120), .none⟩])
 (.seq .skip
 (.block 5 (.loop [0, 7, 8, 9, 14, 15] lp108_3)))))))
 (.ann [] (.seq (.reg [⟨some 4, none, .mv (.c (.d (.int .i64 (-1)))), .none⟩])
 (.ret none))))))))))))))))))))
def ir108 : F := { n := 187, res := [.tmp 4], body := bd108 }
@[go_sem] theorem n108 : ir108.n = 187 := rfl
@[go_sem] theorem r108 : ir108.res = [.tmp 4] := rfl
@[go_sem] theorem b108 : ir108.body = bd108 := rfl
/-- unicode/utf8.ValidRune -/
def bd109 : C :=
 (.seq (.reg [⟨some 2, none, .mv (.c (.d (.bool false))), .none⟩])
 (.seq (.block 0 (.seq (.reg [⟨some 4, none, .mv (.s 0), .none⟩,
 ⟨some 5, none, .bin .leq (.c (.d (.int .i32 0))) (.s 4), .none⟩,
 ⟨some 6, none, .mv (.s 5), .none⟩,
 ⟨some 7, some (6, true), .mv (.s 0), .none⟩,
 ⟨some 8, some (6, true), .bin .lss (.s 7) (.c (.d (.int .i32 55296))), .none⟩,
 ⟨some 9, none, .pick (.s 6) (.s 8) (.c (.d (.bool false))), .none⟩,
 ⟨some 3, none, .mv (.s 9), .none⟩])
 (.cond (.s 3)
 (.seq (.reg [⟨some 2, none, .mv (.c (.d (.bool true))), .none⟩])
 (.ret none))
 (.seq (.reg [⟨some 11, none, .mv (.s 0), .none⟩,
 ⟨some 12, none, .bin .lss (.c (.d (.int .i32 57343))) (.s 11), .none⟩,
 ⟨some 13, none, .mv (.s 12), .none⟩,
 ⟨some 14, some (13, true), .mv (.s 0), .none⟩,
 ⟨some 15, some (13, true), .bin .leq (.s 14) (.c (.d (.int .i32 1114111))), .none⟩,
 ⟨some 16, none, .pick (.s 13) (.s 15) (.c (.d (.bool false))), .none⟩,
 ⟨some 10, none, .mv (.s 16), .none⟩])
 (.cond (.s 10)
 (.seq (.reg [⟨some 2, none, .mv (.c (.d (.bool true))), .none⟩])
 (.ret none))
 .skip)))))
 (.seq (.reg [⟨some 2, none, .mv (.c (.d (.bool false))), .none⟩])
 (.ret none))))
def ir109 : F := { n := 17, res := [.tmp 2], body := bd109 }
@[go_sem] theorem n109 : ir109.n = 17 := rfl
@[go_sem] theorem r109 : ir109.res = [.tmp 2] := rfl
@[go_sem] theorem b109 : ir109.body = bd109 := rfl
/-- internal/bytealg.Cutover -/
def bd110 : C :=
 (.seq (.reg [⟨some 2, none, .mv (.c (.d (.int .i64 0))), .none⟩])
 (.seq (.reg [⟨some 3, none, .mv (.s 0), .none⟩,
 ⟨some 4, none, .bin .add (.s 3) (.c (.d (.int .i64 16))), .none⟩,
 ⟨some 5, none, .bin .quo (.s 4) (.c (.d (.int .i64 8))), .none⟩,
 ⟨some 2, none, .mv (.s 5), .none⟩])
 (.ret none)))
def ir110 : F := { n := 6, res := [.tmp 2], body := bd110 }
@[go_sem] theorem n110 : ir110.n = 6 := rfl
@[go_sem] theorem r110 : ir110.res = [.tmp 2] := rfl
@[go_sem] theorem b110 : ir110.body = bd110 := rfl

def irf : FuncId → Option F
 | 3 => some ir3
 | 4 => some ir4
 | 5 => some ir5
 | 6 => some ir6
 | 7 => some ir7
 | 8 => some ir8
 | 9 => some ir9
 | 10 => some ir10
 | 11 => some ir11
 | 12 => some ir12
 | 13 => some ir13
 | 14 => some ir14
 | 15 => some ir15
 | 16 => some ir16
 | 17 => some ir17
 | 18 => some ir18
 | 19 => some ir19
 | 20 => some ir20
 | 21 => some ir21
 | 22 => some ir22
 | 24 => some ir24
 | 25 => some ir25
 | 26 => some ir26
 | 27 => some ir27
 | 28 => some ir28
 | 29 => some ir29
 | 30 => some ir30
 | 31 => some ir31
 | 32 => some ir32
 | 33 => some ir33
 | 34 => some ir34
 | 35 => some ir35
 | 36 => some ir36
 | 37 => some ir37
 | 39 => some ir39
 | 40 => some ir40
 | 41 => some ir41
 | 42 => some ir42
 | 43 => some ir43
 | 44 => some ir44
 | 45 => some ir45
 | 46 => some ir46
 | 47 => some ir47
 | 48 => some ir48
 | 49 => some ir49
 | 50 => some ir50
 | 51 => some ir51
 | 52 => some ir52
 | 53 => some ir53
 | 54 => some ir54
 | 55 => some ir55
 | 56 => some ir56
 | 57 => some ir57
 | 58 => some ir58
 | 59 => some ir59
 | 60 => some ir60
 | 61 => some ir61
 | 64 => some ir64
 | 65 => some ir65
 | 66 => some ir66
 | 67 => some ir67
 | 69 => some ir69
 | 70 => some ir70
 | 71 => some ir71
 | 72 => some ir72
 | 73 => some ir73
 | 84 => some ir84
 | 85 => some ir85
 | 87 => some ir87
 | 88 => some ir88
 | 89 => some ir89
 | 96 => some ir96
 | 97 => some ir97
 | 99 => some ir99
 | 100 => some ir100
 | 101 => some ir101
 | 102 => some ir102
 | 103 => some ir103
 | 104 => some ir104
 | 105 => some ir105
 | 106 => some ir106
 | 107 => some ir107
 | 108 => some ir108
 | 109 => some ir109
 | 110 => some ir110
 | _ => none
def ir : IR := ⟨irf, natOr (natSF spanE spanS 38 39) (natOr (natSC 23 2 16) (natOr (natIB 68) (natNo)))⟩
theorem nat_eq : ir.nat = natOr (natSF spanE spanS 38 39) (natOr (natSC 23 2 16) (natOr (natIB 68) (natNo))) := rfl
theorem c3 : cF Tryz.prog 3 = some ir3.strip := by kernel_rfl
theorem k3 : ir3.body.okD = true := by kernel_rfl
theorem c4 : cF Tryz.prog 4 = some ir4.strip := by kernel_rfl
theorem k4 : ir4.body.okD = true := by kernel_rfl
theorem c5 : cF Tryz.prog 5 = some ir5.strip := by kernel_rfl
theorem k5 : ir5.body.okD = true := by kernel_rfl
theorem c6 : cF Tryz.prog 6 = some ir6.strip := by kernel_rfl
theorem k6 : ir6.body.okD = true := by kernel_rfl
theorem c7 : cF Tryz.prog 7 = some ir7.strip := by kernel_rfl
theorem k7 : ir7.body.okD = true := by kernel_rfl
theorem c8 : cF Tryz.prog 8 = some ir8.strip := by kernel_rfl
theorem k8 : ir8.body.okD = true := by kernel_rfl
theorem c9 : cF Tryz.prog 9 = some ir9.strip := by kernel_rfl
theorem k9 : ir9.body.okD = true := by kernel_rfl
theorem c10 : cF Tryz.prog 10 = some ir10.strip := by kernel_rfl
theorem k10 : ir10.body.okD = true := by kernel_rfl
theorem c11 : cF Tryz.prog 11 = some ir11.strip := by kernel_rfl
theorem k11 : ir11.body.okD = true := by kernel_rfl
theorem c12 : cF Tryz.prog 12 = some ir12.strip := by kernel_rfl
theorem k12 : ir12.body.okD = true := by kernel_rfl
theorem c13 : cF Tryz.prog 13 = some ir13.strip := by kernel_rfl
theorem k13 : ir13.body.okD = true := by kernel_rfl
theorem c14 : cF Tryz.prog 14 = some ir14.strip := by kernel_rfl
theorem k14 : ir14.body.okD = true := by kernel_rfl
theorem c15 : cF Tryz.prog 15 = some ir15.strip := by kernel_rfl
theorem k15 : ir15.body.okD = true := by kernel_rfl
theorem c16 : cF Tryz.prog 16 = some ir16.strip := by kernel_rfl
theorem k16 : ir16.body.okD = true := by kernel_rfl
theorem c17 : cF Tryz.prog 17 = some ir17.strip := by kernel_rfl
theorem k17 : ir17.body.okD = true := by kernel_rfl
theorem c18 : cF Tryz.prog 18 = some ir18.strip := by kernel_rfl
theorem k18 : ir18.body.okD = true := by kernel_rfl
theorem c19 : cF Tryz.prog 19 = some ir19.strip := by kernel_rfl
theorem k19 : ir19.body.okD = true := by kernel_rfl
theorem c20 : cF Tryz.prog 20 = some ir20.strip := by kernel_rfl
theorem k20 : ir20.body.okD = true := by kernel_rfl
theorem c21 : cF Tryz.prog 21 = some ir21.strip := by kernel_rfl
theorem k21 : ir21.body.okD = true := by kernel_rfl
theorem c22 : cF Tryz.prog 22 = some ir22.strip := by kernel_rfl
theorem k22 : ir22.body.okD = true := by kernel_rfl
theorem c24 : cF Tryz.prog 24 = some ir24.strip := by kernel_rfl
theorem k24 : ir24.body.okD = true := by kernel_rfl
theorem c25 : cF Tryz.prog 25 = some ir25.strip := by kernel_rfl
theorem k25 : ir25.body.okD = true := by kernel_rfl
theorem c26 : cF Tryz.prog 26 = some ir26.strip := by kernel_rfl
theorem k26 : ir26.body.okD = true := by kernel_rfl
theorem c27 : cF Tryz.prog 27 = some ir27.strip := by kernel_rfl
theorem k27 : ir27.body.okD = true := by kernel_rfl
theorem c28 : cF Tryz.prog 28 = some ir28.strip := by kernel_rfl
theorem k28 : ir28.body.okD = true := by kernel_rfl
theorem c29 : cF Tryz.prog 29 = some ir29.strip := by kernel_rfl
theorem k29 : ir29.body.okD = true := by kernel_rfl
theorem c30 : cF Tryz.prog 30 = some ir30.strip := by kernel_rfl
theorem k30 : ir30.body.okD = true := by kernel_rfl
theorem c31 : cF Tryz.prog 31 = some ir31.strip := by kernel_rfl
theorem k31 : ir31.body.okD = true := by kernel_rfl
theorem c32 : cF Tryz.prog 32 = some ir32.strip := by kernel_rfl
theorem k32 : ir32.body.okD = true := by kernel_rfl
theorem c33 : cF Tryz.prog 33 = some ir33.strip := by kernel_rfl
theorem k33 : ir33.body.okD = true := by kernel_rfl
theorem c34 : cF Tryz.prog 34 = some ir34.strip := by kernel_rfl
theorem k34 : ir34.body.okD = true := by kernel_rfl
theorem c35 : cF Tryz.prog 35 = some ir35.strip := by kernel_rfl
theorem k35 : ir35.body.okD = true := by kernel_rfl
theorem c36 : cF Tryz.prog 36 = some ir36.strip := by kernel_rfl
theorem k36 : ir36.body.okD = true := by kernel_rfl
theorem c37 : cF Tryz.prog 37 = some ir37.strip := by kernel_rfl
theorem k37 : ir37.body.okD = true := by kernel_rfl
theorem c39 : cF Tryz.prog 39 = some ir39.strip := by kernel_rfl
theorem k39 : ir39.body.okD = true := by kernel_rfl
theorem c40 : cF Tryz.prog 40 = some ir40.strip := by kernel_rfl
theorem k40 : ir40.body.okD = true := by kernel_rfl
theorem c41 : cF Tryz.prog 41 = some ir41.strip := by kernel_rfl
theorem k41 : ir41.body.okD = true := by kernel_rfl
theorem c42 : cF Tryz.prog 42 = some ir42.strip := by kernel_rfl
theorem k42 : ir42.body.okD = true := by kernel_rfl
theorem c43 : cF Tryz.prog 43 = some ir43.strip := by kernel_rfl
theorem k43 : ir43.body.okD = true := by kernel_rfl
theorem c44 : cF Tryz.prog 44 = some ir44.strip := by kernel_rfl
theorem k44 : ir44.body.okD = true := by kernel_rfl
theorem c45 : cF Tryz.prog 45 = some ir45.strip := by kernel_rfl
theorem k45 : ir45.body.okD = true := by kernel_rfl
theorem c46 : cF Tryz.prog 46 = some ir46.strip := by kernel_rfl
theorem k46 : ir46.body.okD = true := by kernel_rfl
theorem c47 : cF Tryz.prog 47 = some ir47.strip := by kernel_rfl
theorem k47 : ir47.body.okD = true := by kernel_rfl
theorem c48 : cF Tryz.prog 48 = some ir48.strip := by kernel_rfl
theorem k48 : ir48.body.okD = true := by kernel_rfl
theorem c49 : cF Tryz.prog 49 = some ir49.strip := by kernel_rfl
theorem k49 : ir49.body.okD = true := by kernel_rfl
theorem c50 : cF Tryz.prog 50 = some ir50.strip := by kernel_rfl
theorem k50 : ir50.body.okD = true := by kernel_rfl
theorem c51 : cF Tryz.prog 51 = some ir51.strip := by kernel_rfl
theorem k51 : ir51.body.okD = true := by kernel_rfl
theorem c52 : cF Tryz.prog 52 = some ir52.strip := by kernel_rfl
theorem k52 : ir52.body.okD = true := by kernel_rfl
theorem c53 : cF Tryz.prog 53 = some ir53.strip := by kernel_rfl
theorem k53 : ir53.body.okD = true := by kernel_rfl
theorem c54 : cF Tryz.prog 54 = some ir54.strip := by kernel_rfl
theorem k54 : ir54.body.okD = true := by kernel_rfl
theorem c55 : cF Tryz.prog 55 = some ir55.strip := by kernel_rfl
theorem k55 : ir55.body.okD = true := by kernel_rfl
theorem c56 : cF Tryz.prog 56 = some ir56.strip := by kernel_rfl
theorem k56 : ir56.body.okD = true := by kernel_rfl
theorem c57 : cF Tryz.prog 57 = some ir57.strip := by kernel_rfl
theorem k57 : ir57.body.okD = true := by kernel_rfl
theorem c58 : cF Tryz.prog 58 = some ir58.strip := by kernel_rfl
theorem k58 : ir58.body.okD = true := by kernel_rfl
theorem c59 : cF Tryz.prog 59 = some ir59.strip := by kernel_rfl
theorem k59 : ir59.body.okD = true := by kernel_rfl
theorem c60 : cF Tryz.prog 60 = some ir60.strip := by kernel_rfl
theorem k60 : ir60.body.okD = true := by kernel_rfl
theorem c61 : cF Tryz.prog 61 = some ir61.strip := by kernel_rfl
theorem k61 : ir61.body.okD = true := by kernel_rfl
theorem c64 : cF Tryz.prog 64 = some ir64.strip := by kernel_rfl
theorem k64 : ir64.body.okD = true := by kernel_rfl
theorem c65 : cF Tryz.prog 65 = some ir65.strip := by kernel_rfl
theorem k65 : ir65.body.okD = true := by kernel_rfl
theorem c66 : cF Tryz.prog 66 = some ir66.strip := by kernel_rfl
theorem k66 : ir66.body.okD = true := by kernel_rfl
theorem c67 : cF Tryz.prog 67 = some ir67.strip := by kernel_rfl
theorem k67 : ir67.body.okD = true := by kernel_rfl
theorem c69 : cF Tryz.prog 69 = some ir69.strip := by kernel_rfl
theorem k69 : ir69.body.okD = true := by kernel_rfl
theorem c70 : cF Tryz.prog 70 = some ir70.strip := by kernel_rfl
theorem k70 : ir70.body.okD = true := by kernel_rfl
theorem c71 : cF Tryz.prog 71 = some ir71.strip := by kernel_rfl
theorem k71 : ir71.body.okD = true := by kernel_rfl
theorem c72 : cF Tryz.prog 72 = some ir72.strip := by kernel_rfl
theorem k72 : ir72.body.okD = true := by kernel_rfl
theorem c73 : cF Tryz.prog 73 = some ir73.strip := by kernel_rfl
theorem k73 : ir73.body.okD = true := by kernel_rfl
theorem c84 : cF Tryz.prog 84 = some ir84.strip := by kernel_rfl
theorem k84 : ir84.body.okD = true := by kernel_rfl
theorem c85 : cF Tryz.prog 85 = some ir85.strip := by kernel_rfl
theorem k85 : ir85.body.okD = true := by kernel_rfl
theorem c87 : cF Tryz.prog 87 = some ir87.strip := by kernel_rfl
theorem k87 : ir87.body.okD = true := by kernel_rfl
theorem c88 : cF Tryz.prog 88 = some ir88.strip := by kernel_rfl
theorem k88 : ir88.body.okD = true := by kernel_rfl
theorem c89 : cF Tryz.prog 89 = some ir89.strip := by kernel_rfl
theorem k89 : ir89.body.okD = true := by kernel_rfl
theorem c96 : cF Tryz.prog 96 = some ir96.strip := by kernel_rfl
theorem k96 : ir96.body.okD = true := by kernel_rfl
theorem c97 : cF Tryz.prog 97 = some ir97.strip := by kernel_rfl
theorem k97 : ir97.body.okD = true := by kernel_rfl
theorem c99 : cF Tryz.prog 99 = some ir99.strip := by kernel_rfl
theorem k99 : ir99.body.okD = true := by kernel_rfl
theorem c100 : cF Tryz.prog 100 = some ir100.strip := by kernel_rfl
theorem k100 : ir100.body.okD = true := by kernel_rfl
theorem c101 : cF Tryz.prog 101 = some ir101.strip := by kernel_rfl
theorem k101 : ir101.body.okD = true := by kernel_rfl
theorem c102 : cF Tryz.prog 102 = some ir102.strip := by kernel_rfl
theorem k102 : ir102.body.okD = true := by kernel_rfl
theorem c103 : cF Tryz.prog 103 = some ir103.strip := by kernel_rfl
theorem k103 : ir103.body.okD = true := by kernel_rfl
theorem c104 : cF Tryz.prog 104 = some ir104.strip := by kernel_rfl
theorem k104 : ir104.body.okD = true := by kernel_rfl
theorem c105 : cF Tryz.prog 105 = some ir105.strip := by kernel_rfl
theorem k105 : ir105.body.okD = true := by kernel_rfl
theorem c106 : cF Tryz.prog 106 = some ir106.strip := by kernel_rfl
theorem k106 : ir106.body.okD = true := by kernel_rfl
theorem c107 : cF Tryz.prog 107 = some ir107.strip := by kernel_rfl
theorem k107 : ir107.body.okD = true := by kernel_rfl
theorem c108 : cF Tryz.prog 108 = some ir108.strip := by kernel_rfl
theorem k108 : ir108.body.okD = true := by kernel_rfl
theorem c109 : cF Tryz.prog 109 = some ir109.strip := by kernel_rfl
theorem k109 : ir109.body.okD = true := by kernel_rfl
theorem c110 : cF Tryz.prog 110 = some ir110.strip := by kernel_rfl
theorem k110 : ir110.body.okD = true := by kernel_rfl
theorem tab : Tab Tryz.prog ir := by
 refine ⟨by kernel_rfl, fun f fn h => ?_, natOr_snd (Tryz.sortN) (natOr_snd (Tryz.cloneSN) (natOr_snd (Tryz.ixbN) (natNo_snd)))⟩
 change irf f = some fn at h
 unfold irf at h
 split at h
 · cases h; exact ⟨c3, k3⟩
 · cases h; exact ⟨c4, k4⟩
 · cases h; exact ⟨c5, k5⟩
 · cases h; exact ⟨c6, k6⟩
 · cases h; exact ⟨c7, k7⟩
 · cases h; exact ⟨c8, k8⟩
 · cases h; exact ⟨c9, k9⟩
 · cases h; exact ⟨c10, k10⟩
 · cases h; exact ⟨c11, k11⟩
 · cases h; exact ⟨c12, k12⟩
 · cases h; exact ⟨c13, k13⟩
 · cases h; exact ⟨c14, k14⟩
 · cases h; exact ⟨c15, k15⟩
 · cases h; exact ⟨c16, k16⟩
 · cases h; exact ⟨c17, k17⟩
 · cases h; exact ⟨c18, k18⟩
 · cases h; exact ⟨c19, k19⟩
 · cases h; exact ⟨c20, k20⟩
 · cases h; exact ⟨c21, k21⟩
 · cases h; exact ⟨c22, k22⟩
 · cases h; exact ⟨c24, k24⟩
 · cases h; exact ⟨c25, k25⟩
 · cases h; exact ⟨c26, k26⟩
 · cases h; exact ⟨c27, k27⟩
 · cases h; exact ⟨c28, k28⟩
 · cases h; exact ⟨c29, k29⟩
 · cases h; exact ⟨c30, k30⟩
 · cases h; exact ⟨c31, k31⟩
 · cases h; exact ⟨c32, k32⟩
 · cases h; exact ⟨c33, k33⟩
 · cases h; exact ⟨c34, k34⟩
 · cases h; exact ⟨c35, k35⟩
 · cases h; exact ⟨c36, k36⟩
 · cases h; exact ⟨c37, k37⟩
 · cases h; exact ⟨c39, k39⟩
 · cases h; exact ⟨c40, k40⟩
 · cases h; exact ⟨c41, k41⟩
 · cases h; exact ⟨c42, k42⟩
 · cases h; exact ⟨c43, k43⟩
 · cases h; exact ⟨c44, k44⟩
 · cases h; exact ⟨c45, k45⟩
 · cases h; exact ⟨c46, k46⟩
 · cases h; exact ⟨c47, k47⟩
 · cases h; exact ⟨c48, k48⟩
 · cases h; exact ⟨c49, k49⟩
 · cases h; exact ⟨c50, k50⟩
 · cases h; exact ⟨c51, k51⟩
 · cases h; exact ⟨c52, k52⟩
 · cases h; exact ⟨c53, k53⟩
 · cases h; exact ⟨c54, k54⟩
 · cases h; exact ⟨c55, k55⟩
 · cases h; exact ⟨c56, k56⟩
 · cases h; exact ⟨c57, k57⟩
 · cases h; exact ⟨c58, k58⟩
 · cases h; exact ⟨c59, k59⟩
 · cases h; exact ⟨c60, k60⟩
 · cases h; exact ⟨c61, k61⟩
 · cases h; exact ⟨c64, k64⟩
 · cases h; exact ⟨c65, k65⟩
 · cases h; exact ⟨c66, k66⟩
 · cases h; exact ⟨c67, k67⟩
 · cases h; exact ⟨c69, k69⟩
 · cases h; exact ⟨c70, k70⟩
 · cases h; exact ⟨c71, k71⟩
 · cases h; exact ⟨c72, k72⟩
 · cases h; exact ⟨c73, k73⟩
 · cases h; exact ⟨c84, k84⟩
 · cases h; exact ⟨c85, k85⟩
 · cases h; exact ⟨c87, k87⟩
 · cases h; exact ⟨c88, k88⟩
 · cases h; exact ⟨c89, k89⟩
 · cases h; exact ⟨c96, k96⟩
 · cases h; exact ⟨c97, k97⟩
 · cases h; exact ⟨c99, k99⟩
 · cases h; exact ⟨c100, k100⟩
 · cases h; exact ⟨c101, k101⟩
 · cases h; exact ⟨c102, k102⟩
 · cases h; exact ⟨c103, k103⟩
 · cases h; exact ⟨c104, k104⟩
 · cases h; exact ⟨c105, k105⟩
 · cases h; exact ⟨c106, k106⟩
 · cases h; exact ⟨c107, k107⟩
 · cases h; exact ⟨c108, k108⟩
 · cases h; exact ⟨c109, k109⟩
 · cases h; exact ⟨c110, k110⟩
 · cases h
end Go.Proofs.YtplnioclkacgkaaGreatDoor.Ir
