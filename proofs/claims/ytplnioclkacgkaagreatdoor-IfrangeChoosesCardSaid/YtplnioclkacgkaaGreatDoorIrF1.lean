/- The texts of the functions in the small language. Printed by a program of my own (irgen.py). -/
import Derived.Test.YtplnioclkacgkaaGreatDoorEvSim
import Derived.Test.YtplnioclkacgkaaGreatDoorProg
import Derived.Test.YtplnioclkacgkaaGreatDoorEvNatF
import Derived.Test.YtplnioclkacgkaaGreatDoorShSrt
import Derived.Test.YtplnioclkacgkaaGreatDoorShCln
import Derived.Test.YtplnioclkacgkaaGreatDoorShIxb
namespace Go.Proofs.YtplnioclkacgkaaGreatDoor.Ir
open Go Go.Ev
set_option maxRecDepth 10000

def lb3_0 : C :=
 (.seq (.reg [⟨some 51, none, .bin .lss (.s 50) (.s 49), .none⟩])
 (.seq (.cond (.s 51)
 .skip
 (.exit 0 (some [3, 9, 10, 11, 12, 13])))
 (.seq (.block 1 (.seq (.reg [⟨some 52, none, .is (.s 48) (.s 50) 2, .none⟩,
 ⟨some 53, none, .ld (.s 52) 2 true, .none⟩,
 ⟨some 15, none, .alloc 32 [.int .i64 0, .int .i64 0], .none⟩,
 ⟨none, none, .st (.s 15) (.s 53) 2, .none⟩])
 (.seq (.seq (.reg [⟨some 54, none, .ld (.s 15) 2 true, .none⟩,
 ⟨some 55, none, .call 8 [.s 54] 2, .none⟩])
 (.cond (.s 55)
 (.reg [⟨some 56, none, .mv (.s 13), .none⟩,
 ⟨some 57, none, .fa (.s 15) 1, .none⟩,
 ⟨some 58, none, .ld (.s 57) 1 false, .none⟩,
 ⟨some 59, none, .fa (.s 15) 0, .none⟩,
 ⟨some 60, none, .ld (.s 59) 1 false, .none⟩,
 ⟨some 61, none, .bin .sub (.s 58) (.s 60), .none⟩,
 ⟨some 62, none, .cvi .u64 (.s 61), .none⟩,
 ⟨some 63, none, .bin .add (.s 56) (.s 62), .none⟩,
 ⟨some 13, none, .mv (.s 63), .none⟩])
 .skip))
 (.ann [3, 9, 10, 11, 12, 13, 48, 49, 50] (.seq (.reg [⟨some 64, none, .mv (.s 13), .none⟩,
 ⟨some 65, none, .bin .gtr (.s 64) (.c (.d (.int .u64 4611686018427387903))), .none⟩])
 (.cond (.s 65)
 (.reg [⟨some 13, none, .mv (.c (.d (.int .u64 4611686018427387903))), .none⟩])
 .skip))))))
 (.reg [⟨some 66, none, .bin .add (.s 50) (.c (.d (.int .i64 1))), .none⟩,
 ⟨some 50, none, .mv (.s 66), .none⟩]))))
def lp3_0 : C := lb3_0
theorem u3_0 (c : Ev.Callee) (l : Ev.Looper) (s : St) : evC c l lp3_0 s = evC c l lb3_0 s := rfl
abbrev st3_0 (m : Nat) (s3 s9 s10 s11 s12 s13 s48 s49 s50 : AV) (h : Heap) : St := ⟨m,[.unk,.unk,.unk,s3,.unk,.unk,.unk,.unk,.unk,s9,s10,s11,s12,s13,.unk,.unk,.unk,.unk,.unk,.unk,.unk,.unk,.unk,.unk,.unk,.unk,.unk,.unk,.unk,.unk,.unk,.unk,.unk,.unk,.unk,.unk,.unk,.unk,.unk,.unk,.unk,.unk,.unk,.unk,.unk,.unk,.unk,.unk,s48,s49,s50,.unk,.unk,.unk,.unk,.unk,.unk,.unk,.unk,.unk,.unk,.unk,.unk,.unk,.unk,.unk,.unk,.unk,.unk,.unk,.unk,.unk,.unk,.unk,.unk,.unk,.unk,.unk,.unk,.unk,.unk,.unk,.unk,.unk,.unk,.unk,.unk,.unk,.unk,.unk,.unk,.unk,.unk,.unk,.unk,.unk,.unk,.unk,.unk,.unk,.unk,.unk,.unk,.unk,.unk,.unk,.unk,.unk,.unk,.unk],h⟩
@[go_sem] theorem ks3_0 (a b c d e f g h i j k l m n o p q r s t u v w x y z a0 a1 a2 a3 a4 a5 a6 a7 a8 a9 b0 b1 b2 b3 b4 b5 b6 b7 b8 b9 c0 c1 c2 c3 c4 c5 c6 c7 c8 c9 d0 d1 d2 d3 d4 d5 d6 d7 d8 d9 e0 e1 e2 e3 e4 e5 e6 e7 e8 e9 f0 f1 f2 f3 f4 f5 f6 f7 f8 f9 g0 g1 g2 g3 g4 g5 g6 g7 g8 g9 h0 h1 h2 h3 h4 h5 h6 h7 h8 h9 i0 i1 i2 i3 : AV) : keepS [3,9,10,11,12,13,48,49,50] [a,b,c,d,e,f,g,h,i,j,k,l,m,n,o,p,q,r,s,t,u,v,w,x,y,z,a0,a1,a2,a3,a4,a5,a6,a7,a8,a9,b0,b1,b2,b3,b4,b5,b6,b7,b8,b9,c0,c1,c2,c3,c4,c5,c6,c7,c8,c9,d0,d1,d2,d3,d4,d5,d6,d7,d8,d9,e0,e1,e2,e3,e4,e5,e6,e7,e8,e9,f0,f1,f2,f3,f4,f5,f6,f7,f8,f9,g0,g1,g2,g3,g4,g5,g6,g7,g8,g9,h0,h1,h2,h3,h4,h5,h6,h7,h8,h9,i0,i1,i2,i3] 0 = [.unk,.unk,.unk,d,.unk,.unk,.unk,.unk,.unk,j,k,l,m,n,.unk,.unk,.unk,.unk,.unk,.unk,.unk,.unk,.unk,.unk,.unk,.unk,.unk,.unk,.unk,.unk,.unk,.unk,.unk,.unk,.unk,.unk,.unk,.unk,.unk,.unk,.unk,.unk,.unk,.unk,.unk,.unk,.unk,.unk,c2,c3,c4,.unk,.unk,.unk,.unk,.unk,.unk,.unk,.unk,.unk,.unk,.unk,.unk,.unk,.unk,.unk,.unk,.unk,.unk,.unk,.unk,.unk,.unk,.unk,.unk,.unk,.unk,.unk,.unk,.unk,.unk,.unk,.unk,.unk,.unk,.unk,.unk,.unk,.unk,.unk,.unk,.unk,.unk,.unk,.unk,.unk,.unk,.unk,.unk,.unk,.unk,.unk,.unk,.unk,.unk,.unk,.unk,.unk,.unk,.unk] := rfl
@[go_sem] theorem ks3_1 (a b c d e f g h i j k l m n o p q r s t u v w x y z a0 a1 a2 a3 a4 a5 a6 a7 a8 a9 b0 b1 b2 b3 b4 b5 b6 b7 b8 b9 c0 c1 c2 c3 c4 c5 c6 c7 c8 c9 d0 d1 d2 d3 d4 d5 d6 d7 d8 d9 e0 e1 e2 e3 e4 e5 e6 e7 e8 e9 f0 f1 f2 f3 f4 f5 f6 f7 f8 f9 g0 g1 g2 g3 g4 g5 g6 g7 g8 g9 h0 h1 h2 h3 h4 h5 h6 h7 h8 h9 i0 i1 i2 i3 : AV) : keepS [3,9,10,11,12,13] [a,b,c,d,e,f,g,h,i,j,k,l,m,n,o,p,q,r,s,t,u,v,w,x,y,z,a0,a1,a2,a3,a4,a5,a6,a7,a8,a9,b0,b1,b2,b3,b4,b5,b6,b7,b8,b9,c0,c1,c2,c3,c4,c5,c6,c7,c8,c9,d0,d1,d2,d3,d4,d5,d6,d7,d8,d9,e0,e1,e2,e3,e4,e5,e6,e7,e8,e9,f0,f1,f2,f3,f4,f5,f6,f7,f8,f9,g0,g1,g2,g3,g4,g5,g6,g7,g8,g9,h0,h1,h2,h3,h4,h5,h6,h7,h8,h9,i0,i1,i2,i3] 0 = [.unk,.unk,.unk,d,.unk,.unk,.unk,.unk,.unk,j,k,l,m,n,.unk,.unk,.unk,.unk,.unk,.unk,.unk,.unk,.unk,.unk,.unk,.unk,.unk,.unk,.unk,.unk,.unk,.unk,.unk,.unk,.unk,.unk,.unk,.unk,.unk,.unk,.unk,.unk,.unk,.unk,.unk,.unk,.unk,.unk,.unk,.unk,.unk,.unk,.unk,.unk,.unk,.unk,.unk,.unk,.unk,.unk,.unk,.unk,.unk,.unk,.unk,.unk,.unk,.unk,.unk,.unk,.unk,.unk,.unk,.unk,.unk,.unk,.unk,.unk,.unk,.unk,.unk,.unk,.unk,.unk,.unk,.unk,.unk,.unk,.unk,.unk,.unk,.unk,.unk,.unk,.unk,.unk,.unk,.unk,.unk,.unk,.unk,.unk,.unk,.unk,.unk,.unk,.unk,.unk,.unk,.unk] := rfl
/-- spence/spencelaw09.IfrangeChooses -/
def bd3 : C :=
 (.seq (.reg [⟨some 8, none, .mv (.c (.d (.bool false))), .none⟩])
 (.seq (.seq (.reg [⟨some 16, none, .call 4 [] 2, .none⟩,
 ⟨some 17, none, .un .not (.s 16), .none⟩])
 (.cond (.s 17)
 (.seq (.reg [⟨some 8, none, .mv (.c (.d (.bool false))), .none⟩])
 (.ret none))
 .skip))
 (.seq (.seq (.reg [⟨some 18, none, .mv (.s 0), .none⟩,
 ⟨some 19, none, .lens (.s 18), .none⟩,
 ⟨some 20, none, .bin .gtr (.s 19) (.c (.d (.int .i64 600))), .none⟩,
 ⟨some 21, none, .mv (.s 20), .none⟩,
 ⟨some 22, some (21, false), .mv (.s 1), .none⟩,
 ⟨some 23, some (21, false), .lens (.s 22), .none⟩,
 ⟨some 24, some (21, false), .bin .gtr (.s 23) (.c (.d (.int .i64 200))), .none⟩,
 ⟨some 25, none, .pick (.s 21) (.c (.d (.bool true))) (.s 24), .none⟩,
 ⟨some 26, none, .mv (.s 25), .none⟩,
 ⟨some 27, some (26, false), .mv (.s 2), .none⟩,
 ⟨some 28, some (26, false), .lens (.s 27), .none⟩,
 ⟨some 29, some (26, false), .bin .gtr (.s 28) (.c (.d (.int .i64 100))), .none⟩,
 ⟨some 30, none, .pick (.s 26) (.c (.d (.bool true))) (.s 29), .none⟩])
 (.cond (.s 30)
 (.seq (.reg [⟨some 8, none, .mv (.c (.d (.bool true))), .none⟩])
 (.ret none))
 .skip))
 (.seq (.reg [⟨some 31, none, .mv (.s 0), .none⟩,
 ⟨some 32, none, .mv (.s 1), .none⟩,
 ⟨some 33, none, .mv (.s 2), .none⟩,
 ⟨some 34, none, .mv (.s 3), .none⟩,
 ⟨some 35, none, .call 5 [.s 31, .s 32, .s 33, .s 34] 2, .none⟩,
 ⟨some 9, none, .alloc 25 [.int .i64 0, .nils], .cells [(1, 2, false)]⟩,
 ⟨none, none, .st (.s 9) (.s 35) 2, .none⟩])
 (.seq (.reg [⟨some 37, none, .mv (.s 0), .none⟩,
 ⟨some 38, none, .mv (.s 1), .none⟩,
 ⟨some 39, none, .mv (.s 2), .none⟩,
 ⟨some 40, none, .mv (.s 3), .none⟩,
 ⟨some 41, none, .call 6 [.s 37, .s 38, .s 39, .s 40] 2, .none⟩,
 ⟨some 36, none, .mv (.s 41), .none⟩,
 ⟨some 42, none, .ext (.s 36) 0, .none⟩,
 ⟨some 43, none, .ext (.s 36) 1, .none⟩,
 ⟨some 10, none, .mv (.s 42), .none⟩,
 ⟨some 11, none, .mv (.s 43), .none⟩])
 (.seq (.reg [⟨some 44, none, .mv (.s 10), .none⟩,
 ⟨some 45, none, .mv (.s 11), .none⟩,
 ⟨some 46, none, .mv (.s 3), .none⟩,
 ⟨some 47, none, .call 7 [.s 44, .s 45, .s 46] 2, .none⟩,
 ⟨some 12, none, .mv (.s 47), .none⟩])
 (.seq (.reg [⟨some 13, none, .mv (.c (.d (.int .u64 0))), .none⟩])
 (.seq (.seq (.reg [⟨some 48, none, .mv (.s 12), .none⟩,
 ⟨some 49, none, .len (.s 48), .none⟩,
 ⟨some 50, none, .mv (.c (.d (.int .i64 0))), .none⟩])
 (.block 0 (.loop [3, 9, 10, 11, 12, 13, 48, 49, 50] lp3_0)))
 (.seq (.reg [⟨some 67, none, .fa (.s 9) 0, .none⟩,
 ⟨some 68, none, .ld (.s 67) 1 false, .none⟩,
 ⟨some 69, none, .mv (.s 10), .none⟩,
 ⟨some 70, none, .bin .eql (.s 68) (.s 69), .none⟩,
 ⟨some 71, none, .mv (.s 70), .none⟩,
 ⟨some 72, some (71, true), .fa (.s 9) 1, .none⟩,
 ⟨some 73, some (71, true), .ld (.s 72) 1 false, .none⟩,
 ⟨some 74, some (71, true), .mv (.s 11), .none⟩,
 ⟨some 75, some (71, true), .call 9 [.s 73, .s 74] 2, .none⟩,
 ⟨some 76, none, .pick (.s 71) (.s 75) (.c (.d (.bool false))), .none⟩,
 ⟨some 77, none, .mv (.s 76), .none⟩,
 ⟨some 78, some (77, true), .ld (.s 9) 2 true, .none⟩,
 ⟨some 79, some (77, true), .mv (.s 3), .none⟩,
 ⟨some 80, some (77, true), .call 10 [.s 78, .s 79] 2, .none⟩,
 ⟨some 81, some (77, true), .mv (.s 12), .none⟩,
 ⟨some 82, some (77, true), .call 9 [.s 80, .s 81] 2, .none⟩,
 ⟨some 83, none, .pick (.s 77) (.s 82) (.c (.d (.bool false))), .none⟩,
 ⟨some 84, none, .mv (.s 83), .none⟩,
 ⟨some 85, some (84, true), .ld (.s 9) 2 true, .none⟩,
 ⟨some 86, some (84, true), .call 11 [.s 85] 2, .none⟩,
 ⟨some 87, some (84, true), .mv (.s 10), .none⟩,
 ⟨some 88, some (84, true), .bin .eql (.s 87) (.c (.d (.int .i64 206))), .none⟩,
 ⟨some 89, some (84, true), .mv (.s 88), .none⟩,
 ⟨some 90, some (89, true), .mv (.s 11), .none⟩,
 ⟨some 91, some (89, true), .len (.s 90), .none⟩,
 ⟨some 92, some (89, true), .bin .gtr (.s 91) (.c (.d (.int .i64 1))), .none⟩,
 ⟨some 93, some (84, true), .pick (.s 89) (.s 92) (.c (.d (.bool false))), .none⟩,
 ⟨some 94, some (84, true), .beq false (.s 86) (.s 93), .none⟩,
 ⟨some 95, none, .pick (.s 84) (.s 94) (.c (.d (.bool false))), .none⟩,
 ⟨some 96, none, .mv (.s 95), .none⟩,
 ⟨some 97, some (96, true), .ld (.s 9) 2 true, .none⟩,
 ⟨some 98, some (96, true), .mv (.s 3), .none⟩,
 ⟨some 99, some (96, true), .call 12 [.s 97, .s 98] 2, .none⟩,
 ⟨some 100, some (96, true), .cvi .u64 (.s 99), .none⟩,
 ⟨some 101, some (96, true), .mv (.s 13), .none⟩,
 ⟨some 102, some (96, true), .bin .eql (.s 100) (.s 101), .none⟩,
 ⟨some 103, none, .pick (.s 96) (.s 102) (.c (.d (.bool false))), .none⟩,
 ⟨some 104, none, .mv (.s 103), .none⟩,
 ⟨some 105, some (104, true), .mv (.s 3), .none⟩,
 ⟨some 106, some (104, true), .call 13 [.s 105] 2, .none⟩,
 ⟨some 107, some (104, true), .fld (.s 106) 0 1 false, .none⟩,
 ⟨some 108, some (104, true), .bin .eql (.s 107) (.c (.d (.int .i64 200))), .none⟩,
 ⟨some 109, none, .pick (.s 104) (.s 108) (.c (.d (.bool false))), .none⟩,
 ⟨some 8, none, .mv (.s 109), .none⟩])
 (.ret none))))))))))
def ir3 : F := { n := 110, res := [.tmp 8], body := bd3 }
@[go_sem] theorem n3 : ir3.n = 110 := rfl
@[go_sem] theorem r3 : ir3.res = [.tmp 8] := rfl
@[go_sem] theorem b3 : ir3.body = bd3 := rfl
/-- spence/spencelaw09.awake -/
def bd4 : C :=
 (.seq (.reg [⟨some 0, none, .mv (.c (.d (.bool false))), .none⟩])
 (.seq (.reg [⟨some 2, none, .call 5 [.c (.d (.str [98, 121, 116, 101, 115, 61, 48, 45, 52, 44, 50, 45, 57])), .c (.d (.str [])), .c (.d (.str [118])), .c (.d (.int .i64 100))] 2, .none⟩,
 ⟨some 1, none, .alloc 25 [.int .i64 0, .nils], .cells [(1, 2, false)]⟩,
 ⟨none, none, .st (.s 1) (.s 2) 2, .none⟩])
 (.seq (.reg [⟨some 3, none, .fa (.s 1) 0, .none⟩,
 ⟨some 4, none, .ld (.s 3) 1 false, .none⟩,
 ⟨some 5, none, .bin .eql (.s 4) (.c (.d (.int .i64 206))), .none⟩,
 ⟨some 6, none, .mv (.s 5), .none⟩,
 ⟨some 7, some (6, true), .fa (.s 1) 1, .none⟩,
 ⟨some 8, some (6, true), .ld (.s 7) 1 false, .none⟩,
 ⟨some 9, some (6, true), .len (.s 8), .none⟩,
 ⟨some 10, some (6, true), .bin .eql (.s 9) (.c (.d (.int .i64 1))), .none⟩,
 ⟨some 11, none, .pick (.s 6) (.s 10) (.c (.d (.bool false))), .none⟩,
 ⟨some 12, none, .mv (.s 11), .none⟩,
 ⟨some 13, some (12, true), .fa (.s 1) 1, .none⟩,
 ⟨some 14, some (12, true), .ld (.s 13) 1 false, .none⟩,
 ⟨some 15, some (12, true), .is (.s 14) (.c (.d (.int .i64 0))) 2, .none⟩,
 ⟨some 16, some (12, true), .ld (.s 15) 2 true, .none⟩,
 ⟨some 17, some (12, true), .build [.int .i64 0, .int .i64 0] [(1, (1, .c (.d (.int .i64 10))))], .none⟩,
 ⟨some 18, some (12, true), .eqs false [1, 1] (.s 16) (.s 17), .none⟩,
 ⟨some 19, none, .pick (.s 12) (.s 18) (.c (.d (.bool false))), .none⟩,
 ⟨some 0, none, .mv (.s 19), .none⟩])
 (.ret none))))
def ir4 : F := { n := 20, res := [.tmp 0], body := bd4 }
@[go_sem] theorem n4 : ir4.n = 20 := rfl
@[go_sem] theorem r4 : ir4.res = [.tmp 0] := rfl
@[go_sem] theorem b4 : ir4.body = bd4 := rfl
/-- spence/ifrange.Choose -/
def bd5 : C :=
 (.seq (.reg [⟨some 8, none, .alloc 25 [.int .i64 0, .nils], .cells [(1, 2, false)]⟩])
 (.seq (.reg [⟨some 11, none, .mv (.s 0), .none⟩,
 ⟨some 12, none, .call 14 [.s 11] 2, .none⟩,
 ⟨some 9, none, .mv (.s 12), .none⟩])
 (.seq (.seq (.reg [⟨some 13, none, .mv (.s 9), .none⟩,
 ⟨some 14, none, .len (.s 13), .none⟩,
 ⟨some 15, none, .bin .eql (.s 14) (.c (.d (.int .i64 0))), .none⟩,
 ⟨some 16, none, .mv (.s 15), .none⟩,
 ⟨some 17, some (16, false), .mv (.s 1), .none⟩,
 ⟨some 18, some (16, false), .mv (.s 2), .none⟩,
 ⟨some 19, some (16, false), .call 15 [.s 17, .s 18] 2, .none⟩,
 ⟨some 20, some (16, false), .un .not (.s 19), .none⟩,
 ⟨some 21, none, .pick (.s 16) (.c (.d (.bool true))) (.s 20), .none⟩])
 (.cond (.s 21)
 (.seq (.reg [⟨some 22, none, .mv (.s 3), .none⟩,
 ⟨some 23, none, .call 13 [.s 22] 2, .none⟩,
 ⟨none, none, .st (.s 8) (.s 23) 2, .none⟩])
 (.ret none))
 .skip))
 (.seq (.reg [⟨some 24, none, .mv (.s 9), .none⟩,
 ⟨some 25, none, .mv (.s 3), .none⟩,
 ⟨some 26, none, .call 16 [.s 24, .s 25] 2, .none⟩,
 ⟨some 10, none, .mv (.s 26), .none⟩])
 (.seq (.block 0 (.seq (.reg [⟨some 28, none, .mv (.s 10), .none⟩,
 ⟨some 29, none, .len (.s 28), .none⟩,
 ⟨some 30, none, .bin .eql (.s 29) (.c (.d (.int .i64 0))), .none⟩,
 ⟨some 27, none, .mv (.s 30), .none⟩])
 (.cond (.s 27)
 (.seq (.reg [⟨some 31, none, .build [.int .i64 0, .nils] [(0, (1, .c (.d (.int .i64 416))))], .cells [(1, 2, false)]⟩,
 ⟨none, none, .st (.s 8) (.s 31) 2, .none⟩])
 (.ret none))
 (.seq (.reg [⟨some 33, none, .mv (.s 10), .none⟩,
 ⟨some 34, none, .call 17 [.s 33] 2, .none⟩,
 ⟨some 32, none, .mv (.s 34), .none⟩])
 (.cond (.s 32)
 (.reg [⟨some 35, none, .mv (.s 10), .none⟩,
 ⟨some 36, none, .call 18 [.s 35, .c (.d (.int .i64 0))] 2, .none⟩,
 ⟨some 10, none, .mv (.s 36), .none⟩])
 .skip)))))
 (.seq (.reg [⟨some 37, none, .mv (.s 10), .none⟩,
 ⟨some 38, none, .build [.int .i64 0, .nils] [(0, (1, .c (.d (.int .i64 206)))), (1, (1, .s 37))], .cells [(1, 2, false)]⟩,
 ⟨none, none, .st (.s 8) (.s 38) 2, .none⟩])
 (.ret none)))))))
def ir5 : F := { n := 39, res := [.cell 8 2 true], body := bd5 }
@[go_sem] theorem n5 : ir5.n = 39 := rfl
@[go_sem] theorem r5 : ir5.res = [.cell 8 2 true] := rfl
@[go_sem] theorem b5 : ir5.body = bd5 := rfl
def lb6_1 : C :=
 (.seq (.seq (.reg [⟨some 40, none, .mv (.s 14), .none⟩,
 ⟨some 41, none, .mv (.s 13), .none⟩,
 ⟨some 42, none, .bin .lss (.s 40) (.s 41), .none⟩])
 (.cond (.s 42)
 .skip
 (.exit 2 (some [12, 36, 37]))))
 (.seq (.block 3 (.seq (.drw [⟨some 45, none, .mv (.s 12), .none⟩,
 ⟨some 46, none, .mv (.s 13), .none⟩,
 ⟨some 47, none, .is (.s 45) (.s 46) 2, .none⟩,
 ⟨some 48, none, .fa (.s 47) 0, .none⟩,
 ⟨some 49, none, .ld (.s 48) 1 false, .none⟩,
 ⟨some 50, none, .mv (.s 12), .none⟩,
 ⟨some 51, none, .mv (.s 14), .none⟩,
 ⟨some 52, none, .is (.s 50) (.s 51) 2, .none⟩,
 ⟨some 53, none, .fa (.s 52) 1, .none⟩,
 ⟨some 54, none, .ld (.s 53) 1 false, .none⟩,
 ⟨some 55, none, .bin .lss (.s 49) (.s 54), .none⟩,
 ⟨some 56, none, .mv (.s 55), .none⟩,
 ⟨some 57, some (56, true), .mv (.s 12), .none⟩,
 ⟨some 58, some (56, true), .mv (.s 14), .none⟩,
 ⟨some 59, some (56, true), .is (.s 57) (.s 58) 2, .none⟩,
 ⟨some 60, some (56, true), .fa (.s 59) 0, .none⟩,
 ⟨some 61, some (56, true), .ld (.s 60) 1 false, .none⟩,
 ⟨some 62, some (56, true), .mv (.s 12), .none⟩,
 ⟨some 63, some (56, true), .mv (.s 13), .none⟩,
 ⟨some 64, some (56, true), .is (.s 62) (.s 63) 2, .none⟩,
 ⟨some 65, some (56, true), .fa (.s 64) 1, .none⟩,
 ⟨some 66, some (56, true), .ld (.s 65) 1 false, .none⟩,
 ⟨some 67, some (56, true), .bin .lss (.s 61) (.s 66), .none⟩,
 ⟨some 68, none, .pick (.s 56) (.s 67) (.c (.d (.bool false))), .none⟩]
 [[], [], [0, 1], [2], [3], [], [], [5, 6], [7], [8], [4, 9], [10], [11], [11], [12, 13, 11], [14, 11], [15, 11], [11], [11], [17, 18, 11], [19, 11], [20, 11], [16, 21, 11], [11, 22]] [])
 (.cond (.s 68)
 (.seq (.reg [⟨some 69, none, .mv (.s 12), .none⟩,
 ⟨some 70, none, .call 22 [.s 69, .c (.d (.int .i64 0))] 2, .none⟩,
 ⟨some 8, none, .mv (.c (.d (.int .i64 206))), .none⟩,
 ⟨some 9, none, .mv (.s 70), .none⟩])
 (.ret (some [8, 9])))
 .skip)))
 (.reg [⟨some 43, none, .mv (.s 14), .none⟩,
 ⟨some 44, none, .bin .add (.s 43) (.c (.d (.int .i64 1))), .none⟩,
 ⟨some 14, none, .mv (.s 44), .none⟩])))
def lp6_1 : C := lb6_1
theorem u6_1 (c : Ev.Callee) (l : Ev.Looper) (s : St) : evC c l lp6_1 s = evC c l lb6_1 s := rfl
abbrev st6_1 (m : Nat) (s12 s13 s14 s36 s37 : AV) (h : Heap) : St := ⟨m,[.unk,.unk,.unk,.unk,.unk,.unk,.unk,.unk,.unk,.unk,.unk,.unk,s12,s13,s14,.unk,.unk,.unk,.unk,.unk,.unk,.unk,.unk,.unk,.unk,.unk,.unk,.unk,.unk,.unk,.unk,.unk,.unk,.unk,.unk,.unk,s36,s37,.unk,.unk,.unk,.unk,.unk,.unk,.unk,.unk,.unk,.unk,.unk,.unk,.unk,.unk,.unk,.unk,.unk,.unk,.unk,.unk,.unk,.unk,.unk,.unk,.unk,.unk,.unk,.unk,.unk,.unk,.unk,.unk,.unk,.unk,.unk],h⟩
def lb6_0 : C :=
 (.seq (.reg [⟨some 38, none, .bin .lss (.s 37) (.s 36), .none⟩])
 (.seq (.cond (.s 38)
 .skip
 (.exit 0 (some [12])))
 (.seq (.block 1 (.seq (.reg [⟨some 39, none, .mv (.s 37), .none⟩,
 ⟨some 13, none, .mv (.s 39), .none⟩])
 (.seq (.reg [⟨some 14, none, .mv (.c (.d (.int .i64 0))), .none⟩])
 (.block 2 (.loop [12, 13, 14, 36, 37] lp6_1)))))
 (.reg [⟨some 71, none, .bin .add (.s 37) (.c (.d (.int .i64 1))), .none⟩,
 ⟨some 37, none, .mv (.s 71), .none⟩]))))
def lp6_0 : C := lb6_0
theorem u6_0 (c : Ev.Callee) (l : Ev.Looper) (s : St) : evC c l lp6_0 s = evC c l lb6_0 s := rfl
abbrev st6_0 (m : Nat) (s12 s36 s37 : AV) (h : Heap) : St := ⟨m,[.unk,.unk,.unk,.unk,.unk,.unk,.unk,.unk,.unk,.unk,.unk,.unk,s12,.unk,.unk,.unk,.unk,.unk,.unk,.unk,.unk,.unk,.unk,.unk,.unk,.unk,.unk,.unk,.unk,.unk,.unk,.unk,.unk,.unk,.unk,.unk,s36,s37,.unk,.unk,.unk,.unk,.unk,.unk,.unk,.unk,.unk,.unk,.unk,.unk,.unk,.unk,.unk,.unk,.unk,.unk,.unk,.unk,.unk,.unk,.unk,.unk,.unk,.unk,.unk,.unk,.unk,.unk,.unk,.unk,.unk,.unk,.unk],h⟩
@[go_sem] theorem ks6_0 (a b c d e f g h i j k l m n o p q r s t u v w x y z a0 a1 a2 a3 a4 a5 a6 a7 a8 a9 b0 b1 b2 b3 b4 b5 b6 b7 b8 b9 c0 c1 c2 c3 c4 c5 c6 c7 c8 c9 d0 d1 d2 d3 d4 d5 d6 d7 d8 d9 e0 e1 e2 e3 e4 e5 e6 : AV) : keepS [12,36,37] [a,b,c,d,e,f,g,h,i,j,k,l,m,n,o,p,q,r,s,t,u,v,w,x,y,z,a0,a1,a2,a3,a4,a5,a6,a7,a8,a9,b0,b1,b2,b3,b4,b5,b6,b7,b8,b9,c0,c1,c2,c3,c4,c5,c6,c7,c8,c9,d0,d1,d2,d3,d4,d5,d6,d7,d8,d9,e0,e1,e2,e3,e4,e5,e6] 0 = [.unk,.unk,.unk,.unk,.unk,.unk,.unk,.unk,.unk,.unk,.unk,.unk,m,.unk,.unk,.unk,.unk,.unk,.unk,.unk,.unk,.unk,.unk,.unk,.unk,.unk,.unk,.unk,.unk,.unk,.unk,.unk,.unk,.unk,.unk,.unk,b0,b1,.unk,.unk,.unk,.unk,.unk,.unk,.unk,.unk,.unk,.unk,.unk,.unk,.unk,.unk,.unk,.unk,.unk,.unk,.unk,.unk,.unk,.unk,.unk,.unk,.unk,.unk,.unk,.unk,.unk,.unk,.unk,.unk,.unk,.unk,.unk] := rfl
@[go_sem] theorem ks6_1 (a b c d e f g h i j k l m n o p q r s t u v w x y z a0 a1 a2 a3 a4 a5 a6 a7 a8 a9 b0 b1 b2 b3 b4 b5 b6 b7 b8 b9 c0 c1 c2 c3 c4 c5 c6 c7 c8 c9 d0 d1 d2 d3 d4 d5 d6 d7 d8 d9 e0 e1 e2 e3 e4 e5 e6 : AV) : keepS [12] [a,b,c,d,e,f,g,h,i,j,k,l,m,n,o,p,q,r,s,t,u,v,w,x,y,z,a0,a1,a2,a3,a4,a5,a6,a7,a8,a9,b0,b1,b2,b3,b4,b5,b6,b7,b8,b9,c0,c1,c2,c3,c4,c5,c6,c7,c8,c9,d0,d1,d2,d3,d4,d5,d6,d7,d8,d9,e0,e1,e2,e3,e4,e5,e6] 0 = [.unk,.unk,.unk,.unk,.unk,.unk,.unk,.unk,.unk,.unk,.unk,.unk,m,.unk,.unk,.unk,.unk,.unk,.unk,.unk,.unk,.unk,.unk,.unk,.unk,.unk,.unk,.unk,.unk,.unk,.unk,.unk,.unk,.unk,.unk,.unk,.unk,.unk,.unk,.unk,.unk,.unk,.unk,.unk,.unk,.unk,.unk,.unk,.unk,.unk,.unk,.unk,.unk,.unk,.unk,.unk,.unk,.unk,.unk,.unk,.unk,.unk,.unk,.unk,.unk,.unk,.unk,.unk,.unk,.unk,.unk,.unk,.unk] := rfl
@[go_sem] theorem ks6_2 (a b c d e f g h i j k l m n o p q r s t u v w x y z a0 a1 a2 a3 a4 a5 a6 a7 a8 a9 b0 b1 b2 b3 b4 b5 b6 b7 b8 b9 c0 c1 c2 c3 c4 c5 c6 c7 c8 c9 d0 d1 d2 d3 d4 d5 d6 d7 d8 d9 e0 e1 e2 e3 e4 e5 e6 : AV) : keepS [12,13,14,36,37] [a,b,c,d,e,f,g,h,i,j,k,l,m,n,o,p,q,r,s,t,u,v,w,x,y,z,a0,a1,a2,a3,a4,a5,a6,a7,a8,a9,b0,b1,b2,b3,b4,b5,b6,b7,b8,b9,c0,c1,c2,c3,c4,c5,c6,c7,c8,c9,d0,d1,d2,d3,d4,d5,d6,d7,d8,d9,e0,e1,e2,e3,e4,e5,e6] 0 = [.unk,.unk,.unk,.unk,.unk,.unk,.unk,.unk,.unk,.unk,.unk,.unk,m,n,o,.unk,.unk,.unk,.unk,.unk,.unk,.unk,.unk,.unk,.unk,.unk,.unk,.unk,.unk,.unk,.unk,.unk,.unk,.unk,.unk,.unk,b0,b1,.unk,.unk,.unk,.unk,.unk,.unk,.unk,.unk,.unk,.unk,.unk,.unk,.unk,.unk,.unk,.unk,.unk,.unk,.unk,.unk,.unk,.unk,.unk,.unk,.unk,.unk,.unk,.unk,.unk,.unk,.unk,.unk,.unk,.unk,.unk] := rfl
@[go_sem] theorem ks6_3 (a b c d e f g h i j k l m n o p q r s t u v w x y z a0 a1 a2 a3 a4 a5 a6 a7 a8 a9 b0 b1 b2 b3 b4 b5 b6 b7 b8 b9 c0 c1 c2 c3 c4 c5 c6 c7 c8 c9 d0 d1 d2 d3 d4 d5 d6 d7 d8 d9 e0 e1 e2 e3 e4 e5 e6 : AV) : keepS [8,9] [a,b,c,d,e,f,g,h,i,j,k,l,m,n,o,p,q,r,s,t,u,v,w,x,y,z,a0,a1,a2,a3,a4,a5,a6,a7,a8,a9,b0,b1,b2,b3,b4,b5,b6,b7,b8,b9,c0,c1,c2,c3,c4,c5,c6,c7,c8,c9,d0,d1,d2,d3,d4,d5,d6,d7,d8,d9,e0,e1,e2,e3,e4,e5,e6] 0 = [.unk,.unk,.unk,.unk,.unk,.unk,.unk,.unk,i,j,.unk,.unk,.unk,.unk,.unk,.unk,.unk,.unk,.unk,.unk,.unk,.unk,.unk,.unk,.unk,.unk,.unk,.unk,.unk,.unk,.unk,.unk,.unk,.unk,.unk,.unk,.unk,.unk,.unk,.unk,.unk,.unk,.unk,.unk,.unk,.unk,.unk,.unk,.unk,.unk,.unk,.unk,.unk,.unk,.unk,.unk,.unk,.unk,.unk,.unk,.unk,.unk,.unk,.unk,.unk,.unk,.unk,.unk,.unk,.unk,.unk,.unk,.unk] := rfl
/-- spence/spenceref04.Choose -/
def bd6 : C :=
 (.seq (.reg [⟨some 8, none, .mv (.c (.d (.int .i64 0))), .none⟩,
 ⟨some 9, none, .mv (.c (.d .nils)), .one 2 false⟩])
 (.seq (.reg [⟨some 16, none, .mv (.s 0), .none⟩,
 ⟨some 17, none, .call 19 [.s 16] 2, .none⟩,
 ⟨some 15, none, .mv (.s 17), .none⟩,
 ⟨some 18, none, .ext (.s 15) 0, .none⟩,
 ⟨some 19, none, .ext (.s 15) 1, .none⟩,
 ⟨some 10, none, .mv (.s 18), .none⟩,
 ⟨some 11, none, .mv (.s 19), .none⟩])
 (.seq (.seq (.reg [⟨some 20, none, .mv (.s 10), .none⟩,
 ⟨some 21, none, .len (.s 20), .none⟩,
 ⟨some 22, none, .bin .eql (.s 21) (.c (.d (.int .i64 0))), .none⟩,
 ⟨some 23, none, .mv (.s 22), .none⟩,
 ⟨some 24, some (23, false), .mv (.s 1), .none⟩,
 ⟨some 25, some (23, false), .mv (.s 2), .none⟩,
 ⟨some 26, some (23, false), .call 20 [.s 24, .s 25] 2, .none⟩,
 ⟨some 27, some (23, false), .un .not (.s 26), .none⟩,
 ⟨some 28, none, .pick (.s 23) (.c (.d (.bool true))) (.s 27), .none⟩])
 (.cond (.s 28)
 (.seq (.reg [⟨some 8, none, .mv (.c (.d (.int .i64 200))), .none⟩,
 ⟨some 9, none, .mv (.c (.d .nils)), .one 2 false⟩])
 (.ret none))
 .skip))
 (.seq (.reg [⟨some 29, none, .mv (.s 10), .none⟩,
 ⟨some 30, none, .mv (.s 3), .none⟩,
 ⟨some 31, none, .call 21 [.s 29, .s 30] 2, .none⟩,
 ⟨some 12, none, .mv (.s 31), .none⟩])
 (.seq (.seq (.reg [⟨some 32, none, .mv (.s 12), .none⟩,
 ⟨some 33, none, .len (.s 32), .none⟩,
 ⟨some 34, none, .bin .eql (.s 33) (.c (.d (.int .i64 0))), .none⟩])
 (.cond (.s 34)
 (.seq (.reg [⟨some 8, none, .mv (.c (.d (.int .i64 416))), .none⟩,
 ⟨some 9, none, .mv (.c (.d .nils)), .one 2 false⟩])
 (.ret none))
 .skip))
 (.seq (.seq (.reg [⟨some 35, none, .mv (.s 12), .none⟩,
 ⟨some 36, none, .len (.s 35), .none⟩,
 ⟨some 37, none, .mv (.c (.d (.int .i64 0))), .none⟩])
 (.block 0 (.loop [12, 36, 37] lp6_0)))
 (.seq (.reg [⟨some 72, none, .mv (.s 12), .none⟩,
 ⟨some 8, none, .mv (.c (.d (.int .i64 206))), .none⟩,
 ⟨some 9, none, .mv (.s 72), .none⟩])
 (.ret none))))))))
def ir6 : F := { n := 73, res := [.tmp 8, .tmp 9], body := bd6 }
@[go_sem] theorem n6 : ir6.n = 73 := rfl
@[go_sem] theorem r6 : ir6.res = [.tmp 8, .tmp 9] := rfl
@[go_sem] theorem b6 : ir6.body = bd6 := rfl
/-- spence/spenceref04.Wants -/
def bd7 : C :=
 (.seq (.reg [⟨some 6, none, .mv (.c (.d .nils)), .one 2 true⟩])
 (.seq (.seq (.reg [⟨some 7, none, .mv (.s 0), .none⟩,
 ⟨some 8, none, .bin .eql (.s 7) (.c (.d (.int .i64 206))), .none⟩])
 (.cond (.s 8)
 (.seq (.reg [⟨some 9, none, .mv (.s 1), .none⟩,
 ⟨some 6, none, .mv (.s 9), .none⟩])
 (.ret none))
 .skip))
 (.seq (.seq (.reg [⟨some 10, none, .mv (.s 0), .none⟩,
 ⟨some 11, none, .bin .eql (.s 10) (.c (.d (.int .i64 200))), .none⟩,
 ⟨some 12, none, .mv (.s 11), .none⟩,
 ⟨some 13, some (12, true), .mv (.s 2), .none⟩,
 ⟨some 14, some (12, true), .bin .gtr (.s 13) (.c (.d (.int .i64 0))), .none⟩,
 ⟨some 15, none, .pick (.s 12) (.s 14) (.c (.d (.bool false))), .none⟩])
 (.cond (.s 15)
 (.seq (.reg [⟨some 16, none, .mv (.s 2), .none⟩,
 ⟨some 17, none, .build [.int .i64 0, .int .i64 0] [(1, (1, .s 16))], .none⟩,
 ⟨some 18, none, .bsl 32 2 1 [.int .i64 0, .int .i64 0] [(0, (2, .s 17))], .none⟩,
 ⟨some 6, none, .mv (.s 18), .none⟩])
 (.ret none))
 .skip))
 (.seq (.reg [⟨some 6, none, .mv (.c (.d .nils)), .one 2 true⟩])
 (.ret none)))))
def ir7 : F := { n := 19, res := [.tmp 6], body := bd7 }
@[go_sem] theorem n7 : ir7.n = 19 := rfl
@[go_sem] theorem r7 : ir7.res = [.tmp 6] := rfl
@[go_sem] theorem b7 : ir7.body = bd7 := rfl
/-- spence/spenceref04.Right -/
def bd8 : C :=
 (.seq (.reg [⟨some 1, none, .box 32 (.s 0), .none⟩,
 ⟨some 2, none, .mv (.c (.d (.bool false))), .none⟩])
 (.seq (.reg [⟨some 3, none, .fa (.s 1) 0, .none⟩,
 ⟨some 4, none, .ld (.s 3) 1 false, .none⟩,
 ⟨some 5, none, .bin .geq (.s 4) (.c (.d (.int .i64 0))), .none⟩,
 ⟨some 6, none, .mv (.s 5), .none⟩,
 ⟨some 7, some (6, true), .fa (.s 1) 1, .none⟩,
 ⟨some 8, some (6, true), .ld (.s 7) 1 false, .none⟩,
 ⟨some 9, some (6, true), .fa (.s 1) 0, .none⟩,
 ⟨some 10, some (6, true), .ld (.s 9) 1 false, .none⟩,
 ⟨some 11, some (6, true), .bin .gtr (.s 8) (.s 10), .none⟩,
 ⟨some 12, none, .pick (.s 6) (.s 11) (.c (.d (.bool false))), .none⟩,
 ⟨some 13, none, .mv (.s 12), .none⟩,
 ⟨some 14, some (13, true), .fa (.s 1) 1, .none⟩,
 ⟨some 15, some (13, true), .ld (.s 14) 1 false, .none⟩,
 ⟨some 16, some (13, true), .bin .leq (.s 15) (.c (.d (.int .i64 4611686018427387903))), .none⟩,
 ⟨some 17, none, .pick (.s 13) (.s 16) (.c (.d (.bool false))), .none⟩,
 ⟨some 2, none, .mv (.s 17), .none⟩])
 (.ret none)))
def ir8 : F := { n := 18, res := [.tmp 2], body := bd8 }
@[go_sem] theorem n8 : ir8.n = 18 := rfl
@[go_sem] theorem r8 : ir8.res = [.tmp 2] := rfl
@[go_sem] theorem b8 : ir8.body = bd8 := rfl
def lb9_0 : C :=
 (.seq (.reg [⟨some 14, none, .bin .lss (.s 13) (.s 12), .none⟩])
 (.seq (.cond (.s 14)
 .skip
 (.exit 0 (some [])))
 (.seq (.block 1 (.seq (.reg [⟨some 15, none, .mv (.s 13), .none⟩,
 ⟨some 5, none, .mv (.s 15), .none⟩])
 (.seq (.drw [⟨some 16, none, .mv (.s 0), .none⟩,
 ⟨some 17, none, .mv (.s 5), .none⟩,
 ⟨some 18, none, .is (.s 16) (.s 17) 2, .none⟩,
 ⟨some 19, none, .ld (.s 18) 2 true, .none⟩,
 ⟨some 20, none, .mv (.s 1), .none⟩,
 ⟨some 21, none, .mv (.s 5), .none⟩,
 ⟨some 22, none, .is (.s 20) (.s 21) 2, .none⟩,
 ⟨some 23, none, .ld (.s 22) 2 true, .none⟩,
 ⟨some 24, none, .eqs true [1, 1] (.s 19) (.s 23), .none⟩]
 [[], [], [0, 1], [2], [], [], [4, 5], [6], [3, 7]] [])
 (.cond (.s 24)
 (.seq (.reg [⟨some 4, none, .mv (.c (.d (.bool false))), .none⟩])
 (.ret (some [4])))
 .skip))))
 (.reg [⟨some 25, none, .bin .add (.s 13) (.c (.d (.int .i64 1))), .none⟩,
 ⟨some 13, none, .mv (.s 25), .none⟩]))))
def lp9_0 : C := lb9_0
theorem u9_0 (c : Ev.Callee) (l : Ev.Looper) (s : St) : evC c l lp9_0 s = evC c l lb9_0 s := rfl
abbrev st9_0 (m : Nat) (s0 s1 s12 s13 : AV) (h : Heap) : St := ⟨m,[s0,s1,.unk,.unk,.unk,.unk,.unk,.unk,.unk,.unk,.unk,.unk,s12,s13,.unk,.unk,.unk,.unk,.unk,.unk,.unk,.unk,.unk,.unk,.unk,.unk],h⟩
@[go_sem] theorem ks9_0 (a b c d e f g h i j k l m n o p q r s t u v w x y z : AV) : keepS [0,1,12,13] [a,b,c,d,e,f,g,h,i,j,k,l,m,n,o,p,q,r,s,t,u,v,w,x,y,z] 0 = [a,b,.unk,.unk,.unk,.unk,.unk,.unk,.unk,.unk,.unk,.unk,m,n,.unk,.unk,.unk,.unk,.unk,.unk,.unk,.unk,.unk,.unk,.unk,.unk] := rfl
@[go_sem] theorem ks9_1 (a b c d e f g h i j k l m n o p q r s t u v w x y z : AV) : keepS [] [a,b,c,d,e,f,g,h,i,j,k,l,m,n,o,p,q,r,s,t,u,v,w,x,y,z] 0 = [.unk,.unk,.unk,.unk,.unk,.unk,.unk,.unk,.unk,.unk,.unk,.unk,.unk,.unk,.unk,.unk,.unk,.unk,.unk,.unk,.unk,.unk,.unk,.unk,.unk,.unk] := rfl
@[go_sem] theorem ks9_2 (a b c d e f g h i j k l m n o p q r s t u v w x y z : AV) : keepS [4] [a,b,c,d,e,f,g,h,i,j,k,l,m,n,o,p,q,r,s,t,u,v,w,x,y,z] 0 = [.unk,.unk,.unk,.unk,e,.unk,.unk,.unk,.unk,.unk,.unk,.unk,.unk,.unk,.unk,.unk,.unk,.unk,.unk,.unk,.unk,.unk,.unk,.unk,.unk,.unk] := rfl
/-- spence/spenceref04.Spans -/
def bd9 : C :=
 (.seq (.reg [⟨some 4, none, .mv (.c (.d (.bool false))), .none⟩])
 (.seq (.seq (.reg [⟨some 6, none, .mv (.s 0), .none⟩,
 ⟨some 7, none, .len (.s 6), .none⟩,
 ⟨some 8, none, .mv (.s 1), .none⟩,
 ⟨some 9, none, .len (.s 8), .none⟩,
 ⟨some 10, none, .bin .neq (.s 7) (.s 9), .none⟩])
 (.cond (.s 10)
 (.seq (.reg [⟨some 4, none, .mv (.c (.d (.bool false))), .none⟩])
 (.ret none))
 .skip))
 (.seq (.seq (.reg [⟨some 11, none, .mv (.s 0), .none⟩,
 ⟨some 12, none, .len (.s 11), .none⟩,
 ⟨some 13, none, .mv (.c (.d (.int .i64 0))), .none⟩])
 (.block 0 (.loop [0, 1, 12, 13] lp9_0)))
 (.seq (.reg [⟨some 4, none, .mv (.c (.d (.bool true))), .none⟩])
 (.ret none)))))
def ir9 : F := { n := 26, res := [.tmp 4], body := bd9 }
@[go_sem] theorem n9 : ir9.n = 26 := rfl
@[go_sem] theorem r9 : ir9.res = [.tmp 4] := rfl
@[go_sem] theorem b9 : ir9.body = bd9 := rfl
/-- spence/ifrange.Wants -/
def bd10 : C :=
 (.seq (.reg [⟨some 2, none, .box 25 (.s 0), .none⟩,
 ⟨some 4, none, .mv (.c (.d .nils)), .one 2 true⟩])
 (.seq (.block 0 (.seq (.reg [⟨some 6, none, .fa (.s 2) 0, .none⟩,
 ⟨some 7, none, .ld (.s 6) 1 false, .none⟩,
 ⟨some 8, none, .bin .eql (.s 7) (.c (.d (.int .i64 206))), .none⟩,
 ⟨some 5, none, .mv (.s 8), .none⟩])
 (.cond (.s 5)
 (.seq (.reg [⟨some 9, none, .fa (.s 2) 1, .none⟩,
 ⟨some 10, none, .ld (.s 9) 1 false, .none⟩,
 ⟨some 11, none, .call 23 [.s 10] 2, .none⟩,
 ⟨some 4, none, .mv (.s 11), .none⟩])
 (.ret none))
 (.seq (.reg [⟨some 13, none, .fa (.s 2) 0, .none⟩,
 ⟨some 14, none, .ld (.s 13) 1 false, .none⟩,
 ⟨some 15, none, .bin .eql (.s 14) (.c (.d (.int .i64 200))), .none⟩,
 ⟨some 16, none, .mv (.s 15), .none⟩,
 ⟨some 17, some (16, true), .mv (.s 1), .none⟩,
 ⟨some 18, some (16, true), .bin .gtr (.s 17) (.c (.d (.int .i64 0))), .none⟩,
 ⟨some 19, none, .pick (.s 16) (.s 18) (.c (.d (.bool false))), .none⟩,
 ⟨some 12, none, .mv (.s 19), .none⟩])
 (.cond (.s 12)
 (.seq (.reg [⟨some 20, none, .mv (.s 1), .none⟩,
 ⟨some 21, none, .build [.int .i64 0, .int .i64 0] [(1, (1, .s 20))], .none⟩,
 ⟨some 22, none, .bsl 32 2 1 [.int .i64 0, .int .i64 0] [(0, (2, .s 21))], .none⟩,
 ⟨some 4, none, .mv (.s 22), .none⟩])
 (.ret none))
 .skip)))))
 (.seq (.reg [⟨some 4, none, .mv (.c (.d .nils)), .one 2 true⟩])
 (.ret none))))
def ir10 : F := { n := 23, res := [.tmp 4], body := bd10 }
@[go_sem] theorem n10 : ir10.n = 23 := rfl
@[go_sem] theorem r10 : ir10.res = [.tmp 4] := rfl
@[go_sem] theorem b10 : ir10.body = bd10 := rfl
/-- spence/ifrange.Many -/
def bd11 : C :=
 (.seq (.reg [⟨some 1, none, .box 25 (.s 0), .none⟩,
 ⟨some 2, none, .mv (.c (.d (.bool false))), .none⟩])
 (.seq (.reg [⟨some 3, none, .fa (.s 1) 0, .none⟩,
 ⟨some 4, none, .ld (.s 3) 1 false, .none⟩,
 ⟨some 5, none, .bin .eql (.s 4) (.c (.d (.int .i64 206))), .none⟩,
 ⟨some 6, none, .mv (.s 5), .none⟩,
 ⟨some 7, some (6, true), .fa (.s 1) 1, .none⟩,
 ⟨some 8, some (6, true), .ld (.s 7) 1 false, .none⟩,
 ⟨some 9, some (6, true), .len (.s 8), .none⟩,
 ⟨some 10, some (6, true), .bin .gtr (.s 9) (.c (.d (.int .i64 1))), .none⟩,
 ⟨some 11, none, .pick (.s 6) (.s 10) (.c (.d (.bool false))), .none⟩,
 ⟨some 2, none, .mv (.s 11), .none⟩])
 (.ret none)))
def ir11 : F := { n := 12, res := [.tmp 2], body := bd11 }
@[go_sem] theorem n11 : ir11.n = 12 := rfl
@[go_sem] theorem r11 : ir11.res = [.tmp 2] := rfl
@[go_sem] theorem b11 : ir11.body = bd11 := rfl
/-- spence/ifrange.Bytes -/
def bd12 : C :=
 (.seq (.reg [⟨some 2, none, .box 25 (.s 0), .none⟩,
 ⟨some 4, none, .mv (.c (.d (.int .i64 0))), .none⟩])
 (.seq (.reg [⟨some 5, none, .ld (.s 2) 2 true, .none⟩,
 ⟨some 6, none, .mv (.s 1), .none⟩,
 ⟨some 7, none, .call 10 [.s 5, .s 6] 2, .none⟩,
 ⟨some 8, none, .call 24 [.s 7] 2, .none⟩,
 ⟨some 4, none, .mv (.s 8), .none⟩])
 (.ret none)))
def ir12 : F := { n := 9, res := [.tmp 4], body := bd12 }
@[go_sem] theorem n12 : ir12.n = 9 := rfl
@[go_sem] theorem r12 : ir12.res = [.tmp 4] := rfl
@[go_sem] theorem b12 : ir12.body = bd12 := rfl
/-- spence/ifrange.Whole -/
def bd13 : C :=
 (.seq (.reg [⟨some 2, none, .alloc 25 [.int .i64 0, .nils], .cells [(1, 2, false)]⟩])
 (.seq (.reg [⟨some 3, none, .build [.int .i64 0, .nils] [(0, (1, .c (.d (.int .i64 200))))], .cells [(1, 2, false)]⟩,
 ⟨none, none, .st (.s 2) (.s 3) 2, .none⟩])
 (.ret none)))
def ir13 : F := { n := 4, res := [.cell 2 2 true], body := bd13 }
@[go_sem] theorem n13 : ir13.n = 4 := rfl
@[go_sem] theorem r13 : ir13.res = [.cell 2 2 true] := rfl
@[go_sem] theorem b13 : ir13.body = bd13 := rfl
/-- spence/spec.Asked -/
def bd14 : C :=
 (.seq (.reg [⟨some 2, none, .mv (.c (.d .nils)), .one 3 false⟩])
 (.seq (.reg [⟨some 6, none, .mv (.s 0), .none⟩,
 ⟨some 7, none, .call 25 [.s 6] 2, .none⟩,
 ⟨some 5, none, .mv (.s 7), .none⟩,
 ⟨some 8, none, .ext (.s 5) 0, .none⟩,
 ⟨some 9, none, .ext (.s 5) 1, .none⟩,
 ⟨some 3, none, .mv (.s 8), .none⟩,
 ⟨some 4, none, .mv (.s 9), .none⟩])
 (.seq (.reg [⟨some 10, none, .mv (.s 3), .none⟩,
 ⟨some 2, none, .mv (.s 10), .none⟩])
 (.ret none))))
def ir14 : F := { n := 11, res := [.tmp 2], body := bd14 }
@[go_sem] theorem n14 : ir14.n = 11 := rfl
@[go_sem] theorem r14 : ir14.res = [.tmp 2] := rfl
@[go_sem] theorem b14 : ir14.body = bd14 := rfl
/-- spence/etag.Use -/
def bd15 : C :=
 (.seq (.reg [⟨some 4, none, .mv (.c (.d (.bool false))), .none⟩])
 (.seq (.reg [⟨some 8, none, .mv (.s 0), .none⟩,
 ⟨some 9, none, .call 26 [.s 8] 2, .none⟩,
 ⟨some 5, none, .mv (.s 9), .none⟩])
 (.seq (.seq (.reg [⟨some 10, none, .mv (.s 5), .none⟩,
 ⟨some 11, none, .bin .eql (.s 10) (.c (.d (.str []))), .none⟩])
 (.cond (.s 11)
 (.seq (.reg [⟨some 4, none, .mv (.c (.d (.bool true))), .none⟩])
 (.ret none))
 .skip))
 (.seq (.reg [⟨some 13, none, .mv (.s 5), .none⟩,
 ⟨some 14, none, .call 27 [.s 13] 2, .none⟩,
 ⟨some 12, none, .mv (.s 14), .none⟩,
 ⟨some 15, none, .ext (.s 12) 0, .none⟩,
 ⟨some 16, none, .ext (.s 12) 1, .none⟩,
 ⟨some 6, none, .alloc 55 [.bool false, .str []], .none⟩,
 ⟨none, none, .st (.s 6) (.s 15) 2, .none⟩,
 ⟨some 7, none, .mv (.s 16), .none⟩])
 (.seq (.reg [⟨some 17, none, .mv (.s 7), .none⟩,
 ⟨some 18, none, .bin .eql (.s 17) (.c (.d (.int .i64 0))), .none⟩,
 ⟨some 19, none, .mv (.s 18), .none⟩,
 ⟨some 20, some (19, true), .ld (.s 6) 2 true, .none⟩,
 ⟨some 21, some (19, true), .mv (.s 1), .none⟩,
 ⟨some 22, some (19, true), .build [.bool false, .str []] [(1, (1, .s 21))], .none⟩,
 ⟨some 23, some (19, true), .call 28 [.s 20, .s 22] 2, .none⟩,
 ⟨some 24, none, .pick (.s 19) (.s 23) (.c (.d (.bool false))), .none⟩,
 ⟨some 4, none, .mv (.s 24), .none⟩])
 (.ret none))))))
def ir15 : F := { n := 25, res := [.tmp 4], body := bd15 }
@[go_sem] theorem n15 : ir15.n = 25 := rfl
@[go_sem] theorem r15 : ir15.res = [.tmp 4] := rfl
@[go_sem] theorem b15 : ir15.body = bd15 := rfl
def lb16_0 : C :=
 (.seq (.reg [⟨some 15, none, .bin .lss (.s 14) (.s 13), .none⟩])
 (.seq (.cond (.s 15)
 .skip
 (.exit 0 (some [5])))
 (.seq (.block 1 (.seq (.reg [⟨some 16, none, .is (.s 12) (.s 14) 3, .none⟩,
 ⟨some 17, none, .ld (.s 16) 3 true, .none⟩,
 ⟨some 7, none, .alloc 61 [.int .i64 0, .int .i64 0, .int .i64 0], .none⟩,
 ⟨none, none, .st (.s 7) (.s 17) 3, .none⟩])
 (.seq (.seq (.reg [⟨some 18, none, .ld (.s 7) 3 true, .none⟩,
 ⟨some 19, none, .call 30 [.s 18] 2, .none⟩,
 ⟨some 20, none, .un .not (.s 19), .none⟩])
 (.cond (.s 20)
 (.exit 1 none)
 .skip))
 (.seq (.reg [⟨some 21, none, .ld (.s 7) 3 true, .none⟩,
 ⟨some 22, none, .mv (.s 1), .none⟩,
 ⟨some 23, none, .call 31 [.s 21, .s 22] 2, .none⟩,
 ⟨some 8, none, .alloc 32 [.int .i64 0, .int .i64 0], .none⟩,
 ⟨none, none, .st (.s 8) (.s 23) 2, .none⟩])
 (.seq (.reg [⟨some 24, none, .ld (.s 8) 2 true, .none⟩,
 ⟨some 25, none, .call 32 [.s 24] 2, .none⟩])
 (.cond (.s 25)
 (.reg [⟨some 26, none, .mv (.s 5), .none⟩,
 ⟨some 27, none, .ld (.s 8) 2 true, .none⟩,
 ⟨some 28, none, .bsl 32 2 1 [.int .i64 0, .int .i64 0] [(0, (2, .s 27))], .none⟩,
 ⟨some 29, none, .app 32 2 16 (.s 26) (.s 28), .none⟩,
 ⟨some 5, none, .mv (.s 29), .none⟩])
 .skip))))))
 (.reg [⟨some 30, none, .bin .add (.s 14) (.c (.d (.int .i64 1))), .none⟩,
 ⟨some 14, none, .mv (.s 30), .none⟩]))))
def lp16_0 : C := lb16_0
theorem u16_0 (c : Ev.Callee) (l : Ev.Looper) (s : St) : evC c l lp16_0 s = evC c l lb16_0 s := rfl
abbrev st16_0 (m : Nat) (s1 s5 s12 s13 s14 : AV) (h : Heap) : St := ⟨m,[.unk,s1,.unk,.unk,.unk,s5,.unk,.unk,.unk,.unk,.unk,.unk,s12,s13,s14,.unk,.unk,.unk,.unk,.unk,.unk,.unk,.unk,.unk,.unk,.unk,.unk,.unk,.unk,.unk,.unk,.unk],h⟩
@[go_sem] theorem ks16_0 (a b c d e f g h i j k l m n o p q r s t u v w x y z a0 a1 a2 a3 a4 a5 : AV) : keepS [1,5,12,13,14] [a,b,c,d,e,f,g,h,i,j,k,l,m,n,o,p,q,r,s,t,u,v,w,x,y,z,a0,a1,a2,a3,a4,a5] 0 = [.unk,b,.unk,.unk,.unk,f,.unk,.unk,.unk,.unk,.unk,.unk,m,n,o,.unk,.unk,.unk,.unk,.unk,.unk,.unk,.unk,.unk,.unk,.unk,.unk,.unk,.unk,.unk,.unk,.unk] := rfl
@[go_sem] theorem ks16_1 (a b c d e f g h i j k l m n o p q r s t u v w x y z a0 a1 a2 a3 a4 a5 : AV) : keepS [5] [a,b,c,d,e,f,g,h,i,j,k,l,m,n,o,p,q,r,s,t,u,v,w,x,y,z,a0,a1,a2,a3,a4,a5] 0 = [.unk,.unk,.unk,.unk,.unk,f,.unk,.unk,.unk,.unk,.unk,.unk,.unk,.unk,.unk,.unk,.unk,.unk,.unk,.unk,.unk,.unk,.unk,.unk,.unk,.unk,.unk,.unk,.unk,.unk,.unk,.unk] := rfl
/-- spence/span.Resolve -/
def bd16 : C :=
 (.seq (.reg [⟨some 4, none, .mv (.c (.d .nils)), .one 2 true⟩])
 (.seq (.seq (.reg [⟨some 9, none, .mv (.s 1), .none⟩,
 ⟨some 10, none, .call 29 [.s 9, .c (.d (.int .i64 1)), .c (.d (.int .i64 4611686018427387903))] 2, .none⟩,
 ⟨some 11, none, .un .not (.s 10), .none⟩])
 (.cond (.s 11)
 (.seq (.reg [⟨some 4, none, .mv (.c (.d .nils)), .one 2 true⟩])
 (.ret none))
 .skip))
 (.seq (.reg [⟨some 5, none, .mv (.c (.d .nils)), .one 2 true⟩])
 (.seq (.seq (.reg [⟨some 12, none, .mv (.s 0), .none⟩,
 ⟨some 13, none, .len (.s 12), .none⟩,
 ⟨some 14, none, .mv (.c (.d (.int .i64 0))), .none⟩])
 (.block 0 (.loop [1, 5, 12, 13, 14] lp16_0)))
 (.seq (.reg [⟨some 31, none, .mv (.s 5), .none⟩,
 ⟨some 4, none, .mv (.s 31), .none⟩])
 (.ret none))))))
def ir16 : F := { n := 32, res := [.tmp 4], body := bd16 }
@[go_sem] theorem n16 : ir16.n = 32 := rfl
@[go_sem] theorem r16 : ir16.res = [.tmp 4] := rfl
@[go_sem] theorem b16 : ir16.body = bd16 := rfl
def lb17_0 : C :=
 (.seq (.reg [⟨some 9, none, .bin .lss (.s 8) (.s 7), .none⟩])
 (.seq (.cond (.s 9)
 .skip
 (.exit 0 (some [])))
 (.seq (.block 1 (.seq (.reg [⟨some 10, none, .mv (.s 8), .none⟩,
 ⟨some 11, none, .is (.s 6) (.s 8) 2, .none⟩,
 ⟨some 12, none, .ld (.s 11) 2 true, .none⟩,
 ⟨some 4, none, .alloc 32 [.int .i64 0, .int .i64 0], .none⟩,
 ⟨some 3, none, .mv (.s 10), .none⟩,
 ⟨none, none, .st (.s 4) (.s 12) 2, .none⟩])
 (.seq (.reg [⟨some 13, none, .fn (.func 33) [] [.s 4], .none⟩,
 ⟨some 5, none, .mv (.s 13), .none⟩])
 (.seq (.reg [⟨some 14, none, .mv (.s 0), .none⟩,
 ⟨some 15, none, .mv (.s 3), .none⟩,
 ⟨some 16, none, .sl (.s 14) none (some (.s 15)) none 2, .none⟩,
 ⟨some 17, none, .mv (.s 5), .none⟩,
 ⟨some 18, none, .call 35 [.s 16, .s 17] 0, .none⟩])
 (.cond (.s 18)
 (.seq (.reg [⟨some 2, none, .mv (.c (.d (.bool true))), .none⟩])
 (.ret (some [2])))
 .skip)))))
 (.reg [⟨some 19, none, .bin .add (.s 8) (.c (.d (.int .i64 1))), .none⟩,
 ⟨some 8, none, .mv (.s 19), .none⟩]))))
def lp17_0 : C := lb17_0
theorem u17_0 (c : Ev.Callee) (l : Ev.Looper) (s : St) : evC c l lp17_0 s = evC c l lb17_0 s := rfl
abbrev st17_0 (m : Nat) (s0 s6 s7 s8 : AV) (h : Heap) : St := ⟨m,[s0,.unk,.unk,.unk,.unk,.unk,s6,s7,s8,.unk,.unk,.unk,.unk,.unk,.unk,.unk,.unk,.unk,.unk,.unk],h⟩
@[go_sem] theorem ks17_0 (a b c d e f g h i j k l m n o p q r s t : AV) : keepS [0,6,7,8] [a,b,c,d,e,f,g,h,i,j,k,l,m,n,o,p,q,r,s,t] 0 = [a,.unk,.unk,.unk,.unk,.unk,g,h,i,.unk,.unk,.unk,.unk,.unk,.unk,.unk,.unk,.unk,.unk,.unk] := rfl
@[go_sem] theorem ks17_1 (a b c d e f g h i j k l m n o p q r s t : AV) : keepS [] [a,b,c,d,e,f,g,h,i,j,k,l,m,n,o,p,q,r,s,t] 0 = [.unk,.unk,.unk,.unk,.unk,.unk,.unk,.unk,.unk,.unk,.unk,.unk,.unk,.unk,.unk,.unk,.unk,.unk,.unk,.unk] := rfl
@[go_sem] theorem ks17_2 (a b c d e f g h i j k l m n o p q r s t : AV) : keepS [2] [a,b,c,d,e,f,g,h,i,j,k,l,m,n,o,p,q,r,s,t] 0 = [.unk,.unk,c,.unk,.unk,.unk,.unk,.unk,.unk,.unk,.unk,.unk,.unk,.unk,.unk,.unk,.unk,.unk,.unk,.unk] := rfl
/-- spence/ifrange.clash -/
def bd17 : C :=
 (.seq (.reg [⟨some 2, none, .mv (.c (.d (.bool false))), .none⟩])
 (.seq (.seq (.reg [⟨some 6, none, .mv (.s 0), .none⟩,
 ⟨some 7, none, .len (.s 6), .none⟩,
 ⟨some 8, none, .mv (.c (.d (.int .i64 0))), .none⟩])
 (.block 0 (.loop [0, 6, 7, 8] lp17_0)))
 (.seq (.reg [⟨some 2, none, .mv (.c (.d (.bool false))), .none⟩])
 (.ret none))))
def ir17 : F := { n := 20, res := [.tmp 2], body := bd17 }
@[go_sem] theorem n17 : ir17.n = 20 := rfl
@[go_sem] theorem r17 : ir17.res = [.tmp 2] := rfl
@[go_sem] theorem b17 : ir17.body = bd17 := rfl
def lb18_0 : C :=
 (.seq (.reg [⟨some 20, none, .bin .lss (.s 19) (.s 18), .none⟩])
 (.seq (.cond (.s 20)
 .skip
 (.exit 0 (some [6])))
 (.seq (.block 1 (.seq (.reg [⟨some 21, none, .is (.s 17) (.s 19) 2, .none⟩,
 ⟨some 22, none, .ld (.s 21) 2 true, .none⟩,
 ⟨some 8, none, .alloc 32 [.int .i64 0, .int .i64 0], .none⟩,
 ⟨none, none, .st (.s 8) (.s 22) 2, .none⟩])
 (.seq (.reg [⟨some 23, none, .mv (.s 6), .none⟩,
 ⟨some 24, none, .len (.s 23), .none⟩,
 ⟨some 9, none, .mv (.s 24), .none⟩])
 (.seq (.seq (.drw [⟨some 25, none, .mv (.s 9), .none⟩,
 ⟨some 26, none, .bin .gtr (.s 25) (.c (.d (.int .i64 0))), .none⟩,
 ⟨some 27, none, .mv (.s 26), .none⟩,
 ⟨some 28, some (27, true), .fa (.s 8) 0, .none⟩,
 ⟨some 29, some (27, true), .ld (.s 28) 1 false, .none⟩,
 ⟨some 30, some (27, true), .mv (.s 6), .none⟩,
 ⟨some 31, some (27, true), .mv (.s 9), .none⟩,
 ⟨some 32, some (27, true), .bin .sub (.s 31) (.c (.d (.int .i64 1))), .none⟩,
 ⟨some 33, some (27, true), .is (.s 30) (.s 32) 2, .none⟩,
 ⟨some 34, some (27, true), .fa (.s 33) 1, .none⟩,
 ⟨some 35, some (27, true), .ld (.s 34) 1 false, .none⟩,
 ⟨some 36, some (27, true), .bin .sub (.s 29) (.s 35), .none⟩,
 ⟨some 37, some (27, true), .mv (.s 1), .none⟩,
 ⟨some 38, some (27, true), .bin .leq (.s 36) (.s 37), .none⟩,
 ⟨some 39, none, .pick (.s 27) (.s 38) (.c (.d (.bool false))), .none⟩]
 [[], [0], [1], [2], [3, 2], [2], [2], [6, 2], [5, 7, 2], [8, 2], [9, 2], [4, 10, 2], [2], [11, 12, 2], [2, 13]] [])
 (.cond (.s 39)
 (.seq (.drw [⟨some 40, none, .mv (.s 6), .none⟩,
 ⟨some 41, none, .mv (.s 9), .none⟩,
 ⟨some 42, none, .bin .sub (.s 41) (.c (.d (.int .i64 1))), .none⟩,
 ⟨some 43, none, .mv (.s 6), .none⟩,
 ⟨some 44, none, .mv (.s 9), .none⟩,
 ⟨some 45, none, .bin .sub (.s 44) (.c (.d (.int .i64 1))), .none⟩,
 ⟨some 46, none, .is (.s 43) (.s 45) 2, .none⟩,
 ⟨some 47, none, .fa (.s 46) 1, .none⟩,
 ⟨some 48, none, .ld (.s 47) 1 false, .none⟩,
 ⟨some 49, none, .fa (.s 8) 1, .none⟩,
 ⟨some 50, none, .ld (.s 49) 1 false, .none⟩,
 ⟨some 51, none, .mx (.s 48) (.s 50), .none⟩,
 ⟨some 52, none, .is (.s 40) (.s 42) 2, .none⟩,
 ⟨some 53, none, .fa (.s 52) 1, .none⟩,
 ⟨none, none, .st (.s 53) (.s 51) 1, .none⟩]
 [[], [], [1], [], [], [4], [3, 5], [6], [7], [], [9], [8, 10], [0, 2, 0, 1, 2, 3, 4, 5, 6, 7, 8, 9, 10, 11], [12, 0, 1, 2, 3, 4, 5, 6, 7, 8, 9, 10, 11], [13, 11, 0, 1, 2, 3, 4, 5, 6, 7, 8, 9, 10, 11]] [])
 (.exit 1 none))
 .skip))
 (.reg [⟨some 54, none, .mv (.s 6), .none⟩,
 ⟨some 55, none, .ld (.s 8) 2 true, .none⟩,
 ⟨some 56, none, .bsl 32 2 1 [.int .i64 0, .int .i64 0] [(0, (2, .s 55))], .none⟩,
 ⟨some 57, none, .app 32 2 16 (.s 54) (.s 56), .none⟩,
 ⟨some 6, none, .mv (.s 57), .none⟩])))))
 (.reg [⟨some 58, none, .bin .add (.s 19) (.c (.d (.int .i64 1))), .none⟩,
 ⟨some 19, none, .mv (.s 58), .none⟩]))))
def lp18_0 : C := lb18_0
theorem u18_0 (c : Ev.Callee) (l : Ev.Looper) (s : St) : evC c l lp18_0 s = evC c l lb18_0 s := rfl
abbrev st18_0 (m : Nat) (s1 s6 s17 s18 s19 : AV) (h : Heap) : St := ⟨m,[.unk,s1,.unk,.unk,.unk,.unk,s6,.unk,.unk,.unk,.unk,.unk,.unk,.unk,.unk,.unk,.unk,s17,s18,s19,.unk,.unk,.unk,.unk,.unk,.unk,.unk,.unk,.unk,.unk,.unk,.unk,.unk,.unk,.unk,.unk,.unk,.unk,.unk,.unk,.unk,.unk,.unk,.unk,.unk,.unk,.unk,.unk,.unk,.unk,.unk,.unk,.unk,.unk,.unk,.unk,.unk,.unk,.unk,.unk],h⟩
@[go_sem] theorem ks18_0 (a b c d e f g h i j k l m n o p q r s t u v w x y z a0 a1 a2 a3 a4 a5 a6 a7 a8 a9 b0 b1 b2 b3 b4 b5 b6 b7 b8 b9 c0 c1 c2 c3 c4 c5 c6 c7 c8 c9 d0 d1 d2 d3 : AV) : keepS [1,6,17,18,19] [a,b,c,d,e,f,g,h,i,j,k,l,m,n,o,p,q,r,s,t,u,v,w,x,y,z,a0,a1,a2,a3,a4,a5,a6,a7,a8,a9,b0,b1,b2,b3,b4,b5,b6,b7,b8,b9,c0,c1,c2,c3,c4,c5,c6,c7,c8,c9,d0,d1,d2,d3] 0 = [.unk,b,.unk,.unk,.unk,.unk,g,.unk,.unk,.unk,.unk,.unk,.unk,.unk,.unk,.unk,.unk,r,s,t,.unk,.unk,.unk,.unk,.unk,.unk,.unk,.unk,.unk,.unk,.unk,.unk,.unk,.unk,.unk,.unk,.unk,.unk,.unk,.unk,.unk,.unk,.unk,.unk,.unk,.unk,.unk,.unk,.unk,.unk,.unk,.unk,.unk,.unk,.unk,.unk,.unk,.unk,.unk,.unk] := rfl
@[go_sem] theorem ks18_1 (a b c d e f g h i j k l m n o p q r s t u v w x y z a0 a1 a2 a3 a4 a5 a6 a7 a8 a9 b0 b1 b2 b3 b4 b5 b6 b7 b8 b9 c0 c1 c2 c3 c4 c5 c6 c7 c8 c9 d0 d1 d2 d3 : AV) : keepS [6] [a,b,c,d,e,f,g,h,i,j,k,l,m,n,o,p,q,r,s,t,u,v,w,x,y,z,a0,a1,a2,a3,a4,a5,a6,a7,a8,a9,b0,b1,b2,b3,b4,b5,b6,b7,b8,b9,c0,c1,c2,c3,c4,c5,c6,c7,c8,c9,d0,d1,d2,d3] 0 = [.unk,.unk,.unk,.unk,.unk,.unk,g,.unk,.unk,.unk,.unk,.unk,.unk,.unk,.unk,.unk,.unk,.unk,.unk,.unk,.unk,.unk,.unk,.unk,.unk,.unk,.unk,.unk,.unk,.unk,.unk,.unk,.unk,.unk,.unk,.unk,.unk,.unk,.unk,.unk,.unk,.unk,.unk,.unk,.unk,.unk,.unk,.unk,.unk,.unk,.unk,.unk,.unk,.unk,.unk,.unk,.unk,.unk,.unk,.unk] := rfl
/-- spence/span.Merge -/
def bd18 : C :=
 (.seq (.reg [⟨some 4, none, .mv (.c (.d .nils)), .one 2 true⟩])
 (.seq (.reg [⟨some 10, none, .mv (.s 1), .none⟩,
 ⟨some 11, none, .mx (.s 10) (.c (.d (.int .i64 0))), .none⟩,
 ⟨some 1, none, .mv (.s 11), .none⟩])
 (.seq (.reg [⟨some 12, none, .mv (.s 0), .none⟩,
 ⟨some 13, none, .call 23 [.s 12] 0, .none⟩,
 ⟨some 14, none, .call 36 [.s 13, .c (.clo (.func 37) [] [])] 1, .none⟩,
 ⟨some 5, none, .mv (.s 14), .none⟩])
 (.seq (.reg [⟨some 15, none, .mv (.s 5), .none⟩,
 ⟨some 16, none, .call 38 [.s 15, .c (.clo (.func 39) [] [])] 1, .none⟩])
 (.seq (.reg [⟨some 6, none, .mv (.c (.d .nils)), .one 2 true⟩])
 (.seq (.seq (.reg [⟨some 17, none, .mv (.s 5), .none⟩,
 ⟨some 18, none, .len (.s 17), .none⟩,
 ⟨some 19, none, .mv (.c (.d (.int .i64 0))), .none⟩])
 (.block 0 (.loop [1, 6, 17, 18, 19] lp18_0)))
 (.seq (.reg [⟨some 59, none, .mv (.s 6), .none⟩,
 ⟨some 4, none, .mv (.s 59), .none⟩])
 (.ret none))))))))
def ir18 : F := { n := 60, res := [.tmp 4], body := bd18 }
@[go_sem] theorem n18 : ir18.n = 60 := rfl
@[go_sem] theorem r18 : ir18.res = [.tmp 4] := rfl
@[go_sem] theorem b18 : ir18.body = bd18 := rfl
def lb19_0 : C :=
 (.seq (.reg [⟨some 47, none, .bin .lss (.s 46) (.s 45), .none⟩])
 (.seq (.cond (.s 47)
 .skip
 (.exit 0 (some [9, 10])))
 (.seq (.block 1 (.seq (.reg [⟨some 48, none, .is (.s 44) (.s 46) 1, .none⟩,
 ⟨some 49, none, .ld (.s 48) 1 false, .none⟩,
 ⟨some 12, none, .mv (.s 49), .none⟩])
 (.seq (.reg [⟨some 51, none, .mv (.s 12), .none⟩,
 ⟨some 52, none, .call 45 [.s 51] 2, .none⟩,
 ⟨some 50, none, .mv (.s 52), .none⟩,
 ⟨some 53, none, .ext (.s 50) 0, .none⟩,
 ⟨some 54, none, .ext (.s 50) 1, .none⟩,
 ⟨some 13, none, .alloc 61 [.int .i64 0, .int .i64 0, .int .i64 0], .none⟩,
 ⟨none, none, .st (.s 13) (.s 53) 3, .none⟩,
 ⟨some 14, none, .mv (.s 54), .none⟩])
 (.seq (.seq (.reg [⟨some 55, none, .mv (.s 14), .none⟩,
 ⟨some 56, none, .bin .eql (.s 55) (.c (.d (.int .i64 3))), .none⟩])
 (.cond (.s 56)
 (.seq (.reg [⟨some 2, none, .mv (.c (.d .nils)), .one 3 true⟩,
 ⟨some 3, none, .mv (.c (.d (.int .i64 3))), .none⟩])
 (.ret (some [2, 3])))
 .skip))
 (.seq (.reg [⟨some 57, none, .mv (.s 10), .none⟩,
 ⟨some 58, none, .mv (.s 57), .none⟩,
 ⟨some 59, some (58, false), .mv (.s 14), .none⟩,
 ⟨some 60, some (58, false), .bin .neq (.s 59) (.c (.d (.int .i64 0))), .none⟩,
 ⟨some 61, none, .pick (.s 58) (.c (.d (.bool true))) (.s 60), .none⟩,
 ⟨some 10, none, .mv (.s 61), .none⟩])
 (.reg [⟨some 62, none, .mv (.s 9), .none⟩,
 ⟨some 63, none, .ld (.s 13) 3 true, .none⟩,
 ⟨some 64, none, .bsl 61 3 1 [.int .i64 0, .int .i64 0, .int .i64 0] [(0, (3, .s 63))], .none⟩,
 ⟨some 65, none, .app 61 3 24 (.s 62) (.s 64), .none⟩,
 ⟨some 9, none, .mv (.s 65), .none⟩]))))))
 (.reg [⟨some 66, none, .bin .add (.s 46) (.c (.d (.int .i64 1))), .none⟩,
 ⟨some 46, none, .mv (.s 66), .none⟩]))))
def lp19_0 : C := lb19_0
theorem u19_0 (c : Ev.Callee) (l : Ev.Looper) (s : St) : evC c l lp19_0 s = evC c l lb19_0 s := rfl
abbrev st19_0 (m : Nat) (s9 s10 s44 s45 s46 : AV) (h : Heap) : St := ⟨m,[.unk,.unk,.unk,.unk,.unk,.unk,.unk,.unk,.unk,s9,s10,.unk,.unk,.unk,.unk,.unk,.unk,.unk,.unk,.unk,.unk,.unk,.unk,.unk,.unk,.unk,.unk,.unk,.unk,.unk,.unk,.unk,.unk,.unk,.unk,.unk,.unk,.unk,.unk,.unk,.unk,.unk,.unk,.unk,s44,s45,s46,.unk,.unk,.unk,.unk,.unk,.unk,.unk,.unk,.unk,.unk,.unk,.unk,.unk,.unk,.unk,.unk,.unk,.unk,.unk,.unk,.unk,.unk,.unk,.unk,.unk],h⟩
@[go_sem] theorem ks19_0 (a b c d e f g h i j k l m n o p q r s t u v w x y z a0 a1 a2 a3 a4 a5 a6 a7 a8 a9 b0 b1 b2 b3 b4 b5 b6 b7 b8 b9 c0 c1 c2 c3 c4 c5 c6 c7 c8 c9 d0 d1 d2 d3 d4 d5 d6 d7 d8 d9 e0 e1 e2 e3 e4 e5 : AV) : keepS [9,10,44,45,46] [a,b,c,d,e,f,g,h,i,j,k,l,m,n,o,p,q,r,s,t,u,v,w,x,y,z,a0,a1,a2,a3,a4,a5,a6,a7,a8,a9,b0,b1,b2,b3,b4,b5,b6,b7,b8,b9,c0,c1,c2,c3,c4,c5,c6,c7,c8,c9,d0,d1,d2,d3,d4,d5,d6,d7,d8,d9,e0,e1,e2,e3,e4,e5] 0 = [.unk,.unk,.unk,.unk,.unk,.unk,.unk,.unk,.unk,j,k,.unk,.unk,.unk,.unk,.unk,.unk,.unk,.unk,.unk,.unk,.unk,.unk,.unk,.unk,.unk,.unk,.unk,.unk,.unk,.unk,.unk,.unk,.unk,.unk,.unk,.unk,.unk,.unk,.unk,.unk,.unk,.unk,.unk,b8,b9,c0,.unk,.unk,.unk,.unk,.unk,.unk,.unk,.unk,.unk,.unk,.unk,.unk,.unk,.unk,.unk,.unk,.unk,.unk,.unk,.unk,.unk,.unk,.unk,.unk,.unk] := rfl
@[go_sem] theorem ks19_1 (a b c d e f g h i j k l m n o p q r s t u v w x y z a0 a1 a2 a3 a4 a5 a6 a7 a8 a9 b0 b1 b2 b3 b4 b5 b6 b7 b8 b9 c0 c1 c2 c3 c4 c5 c6 c7 c8 c9 d0 d1 d2 d3 d4 d5 d6 d7 d8 d9 e0 e1 e2 e3 e4 e5 : AV) : keepS [9,10] [a,b,c,d,e,f,g,h,i,j,k,l,m,n,o,p,q,r,s,t,u,v,w,x,y,z,a0,a1,a2,a3,a4,a5,a6,a7,a8,a9,b0,b1,b2,b3,b4,b5,b6,b7,b8,b9,c0,c1,c2,c3,c4,c5,c6,c7,c8,c9,d0,d1,d2,d3,d4,d5,d6,d7,d8,d9,e0,e1,e2,e3,e4,e5] 0 = [.unk,.unk,.unk,.unk,.unk,.unk,.unk,.unk,.unk,j,k,.unk,.unk,.unk,.unk,.unk,.unk,.unk,.unk,.unk,.unk,.unk,.unk,.unk,.unk,.unk,.unk,.unk,.unk,.unk,.unk,.unk,.unk,.unk,.unk,.unk,.unk,.unk,.unk,.unk,.unk,.unk,.unk,.unk,.unk,.unk,.unk,.unk,.unk,.unk,.unk,.unk,.unk,.unk,.unk,.unk,.unk,.unk,.unk,.unk,.unk,.unk,.unk,.unk,.unk,.unk,.unk,.unk,.unk,.unk,.unk,.unk] := rfl
@[go_sem] theorem ks19_2 (a b c d e f g h i j k l m n o p q r s t u v w x y z a0 a1 a2 a3 a4 a5 a6 a7 a8 a9 b0 b1 b2 b3 b4 b5 b6 b7 b8 b9 c0 c1 c2 c3 c4 c5 c6 c7 c8 c9 d0 d1 d2 d3 d4 d5 d6 d7 d8 d9 e0 e1 e2 e3 e4 e5 : AV) : keepS [2,3] [a,b,c,d,e,f,g,h,i,j,k,l,m,n,o,p,q,r,s,t,u,v,w,x,y,z,a0,a1,a2,a3,a4,a5,a6,a7,a8,a9,b0,b1,b2,b3,b4,b5,b6,b7,b8,b9,c0,c1,c2,c3,c4,c5,c6,c7,c8,c9,d0,d1,d2,d3,d4,d5,d6,d7,d8,d9,e0,e1,e2,e3,e4,e5] 0 = [.unk,.unk,c,d,.unk,.unk,.unk,.unk,.unk,.unk,.unk,.unk,.unk,.unk,.unk,.unk,.unk,.unk,.unk,.unk,.unk,.unk,.unk,.unk,.unk,.unk,.unk,.unk,.unk,.unk,.unk,.unk,.unk,.unk,.unk,.unk,.unk,.unk,.unk,.unk,.unk,.unk,.unk,.unk,.unk,.unk,.unk,.unk,.unk,.unk,.unk,.unk,.unk,.unk,.unk,.unk,.unk,.unk,.unk,.unk,.unk,.unk,.unk,.unk,.unk,.unk,.unk,.unk,.unk,.unk,.unk,.unk] := rfl
/-- spence/spenceref04.Specs -/
def bd19 : C :=
 (.seq (.reg [⟨some 2, none, .mv (.c (.d .nils)), .one 3 true⟩,
 ⟨some 3, none, .mv (.c (.d (.int .i64 0))), .none⟩])
 (.seq (.reg [⟨some 16, none, .mv (.s 0), .none⟩,
 ⟨some 17, none, .call 41 [.s 16, .c (.d (.bool false))] 2, .none⟩,
 ⟨some 18, none, .call 40 [.s 17, .c (.d (.int .u8 61))] 2, .none⟩,
 ⟨some 15, none, .mv (.s 18), .none⟩,
 ⟨some 19, none, .ext (.s 15) 0, .none⟩,
 ⟨some 20, none, .ext (.s 15) 1, .none⟩,
 ⟨some 21, none, .ext (.s 15) 2, .none⟩,
 ⟨some 4, none, .mv (.s 19), .none⟩,
 ⟨some 5, none, .mv (.s 20), .none⟩,
 ⟨some 6, none, .mv (.s 21), .none⟩])
 (.seq (.reg [⟨some 23, none, .mv (.s 5), .none⟩,
 ⟨some 24, none, .call 43 [.s 23, .c (.d (.bool false))] 2, .none⟩,
 ⟨some 25, none, .call 42 [.s 24] 2, .none⟩,
 ⟨some 22, none, .mv (.s 25), .none⟩,
 ⟨some 26, none, .ext (.s 22) 0, .none⟩,
 ⟨some 27, none, .ext (.s 22) 1, .none⟩,
 ⟨some 7, none, .mv (.s 26), .none⟩,
 ⟨some 8, none, .mv (.s 27), .none⟩])
 (.seq (.seq (.reg [⟨some 28, none, .mv (.s 6), .none⟩,
 ⟨some 29, none, .un .not (.s 28), .none⟩,
 ⟨some 30, none, .mv (.s 29), .none⟩,
 ⟨some 31, some (30, false), .mv (.s 4), .none⟩,
 ⟨some 32, some (30, false), .call 44 [.s 31] 2, .none⟩,
 ⟨some 33, some (30, false), .bin .neq (.s 32) (.c (.d (.str [98, 121, 116, 101, 115]))), .none⟩,
 ⟨some 34, none, .pick (.s 30) (.c (.d (.bool true))) (.s 33), .none⟩,
 ⟨some 35, none, .mv (.s 34), .none⟩,
 ⟨some 36, some (35, false), .mv (.s 8), .none⟩,
 ⟨some 37, some (35, false), .un .not (.s 36), .none⟩,
 ⟨some 38, none, .pick (.s 35) (.c (.d (.bool true))) (.s 37), .none⟩,
 ⟨some 39, none, .mv (.s 38), .none⟩,
 ⟨some 40, some (39, false), .mv (.s 7), .none⟩,
 ⟨some 41, some (39, false), .len (.s 40), .none⟩,
 ⟨some 42, some (39, false), .bin .eql (.s 41) (.c (.d (.int .i64 0))), .none⟩,
 ⟨some 43, none, .pick (.s 39) (.c (.d (.bool true))) (.s 42), .none⟩])
 (.cond (.s 43)
 (.seq (.reg [⟨some 2, none, .mv (.c (.d .nils)), .one 3 true⟩,
 ⟨some 3, none, .mv (.c (.d (.int .i64 3))), .none⟩])
 (.ret none))
 .skip))
 (.seq (.reg [⟨some 9, none, .mv (.c (.d .nils)), .one 3 true⟩])
 (.seq (.reg [⟨some 10, none, .mv (.c (.d (.bool false))), .none⟩])
 (.seq (.seq (.reg [⟨some 44, none, .mv (.s 7), .none⟩,
 ⟨some 45, none, .len (.s 44), .none⟩,
 ⟨some 46, none, .mv (.c (.d (.int .i64 0))), .none⟩])
 (.block 0 (.loop [9, 10, 44, 45, 46] lp19_0)))
 (.seq (.seq (.reg [⟨some 67, none, .mv (.s 10), .none⟩])
 (.cond (.s 67)
 (.seq (.reg [⟨some 2, none, .mv (.c (.d .nils)), .one 3 true⟩,
 ⟨some 3, none, .mv (.c (.d (.int .i64 9))), .none⟩])
 (.ret none))
 .skip))
 (.seq (.seq (.reg [⟨some 68, none, .mv (.s 9), .none⟩,
 ⟨some 69, none, .len (.s 68), .none⟩,
 ⟨some 70, none, .bin .gtr (.s 69) (.c (.d (.int .i64 16))), .none⟩])
 (.cond (.s 70)
 (.seq (.reg [⟨some 2, none, .mv (.c (.d .nils)), .one 3 true⟩,
 ⟨some 3, none, .mv (.c (.d (.int .i64 10))), .none⟩])
 (.ret none))
 .skip))
 (.seq (.reg [⟨some 71, none, .mv (.s 9), .none⟩,
 ⟨some 2, none, .mv (.s 71), .none⟩,
 ⟨some 3, none, .mv (.c (.d (.int .i64 0))), .none⟩])
 (.ret none)))))))))))
def ir19 : F := { n := 72, res := [.tmp 2, .tmp 3], body := bd19 }
@[go_sem] theorem n19 : ir19.n = 72 := rfl
@[go_sem] theorem r19 : ir19.res = [.tmp 2, .tmp 3] := rfl
@[go_sem] theorem b19 : ir19.body = bd19 := rfl
/-- spence/spenceref04.Use -/
def bd20 : C :=
 (.seq (.reg [⟨some 4, none, .mv (.c (.d (.bool false))), .none⟩])
 (.seq (.reg [⟨some 8, none, .mv (.s 0), .none⟩,
 ⟨some 9, none, .call 41 [.s 8, .c (.d (.bool false))] 2, .none⟩,
 ⟨some 5, none, .mv (.s 9), .none⟩])
 (.seq (.reg [⟨some 11, none, .mv (.s 5), .none⟩,
 ⟨some 12, none, .call 46 [.s 11] 2, .none⟩,
 ⟨some 10, none, .mv (.s 12), .none⟩,
 ⟨some 13, none, .ext (.s 10) 0, .none⟩,
 ⟨some 14, none, .ext (.s 10) 1, .none⟩,
 ⟨some 6, none, .alloc 55 [.bool false, .str []], .none⟩,
 ⟨none, none, .st (.s 6) (.s 13) 2, .none⟩,
 ⟨some 7, none, .mv (.s 14), .none⟩])
 (.seq (.reg [⟨some 15, none, .mv (.s 5), .none⟩,
 ⟨some 16, none, .bin .eql (.s 15) (.c (.d (.str []))), .none⟩,
 ⟨some 17, none, .mv (.s 16), .none⟩,
 ⟨some 18, some (17, false), .mv (.s 7), .none⟩,
 ⟨some 19, some (17, false), .bin .eql (.s 18) (.c (.d (.int .i64 0))), .none⟩,
 ⟨some 20, some (17, false), .mv (.s 19), .none⟩,
 ⟨some 21, some (20, true), .fa (.s 6) 0, .none⟩,
 ⟨some 22, some (20, true), .ld (.s 21) 1 false, .none⟩,
 ⟨some 23, some (20, true), .un .not (.s 22), .none⟩,
 ⟨some 24, some (17, false), .pick (.s 20) (.s 23) (.c (.d (.bool false))), .none⟩,
 ⟨some 25, some (17, false), .mv (.s 24), .none⟩,
 ⟨some 26, some (25, true), .fa (.s 6) 1, .none⟩,
 ⟨some 27, some (25, true), .ld (.s 26) 1 false, .none⟩,
 ⟨some 28, some (25, true), .mv (.s 1), .none⟩,
 ⟨some 29, some (25, true), .bin .eql (.s 27) (.s 28), .none⟩,
 ⟨some 30, some (17, false), .pick (.s 25) (.s 29) (.c (.d (.bool false))), .none⟩,
 ⟨some 31, none, .pick (.s 17) (.c (.d (.bool true))) (.s 30), .none⟩,
 ⟨some 4, none, .mv (.s 31), .none⟩])
 (.ret none)))))
def ir20 : F := { n := 32, res := [.tmp 4], body := bd20 }
@[go_sem] theorem n20 : ir20.n = 32 := rfl
@[go_sem] theorem r20 : ir20.res = [.tmp 4] := rfl
@[go_sem] theorem b20 : ir20.body = bd20 := rfl
def lb21_0 : C :=
 (.seq (.reg [⟨some 19, none, .bin .lss (.s 18) (.s 17), .none⟩])
 (.seq (.cond (.s 19)
 .skip
 (.exit 0 (some [5])))
 (.seq (.block 1 (.seq (.reg [⟨some 20, none, .is (.s 16) (.s 18) 3, .none⟩,
 ⟨some 21, none, .ld (.s 20) 3 true, .none⟩,
 ⟨some 7, none, .alloc 61 [.int .i64 0, .int .i64 0, .int .i64 0], .none⟩,
 ⟨none, none, .st (.s 7) (.s 21) 3, .none⟩])
 (.seq (.seq (.reg [⟨some 22, none, .ld (.s 7) 3 true, .none⟩,
 ⟨some 23, none, .call 47 [.s 22] 2, .none⟩,
 ⟨some 24, none, .un .not (.s 23), .none⟩])
 (.cond (.s 24)
 (.exit 1 none)
 .skip))
 (.seq (.reg [⟨some 25, none, .fa (.s 7) 1, .none⟩,
 ⟨some 26, none, .ld (.s 25) 1 false, .none⟩,
 ⟨some 27, none, .mv (.s 1), .none⟩,
 ⟨some 28, none, .build [.int .i64 0, .int .i64 0] [(0, (1, .s 26)), (1, (1, .s 27))], .none⟩,
 ⟨some 8, none, .alloc 32 [.int .i64 0, .int .i64 0], .none⟩,
 ⟨none, none, .st (.s 8) (.s 28) 2, .none⟩])
 (.seq (.seq (.reg [⟨some 29, none, .fa (.s 7) 0, .none⟩,
 ⟨some 30, none, .ld (.s 29) 1 false, .none⟩,
 ⟨some 31, none, .bin .eql (.s 30) (.c (.d (.int .i64 2))), .none⟩,
 ⟨some 32, none, .mv (.s 31), .none⟩,
 ⟨some 33, some (32, true), .fa (.s 7) 2, .none⟩,
 ⟨some 34, some (32, true), .ld (.s 33) 1 false, .none⟩,
 ⟨some 35, some (32, true), .mv (.s 1), .none⟩,
 ⟨some 36, some (32, true), .bin .sub (.s 35) (.c (.d (.int .i64 1))), .none⟩,
 ⟨some 37, some (32, true), .bin .lss (.s 34) (.s 36), .none⟩,
 ⟨some 38, none, .pick (.s 32) (.s 37) (.c (.d (.bool false))), .none⟩])
 (.cond (.s 38)
 (.reg [⟨some 39, none, .fa (.s 7) 2, .none⟩,
 ⟨some 40, none, .ld (.s 39) 1 false, .none⟩,
 ⟨some 41, none, .bin .add (.s 40) (.c (.d (.int .i64 1))), .none⟩,
 ⟨some 42, none, .fa (.s 8) 1, .none⟩,
 ⟨none, none, .st (.s 42) (.s 41) 1, .none⟩])
 .skip))
 (.ann [1, 5, 7, 8, 16, 17, 18] (.seq (.seq (.reg [⟨some 43, none, .fa (.s 7) 0, .none⟩,
 ⟨some 44, none, .ld (.s 43) 1 false, .none⟩,
 ⟨some 45, none, .bin .eql (.s 44) (.c (.d (.int .i64 3))), .none⟩])
 (.cond (.s 45)
 (.seq (.reg [⟨some 46, none, .fa (.s 8) 0, .none⟩,
 ⟨none, none, .st (.s 46) (.c (.d (.int .i64 0))) 1, .none⟩])
 (.seq (.reg [⟨some 47, none, .fa (.s 7) 1, .none⟩,
 ⟨some 48, none, .ld (.s 47) 1 false, .none⟩,
 ⟨some 49, none, .mv (.s 1), .none⟩,
 ⟨some 50, none, .bin .lss (.s 48) (.s 49), .none⟩])
 (.cond (.s 50)
 (.reg [⟨some 51, none, .mv (.s 1), .none⟩,
 ⟨some 52, none, .fa (.s 7) 1, .none⟩,
 ⟨some 53, none, .ld (.s 52) 1 false, .none⟩,
 ⟨some 54, none, .bin .sub (.s 51) (.s 53), .none⟩,
 ⟨some 55, none, .fa (.s 8) 0, .none⟩,
 ⟨none, none, .st (.s 55) (.s 54) 1, .none⟩])
 .skip)))
 .skip))
 (.ann [1, 5, 8, 16, 17, 18] (.seq (.reg [⟨some 56, none, .ld (.s 8) 2 true, .none⟩,
 ⟨some 57, none, .call 8 [.s 56] 2, .none⟩])
 (.cond (.s 57)
 (.reg [⟨some 58, none, .mv (.s 5), .none⟩,
 ⟨some 59, none, .ld (.s 8) 2 true, .none⟩,
 ⟨some 60, none, .bsl 32 2 1 [.int .i64 0, .int .i64 0] [(0, (2, .s 59))], .none⟩,
 ⟨some 61, none, .app 32 2 16 (.s 58) (.s 60), .none⟩,
 ⟨some 5, none, .mv (.s 61), .none⟩])
 .skip))))))))))
 (.reg [⟨some 62, none, .bin .add (.s 18) (.c (.d (.int .i64 1))), .none⟩,
 ⟨some 18, none, .mv (.s 62), .none⟩]))))
def lp21_0 : C := lb21_0
theorem u21_0 (c : Ev.Callee) (l : Ev.Looper) (s : St) : evC c l lp21_0 s = evC c l lb21_0 s := rfl
abbrev st21_0 (m : Nat) (s1 s5 s16 s17 s18 : AV) (h : Heap) : St := ⟨m,[.unk,s1,.unk,.unk,.unk,s5,.unk,.unk,.unk,.unk,.unk,.unk,.unk,.unk,.unk,.unk,s16,s17,s18,.unk,.unk,.unk,.unk,.unk,.unk,.unk,.unk,.unk,.unk,.unk,.unk,.unk,.unk,.unk,.unk,.unk,.unk,.unk,.unk,.unk,.unk,.unk,.unk,.unk,.unk,.unk,.unk,.unk,.unk,.unk,.unk,.unk,.unk,.unk,.unk,.unk,.unk,.unk,.unk,.unk,.unk,.unk,.unk,.unk],h⟩
@[go_sem] theorem ks21_0 (a b c d e f g h i j k l m n o p q r s t u v w x y z a0 a1 a2 a3 a4 a5 a6 a7 a8 a9 b0 b1 b2 b3 b4 b5 b6 b7 b8 b9 c0 c1 c2 c3 c4 c5 c6 c7 c8 c9 d0 d1 d2 d3 d4 d5 d6 d7 : AV) : keepS [1,5,16,17,18] [a,b,c,d,e,f,g,h,i,j,k,l,m,n,o,p,q,r,s,t,u,v,w,x,y,z,a0,a1,a2,a3,a4,a5,a6,a7,a8,a9,b0,b1,b2,b3,b4,b5,b6,b7,b8,b9,c0,c1,c2,c3,c4,c5,c6,c7,c8,c9,d0,d1,d2,d3,d4,d5,d6,d7] 0 = [.unk,b,.unk,.unk,.unk,f,.unk,.unk,.unk,.unk,.unk,.unk,.unk,.unk,.unk,.unk,q,r,s,.unk,.unk,.unk,.unk,.unk,.unk,.unk,.unk,.unk,.unk,.unk,.unk,.unk,.unk,.unk,.unk,.unk,.unk,.unk,.unk,.unk,.unk,.unk,.unk,.unk,.unk,.unk,.unk,.unk,.unk,.unk,.unk,.unk,.unk,.unk,.unk,.unk,.unk,.unk,.unk,.unk,.unk,.unk,.unk,.unk] := rfl
@[go_sem] theorem ks21_1 (a b c d e f g h i j k l m n o p q r s t u v w x y z a0 a1 a2 a3 a4 a5 a6 a7 a8 a9 b0 b1 b2 b3 b4 b5 b6 b7 b8 b9 c0 c1 c2 c3 c4 c5 c6 c7 c8 c9 d0 d1 d2 d3 d4 d5 d6 d7 : AV) : keepS [5] [a,b,c,d,e,f,g,h,i,j,k,l,m,n,o,p,q,r,s,t,u,v,w,x,y,z,a0,a1,a2,a3,a4,a5,a6,a7,a8,a9,b0,b1,b2,b3,b4,b5,b6,b7,b8,b9,c0,c1,c2,c3,c4,c5,c6,c7,c8,c9,d0,d1,d2,d3,d4,d5,d6,d7] 0 = [.unk,.unk,.unk,.unk,.unk,f,.unk,.unk,.unk,.unk,.unk,.unk,.unk,.unk,.unk,.unk,.unk,.unk,.unk,.unk,.unk,.unk,.unk,.unk,.unk,.unk,.unk,.unk,.unk,.unk,.unk,.unk,.unk,.unk,.unk,.unk,.unk,.unk,.unk,.unk,.unk,.unk,.unk,.unk,.unk,.unk,.unk,.unk,.unk,.unk,.unk,.unk,.unk,.unk,.unk,.unk,.unk,.unk,.unk,.unk,.unk,.unk,.unk,.unk] := rfl
@[go_sem] theorem ks21_2 (a b c d e f g h i j k l m n o p q r s t u v w x y z a0 a1 a2 a3 a4 a5 a6 a7 a8 a9 b0 b1 b2 b3 b4 b5 b6 b7 b8 b9 c0 c1 c2 c3 c4 c5 c6 c7 c8 c9 d0 d1 d2 d3 d4 d5 d6 d7 : AV) : keepS [1,5,7,8,16,17,18] [a,b,c,d,e,f,g,h,i,j,k,l,m,n,o,p,q,r,s,t,u,v,w,x,y,z,a0,a1,a2,a3,a4,a5,a6,a7,a8,a9,b0,b1,b2,b3,b4,b5,b6,b7,b8,b9,c0,c1,c2,c3,c4,c5,c6,c7,c8,c9,d0,d1,d2,d3,d4,d5,d6,d7] 0 = [.unk,b,.unk,.unk,.unk,f,.unk,h,i,.unk,.unk,.unk,.unk,.unk,.unk,.unk,q,r,s,.unk,.unk,.unk,.unk,.unk,.unk,.unk,.unk,.unk,.unk,.unk,.unk,.unk,.unk,.unk,.unk,.unk,.unk,.unk,.unk,.unk,.unk,.unk,.unk,.unk,.unk,.unk,.unk,.unk,.unk,.unk,.unk,.unk,.unk,.unk,.unk,.unk,.unk,.unk,.unk,.unk,.unk,.unk,.unk,.unk] := rfl
@[go_sem] theorem ks21_3 (a b c d e f g h i j k l m n o p q r s t u v w x y z a0 a1 a2 a3 a4 a5 a6 a7 a8 a9 b0 b1 b2 b3 b4 b5 b6 b7 b8 b9 c0 c1 c2 c3 c4 c5 c6 c7 c8 c9 d0 d1 d2 d3 d4 d5 d6 d7 : AV) : keepS [1,5,8,16,17,18] [a,b,c,d,e,f,g,h,i,j,k,l,m,n,o,p,q,r,s,t,u,v,w,x,y,z,a0,a1,a2,a3,a4,a5,a6,a7,a8,a9,b0,b1,b2,b3,b4,b5,b6,b7,b8,b9,c0,c1,c2,c3,c4,c5,c6,c7,c8,c9,d0,d1,d2,d3,d4,d5,d6,d7] 0 = [.unk,b,.unk,.unk,.unk,f,.unk,.unk,i,.unk,.unk,.unk,.unk,.unk,.unk,.unk,q,r,s,.unk,.unk,.unk,.unk,.unk,.unk,.unk,.unk,.unk,.unk,.unk,.unk,.unk,.unk,.unk,.unk,.unk,.unk,.unk,.unk,.unk,.unk,.unk,.unk,.unk,.unk,.unk,.unk,.unk,.unk,.unk,.unk,.unk,.unk,.unk,.unk,.unk,.unk,.unk,.unk,.unk,.unk,.unk,.unk,.unk] := rfl
/-- spence/spenceref04.Resolve -/
def bd21 : C :=
 (.seq (.reg [⟨some 4, none, .mv (.c (.d .nils)), .one 2 true⟩])
 (.seq (.reg [⟨some 5, none, .mv (.c (.d .nils)), .one 2 true⟩])
 (.seq (.seq (.reg [⟨some 9, none, .mv (.s 1), .none⟩,
 ⟨some 10, none, .bin .lss (.s 9) (.c (.d (.int .i64 1))), .none⟩,
 ⟨some 11, none, .mv (.s 10), .none⟩,
 ⟨some 12, some (11, false), .mv (.s 1), .none⟩,
 ⟨some 13, some (11, false), .bin .gtr (.s 12) (.c (.d (.int .i64 4611686018427387903))), .none⟩,
 ⟨some 14, none, .pick (.s 11) (.c (.d (.bool true))) (.s 13), .none⟩])
 (.cond (.s 14)
 (.seq (.reg [⟨some 15, none, .mv (.s 5), .none⟩,
 ⟨some 4, none, .mv (.s 15), .none⟩])
 (.ret none))
 .skip))
 (.seq (.seq (.reg [⟨some 16, none, .mv (.s 0), .none⟩,
 ⟨some 17, none, .len (.s 16), .none⟩,
 ⟨some 18, none, .mv (.c (.d (.int .i64 0))), .none⟩])
 (.block 0 (.loop [1, 5, 16, 17, 18] lp21_0)))
 (.seq (.reg [⟨some 63, none, .mv (.s 5), .none⟩,
 ⟨some 4, none, .mv (.s 63), .none⟩])
 (.ret none))))))
def ir21 : F := { n := 64, res := [.tmp 4], body := bd21 }
@[go_sem] theorem n21 : ir21.n = 64 := rfl
@[go_sem] theorem r21 : ir21.res = [.tmp 4] := rfl
@[go_sem] theorem b21 : ir21.body = bd21 := rfl
def lb22_2 : C :=
 (.seq (.seq (.reg [⟨some 52, none, .mv (.s 9), .none⟩,
 ⟨some 53, none, .bin .add (.s 52) (.c (.d (.int .i64 1))), .none⟩,
 ⟨some 54, none, .mv (.s 5), .none⟩,
 ⟨some 55, none, .len (.s 54), .none⟩,
 ⟨some 56, none, .bin .lss (.s 53) (.s 55), .none⟩])
 (.cond (.s 56)
 .skip
 (.exit 4 (some [5]))))
 (.block 5 (.seq (.drr [⟨some 57, none, .mv (.s 5), .none⟩,
 ⟨some 58, none, .mv (.s 9), .none⟩,
 ⟨some 59, none, .is (.s 57) (.s 58) 2, .none⟩,
 ⟨some 60, none, .ld (.s 59) 2 true, .none⟩,
 ⟨some 61, none, .mv (.s 5), .none⟩,
 ⟨some 62, none, .mv (.s 9), .none⟩,
 ⟨some 63, none, .bin .add (.s 62) (.c (.d (.int .i64 1))), .none⟩,
 ⟨some 64, none, .is (.s 61) (.s 63) 2, .none⟩,
 ⟨some 65, none, .ld (.s 64) 2 true, .none⟩,
 ⟨some 10, none, .alloc 32 [.int .i64 0, .int .i64 0], .res []⟩,
 ⟨some 11, none, .alloc 32 [.int .i64 0, .int .i64 0], .res []⟩,
 ⟨none, none, .st (.s 10) (.s 60) 2, .none⟩,
 ⟨none, none, .st (.s 11) (.s 65) 2, .none⟩]
 [[], [], [0, 1], [2], [], [], [5], [4, 6], [7], [], [], [9, 3, 0, 1, 2, 3, 9, 10], [10, 8, 11, 0, 1, 2, 3, 4, 5, 6, 7, 8, 9, 10, 11]] [(64, 10)] [] [])
 (.seq (.seq (.reg [⟨some 66, none, .fa (.s 11) 0, .none⟩,
 ⟨some 67, none, .ld (.s 66) 1 false, .none⟩,
 ⟨some 68, none, .fa (.s 10) 1, .none⟩,
 ⟨some 69, none, .ld (.s 68) 1 false, .none⟩,
 ⟨some 70, none, .bin .sub (.s 67) (.s 69), .none⟩,
 ⟨some 71, none, .mv (.s 1), .none⟩,
 ⟨some 72, none, .bin .gtr (.s 70) (.s 71), .none⟩])
 (.cond (.s 72)
 (.seq (.reg [⟨some 73, none, .mv (.s 9), .none⟩,
 ⟨some 74, none, .bin .add (.s 73) (.c (.d (.int .i64 1))), .none⟩,
 ⟨some 9, none, .mv (.s 74), .none⟩])
 (.exit 5 none))
 .skip))
 (.seq (.seq (.reg [⟨some 75, none, .fa (.s 11) 1, .none⟩,
 ⟨some 76, none, .ld (.s 75) 1 false, .none⟩,
 ⟨some 77, none, .fa (.s 10) 1, .none⟩,
 ⟨some 78, none, .ld (.s 77) 1 false, .none⟩,
 ⟨some 79, none, .bin .gtr (.s 76) (.s 78), .none⟩])
 (.cond (.s 79)
 (.reg [⟨some 80, none, .fa (.s 11) 1, .none⟩,
 ⟨some 81, none, .ld (.s 80) 1 false, .none⟩,
 ⟨some 82, none, .fa (.s 10) 1, .none⟩,
 ⟨none, none, .st (.s 82) (.s 81) 1, .none⟩])
 .skip))
 (.ann [1, 5, 9, 10] (.drw [⟨some 83, none, .mv (.s 5), .none⟩,
 ⟨some 84, none, .mv (.s 9), .none⟩,
 ⟨some 85, none, .mv (.s 9), .none⟩,
 ⟨some 86, none, .sl (.s 83) none (some (.s 84)) (some (.s 85)) 2, .none⟩,
 ⟨some 87, none, .ld (.s 10) 2 true, .none⟩,
 ⟨some 88, none, .bsl 32 2 1 [.int .i64 0, .int .i64 0] [(0, (2, .s 87))], .none⟩,
 ⟨some 89, none, .app 32 2 16 (.s 86) (.s 88), .none⟩,
 ⟨some 90, none, .mv (.s 5), .none⟩,
 ⟨some 91, none, .mv (.s 9), .none⟩,
 ⟨some 92, none, .bin .add (.s 91) (.c (.d (.int .i64 2))), .none⟩,
 ⟨some 93, none, .sl (.s 90) (some (.s 92)) none none 2, .none⟩,
 ⟨some 94, none, .app 32 2 16 (.s 89) (.s 93), .none⟩,
 ⟨some 5, none, .mv (.s 94), .none⟩]
 [[], [], [], [0, 1, 2], [], [4], [3, 5], [], [], [8], [7, 9], [6, 10, 6], [11, 11, 0, 1, 2, 3, 4, 5, 6, 7, 8, 9, 10, 11]] [])))))))
def lp22_2 : C := lb22_2
theorem u22_2 (c : Ev.Callee) (l : Ev.Looper) (s : St) : evC c l lp22_2 s = evC c l lb22_2 s := rfl
abbrev st22_2 (m : Nat) (s1 s5 s9 : AV) (h : Heap) : St := ⟨m,[.unk,s1,.unk,.unk,.unk,s5,.unk,.unk,.unk,s9,.unk,.unk,.unk,.unk,.unk,.unk,.unk,.unk,.unk,.unk,.unk,.unk,.unk,.unk,.unk,.unk,.unk,.unk,.unk,.unk,.unk,.unk,.unk,.unk,.unk,.unk,.unk,.unk,.unk,.unk,.unk,.unk,.unk,.unk,.unk,.unk,.unk,.unk,.unk,.unk,.unk,.unk,.unk,.unk,.unk,.unk,.unk,.unk,.unk,.unk,.unk,.unk,.unk,.unk,.unk,.unk,.unk,.unk,.unk,.unk,.unk,.unk,.unk,.unk,.unk,.unk,.unk,.unk,.unk,.unk,.unk,.unk,.unk,.unk,.unk,.unk,.unk,.unk,.unk,.unk,.unk,.unk,.unk,.unk,.unk,.unk],h⟩
def lb22_1 : C :=
 (.seq (.seq (.drw [⟨some 25, none, .mv (.s 8), .none⟩,
 ⟨some 26, none, .bin .gtr (.s 25) (.c (.d (.int .i64 0))), .none⟩,
 ⟨some 27, none, .mv (.s 26), .none⟩,
 ⟨some 28, some (27, true), .mv (.s 5), .none⟩,
 ⟨some 29, some (27, true), .mv (.s 8), .none⟩,
 ⟨some 30, some (27, true), .bin .sub (.s 29) (.c (.d (.int .i64 1))), .none⟩,
 ⟨some 31, some (27, true), .is (.s 28) (.s 30) 2, .none⟩,
 ⟨some 32, some (27, true), .fa (.s 31) 0, .none⟩,
 ⟨some 33, some (27, true), .ld (.s 32) 1 false, .none⟩,
 ⟨some 34, some (27, true), .fa (.s 7) 0, .none⟩,
 ⟨some 35, some (27, true), .ld (.s 34) 1 false, .none⟩,
 ⟨some 36, some (27, true), .bin .gtr (.s 33) (.s 35), .none⟩,
 ⟨some 37, none, .pick (.s 27) (.s 36) (.c (.d (.bool false))), .none⟩]
 [[], [0], [1], [2], [2], [4, 2], [3, 5, 2], [6, 2], [7, 2], [2], [9, 2], [8, 10, 2], [2, 11]] [])
 (.cond (.s 37)
 .skip
 (.exit 2 (some [1, 5, 7, 8, 14, 15, 16]))))
 (.block 3 (.reg [⟨some 38, none, .mv (.s 8), .none⟩,
 ⟨some 39, none, .bin .sub (.s 38) (.c (.d (.int .i64 1))), .none⟩,
 ⟨some 8, none, .mv (.s 39), .none⟩])))
def lp22_1 : C := lb22_1
theorem u22_1 (c : Ev.Callee) (l : Ev.Looper) (s : St) : evC c l lp22_1 s = evC c l lb22_1 s := rfl
abbrev st22_1 (m : Nat) (s1 s5 s7 s8 s14 s15 s16 : AV) (h : Heap) : St := ⟨m,[.unk,s1,.unk,.unk,.unk,s5,.unk,s7,s8,.unk,.unk,.unk,.unk,.unk,s14,s15,s16,.unk,.unk,.unk,.unk,.unk,.unk,.unk,.unk,.unk,.unk,.unk,.unk,.unk,.unk,.unk,.unk,.unk,.unk,.unk,.unk,.unk,.unk,.unk,.unk,.unk,.unk,.unk,.unk,.unk,.unk,.unk,.unk,.unk,.unk,.unk,.unk,.unk,.unk,.unk,.unk,.unk,.unk,.unk,.unk,.unk,.unk,.unk,.unk,.unk,.unk,.unk,.unk,.unk,.unk,.unk,.unk,.unk,.unk,.unk,.unk,.unk,.unk,.unk,.unk,.unk,.unk,.unk,.unk,.unk,.unk,.unk,.unk,.unk,.unk,.unk,.unk,.unk,.unk,.unk],h⟩
def lb22_0 : C :=
 (.seq (.reg [⟨some 17, none, .bin .lss (.s 16) (.s 15), .none⟩])
 (.seq (.cond (.s 17)
 .skip
 (.exit 0 (some [1, 5])))
 (.seq (.block 1 (.seq (.reg [⟨some 18, none, .is (.s 14) (.s 16) 2, .none⟩,
 ⟨some 19, none, .ld (.s 18) 2 true, .none⟩,
 ⟨some 7, none, .alloc 32 [.int .i64 0, .int .i64 0], .none⟩,
 ⟨none, none, .st (.s 7) (.s 19) 2, .none⟩])
 (.seq (.seq (.reg [⟨some 20, none, .ld (.s 7) 2 true, .none⟩,
 ⟨some 21, none, .call 8 [.s 20] 2, .none⟩,
 ⟨some 22, none, .un .not (.s 21), .none⟩])
 (.cond (.s 22)
 (.exit 1 none)
 .skip))
 (.seq (.reg [⟨some 23, none, .mv (.s 5), .none⟩,
 ⟨some 24, none, .len (.s 23), .none⟩,
 ⟨some 8, none, .mv (.s 24), .none⟩])
 (.seq (.block 2 (.loop [1, 5, 7, 8, 14, 15, 16] lp22_1))
 (.drw [⟨some 40, none, .mv (.s 5), .none⟩,
 ⟨some 41, none, .mv (.s 8), .none⟩,
 ⟨some 42, none, .mv (.s 8), .none⟩,
 ⟨some 43, none, .sl (.s 40) none (some (.s 41)) (some (.s 42)) 2, .none⟩,
 ⟨some 44, none, .ld (.s 7) 2 true, .none⟩,
 ⟨some 45, none, .bsl 32 2 1 [.int .i64 0, .int .i64 0] [(0, (2, .s 44))], .none⟩,
 ⟨some 46, none, .mv (.s 5), .none⟩,
 ⟨some 47, none, .mv (.s 8), .none⟩,
 ⟨some 48, none, .sl (.s 46) (some (.s 47)) none none 2, .none⟩,
 ⟨some 49, none, .app 32 2 16 (.s 45) (.s 48), .none⟩,
 ⟨some 50, none, .app 32 2 16 (.s 43) (.s 49), .none⟩,
 ⟨some 5, none, .mv (.s 50), .none⟩]
 [[], [], [], [0, 1, 2], [], [4], [], [], [6, 7], [5, 8], [3, 9, 9], [10, 10, 0, 1, 2, 3, 4, 5, 6, 7, 8, 9, 10]] []))))))
 (.reg [⟨some 51, none, .bin .add (.s 16) (.c (.d (.int .i64 1))), .none⟩,
 ⟨some 16, none, .mv (.s 51), .none⟩]))))
def lp22_0 : C := lb22_0
theorem u22_0 (c : Ev.Callee) (l : Ev.Looper) (s : St) : evC c l lp22_0 s = evC c l lb22_0 s := rfl
abbrev st22_0 (m : Nat) (s1 s5 s14 s15 s16 : AV) (h : Heap) : St := ⟨m,[.unk,s1,.unk,.unk,.unk,s5,.unk,.unk,.unk,.unk,.unk,.unk,.unk,.unk,s14,s15,s16,.unk,.unk,.unk,.unk,.unk,.unk,.unk,.unk,.unk,.unk,.unk,.unk,.unk,.unk,.unk,.unk,.unk,.unk,.unk,.unk,.unk,.unk,.unk,.unk,.unk,.unk,.unk,.unk,.unk,.unk,.unk,.unk,.unk,.unk,.unk,.unk,.unk,.unk,.unk,.unk,.unk,.unk,.unk,.unk,.unk,.unk,.unk,.unk,.unk,.unk,.unk,.unk,.unk,.unk,.unk,.unk,.unk,.unk,.unk,.unk,.unk,.unk,.unk,.unk,.unk,.unk,.unk,.unk,.unk,.unk,.unk,.unk,.unk,.unk,.unk,.unk,.unk,.unk,.unk],h⟩
@[go_sem] theorem ks22_0 (a b c d e f g h i j k l m n o p q r s t u v w x y z a0 a1 a2 a3 a4 a5 a6 a7 a8 a9 b0 b1 b2 b3 b4 b5 b6 b7 b8 b9 c0 c1 c2 c3 c4 c5 c6 c7 c8 c9 d0 d1 d2 d3 d4 d5 d6 d7 d8 d9 e0 e1 e2 e3 e4 e5 e6 e7 e8 e9 f0 f1 f2 f3 f4 f5 f6 f7 f8 f9 g0 g1 g2 g3 g4 g5 g6 g7 g8 g9 : AV) : keepS [0,1] [a,b,c,d,e,f,g,h,i,j,k,l,m,n,o,p,q,r,s,t,u,v,w,x,y,z,a0,a1,a2,a3,a4,a5,a6,a7,a8,a9,b0,b1,b2,b3,b4,b5,b6,b7,b8,b9,c0,c1,c2,c3,c4,c5,c6,c7,c8,c9,d0,d1,d2,d3,d4,d5,d6,d7,d8,d9,e0,e1,e2,e3,e4,e5,e6,e7,e8,e9,f0,f1,f2,f3,f4,f5,f6,f7,f8,f9,g0,g1,g2,g3,g4,g5,g6,g7,g8,g9] 0 = [a,b,.unk,.unk,.unk,.unk,.unk,.unk,.unk,.unk,.unk,.unk,.unk,.unk,.unk,.unk,.unk,.unk,.unk,.unk,.unk,.unk,.unk,.unk,.unk,.unk,.unk,.unk,.unk,.unk,.unk,.unk,.unk,.unk,.unk,.unk,.unk,.unk,.unk,.unk,.unk,.unk,.unk,.unk,.unk,.unk,.unk,.unk,.unk,.unk,.unk,.unk,.unk,.unk,.unk,.unk,.unk,.unk,.unk,.unk,.unk,.unk,.unk,.unk,.unk,.unk,.unk,.unk,.unk,.unk,.unk,.unk,.unk,.unk,.unk,.unk,.unk,.unk,.unk,.unk,.unk,.unk,.unk,.unk,.unk,.unk,.unk,.unk,.unk,.unk,.unk,.unk,.unk,.unk,.unk,.unk] := rfl
@[go_sem] theorem ks22_1 (a b c d e f g h i j k l m n o p q r s t u v w x y z a0 a1 a2 a3 a4 a5 a6 a7 a8 a9 b0 b1 b2 b3 b4 b5 b6 b7 b8 b9 c0 c1 c2 c3 c4 c5 c6 c7 c8 c9 d0 d1 d2 d3 d4 d5 d6 d7 d8 d9 e0 e1 e2 e3 e4 e5 e6 e7 e8 e9 f0 f1 f2 f3 f4 f5 f6 f7 f8 f9 g0 g1 g2 g3 g4 g5 g6 g7 g8 g9 : AV) : keepS [1,5,14,15,16] [a,b,c,d,e,f,g,h,i,j,k,l,m,n,o,p,q,r,s,t,u,v,w,x,y,z,a0,a1,a2,a3,a4,a5,a6,a7,a8,a9,b0,b1,b2,b3,b4,b5,b6,b7,b8,b9,c0,c1,c2,c3,c4,c5,c6,c7,c8,c9,d0,d1,d2,d3,d4,d5,d6,d7,d8,d9,e0,e1,e2,e3,e4,e5,e6,e7,e8,e9,f0,f1,f2,f3,f4,f5,f6,f7,f8,f9,g0,g1,g2,g3,g4,g5,g6,g7,g8,g9] 0 = [.unk,b,.unk,.unk,.unk,f,.unk,.unk,.unk,.unk,.unk,.unk,.unk,.unk,o,p,q,.unk,.unk,.unk,.unk,.unk,.unk,.unk,.unk,.unk,.unk,.unk,.unk,.unk,.unk,.unk,.unk,.unk,.unk,.unk,.unk,.unk,.unk,.unk,.unk,.unk,.unk,.unk,.unk,.unk,.unk,.unk,.unk,.unk,.unk,.unk,.unk,.unk,.unk,.unk,.unk,.unk,.unk,.unk,.unk,.unk,.unk,.unk,.unk,.unk,.unk,.unk,.unk,.unk,.unk,.unk,.unk,.unk,.unk,.unk,.unk,.unk,.unk,.unk,.unk,.unk,.unk,.unk,.unk,.unk,.unk,.unk,.unk,.unk,.unk,.unk,.unk,.unk,.unk,.unk] := rfl
@[go_sem] theorem ks22_2 (a b c d e f g h i j k l m n o p q r s t u v w x y z a0 a1 a2 a3 a4 a5 a6 a7 a8 a9 b0 b1 b2 b3 b4 b5 b6 b7 b8 b9 c0 c1 c2 c3 c4 c5 c6 c7 c8 c9 d0 d1 d2 d3 d4 d5 d6 d7 d8 d9 e0 e1 e2 e3 e4 e5 e6 e7 e8 e9 f0 f1 f2 f3 f4 f5 f6 f7 f8 f9 g0 g1 g2 g3 g4 g5 g6 g7 g8 g9 : AV) : keepS [1,5] [a,b,c,d,e,f,g,h,i,j,k,l,m,n,o,p,q,r,s,t,u,v,w,x,y,z,a0,a1,a2,a3,a4,a5,a6,a7,a8,a9,b0,b1,b2,b3,b4,b5,b6,b7,b8,b9,c0,c1,c2,c3,c4,c5,c6,c7,c8,c9,d0,d1,d2,d3,d4,d5,d6,d7,d8,d9,e0,e1,e2,e3,e4,e5,e6,e7,e8,e9,f0,f1,f2,f3,f4,f5,f6,f7,f8,f9,g0,g1,g2,g3,g4,g5,g6,g7,g8,g9] 0 = [.unk,b,.unk,.unk,.unk,f,.unk,.unk,.unk,.unk,.unk,.unk,.unk,.unk,.unk,.unk,.unk,.unk,.unk,.unk,.unk,.unk,.unk,.unk,.unk,.unk,.unk,.unk,.unk,.unk,.unk,.unk,.unk,.unk,.unk,.unk,.unk,.unk,.unk,.unk,.unk,.unk,.unk,.unk,.unk,.unk,.unk,.unk,.unk,.unk,.unk,.unk,.unk,.unk,.unk,.unk,.unk,.unk,.unk,.unk,.unk,.unk,.unk,.unk,.unk,.unk,.unk,.unk,.unk,.unk,.unk,.unk,.unk,.unk,.unk,.unk,.unk,.unk,.unk,.unk,.unk,.unk,.unk,.unk,.unk,.unk,.unk,.unk,.unk,.unk,.unk,.unk,.unk,.unk,.unk,.unk] := rfl
@[go_sem] theorem ks22_3 (a b c d e f g h i j k l m n o p q r s t u v w x y z a0 a1 a2 a3 a4 a5 a6 a7 a8 a9 b0 b1 b2 b3 b4 b5 b6 b7 b8 b9 c0 c1 c2 c3 c4 c5 c6 c7 c8 c9 d0 d1 d2 d3 d4 d5 d6 d7 d8 d9 e0 e1 e2 e3 e4 e5 e6 e7 e8 e9 f0 f1 f2 f3 f4 f5 f6 f7 f8 f9 g0 g1 g2 g3 g4 g5 g6 g7 g8 g9 : AV) : keepS [1,5,7,8,14,15,16] [a,b,c,d,e,f,g,h,i,j,k,l,m,n,o,p,q,r,s,t,u,v,w,x,y,z,a0,a1,a2,a3,a4,a5,a6,a7,a8,a9,b0,b1,b2,b3,b4,b5,b6,b7,b8,b9,c0,c1,c2,c3,c4,c5,c6,c7,c8,c9,d0,d1,d2,d3,d4,d5,d6,d7,d8,d9,e0,e1,e2,e3,e4,e5,e6,e7,e8,e9,f0,f1,f2,f3,f4,f5,f6,f7,f8,f9,g0,g1,g2,g3,g4,g5,g6,g7,g8,g9] 0 = [.unk,b,.unk,.unk,.unk,f,.unk,h,i,.unk,.unk,.unk,.unk,.unk,o,p,q,.unk,.unk,.unk,.unk,.unk,.unk,.unk,.unk,.unk,.unk,.unk,.unk,.unk,.unk,.unk,.unk,.unk,.unk,.unk,.unk,.unk,.unk,.unk,.unk,.unk,.unk,.unk,.unk,.unk,.unk,.unk,.unk,.unk,.unk,.unk,.unk,.unk,.unk,.unk,.unk,.unk,.unk,.unk,.unk,.unk,.unk,.unk,.unk,.unk,.unk,.unk,.unk,.unk,.unk,.unk,.unk,.unk,.unk,.unk,.unk,.unk,.unk,.unk,.unk,.unk,.unk,.unk,.unk,.unk,.unk,.unk,.unk,.unk,.unk,.unk,.unk,.unk,.unk,.unk] := rfl
@[go_sem] theorem ks22_4 (a b c d e f g h i j k l m n o p q r s t u v w x y z a0 a1 a2 a3 a4 a5 a6 a7 a8 a9 b0 b1 b2 b3 b4 b5 b6 b7 b8 b9 c0 c1 c2 c3 c4 c5 c6 c7 c8 c9 d0 d1 d2 d3 d4 d5 d6 d7 d8 d9 e0 e1 e2 e3 e4 e5 e6 e7 e8 e9 f0 f1 f2 f3 f4 f5 f6 f7 f8 f9 g0 g1 g2 g3 g4 g5 g6 g7 g8 g9 : AV) : keepS [1,5,9] [a,b,c,d,e,f,g,h,i,j,k,l,m,n,o,p,q,r,s,t,u,v,w,x,y,z,a0,a1,a2,a3,a4,a5,a6,a7,a8,a9,b0,b1,b2,b3,b4,b5,b6,b7,b8,b9,c0,c1,c2,c3,c4,c5,c6,c7,c8,c9,d0,d1,d2,d3,d4,d5,d6,d7,d8,d9,e0,e1,e2,e3,e4,e5,e6,e7,e8,e9,f0,f1,f2,f3,f4,f5,f6,f7,f8,f9,g0,g1,g2,g3,g4,g5,g6,g7,g8,g9] 0 = [.unk,b,.unk,.unk,.unk,f,.unk,.unk,.unk,j,.unk,.unk,.unk,.unk,.unk,.unk,.unk,.unk,.unk,.unk,.unk,.unk,.unk,.unk,.unk,.unk,.unk,.unk,.unk,.unk,.unk,.unk,.unk,.unk,.unk,.unk,.unk,.unk,.unk,.unk,.unk,.unk,.unk,.unk,.unk,.unk,.unk,.unk,.unk,.unk,.unk,.unk,.unk,.unk,.unk,.unk,.unk,.unk,.unk,.unk,.unk,.unk,.unk,.unk,.unk,.unk,.unk,.unk,.unk,.unk,.unk,.unk,.unk,.unk,.unk,.unk,.unk,.unk,.unk,.unk,.unk,.unk,.unk,.unk,.unk,.unk,.unk,.unk,.unk,.unk,.unk,.unk,.unk,.unk,.unk,.unk] := rfl
@[go_sem] theorem ks22_5 (a b c d e f g h i j k l m n o p q r s t u v w x y z a0 a1 a2 a3 a4 a5 a6 a7 a8 a9 b0 b1 b2 b3 b4 b5 b6 b7 b8 b9 c0 c1 c2 c3 c4 c5 c6 c7 c8 c9 d0 d1 d2 d3 d4 d5 d6 d7 d8 d9 e0 e1 e2 e3 e4 e5 e6 e7 e8 e9 f0 f1 f2 f3 f4 f5 f6 f7 f8 f9 g0 g1 g2 g3 g4 g5 g6 g7 g8 g9 : AV) : keepS [5] [a,b,c,d,e,f,g,h,i,j,k,l,m,n,o,p,q,r,s,t,u,v,w,x,y,z,a0,a1,a2,a3,a4,a5,a6,a7,a8,a9,b0,b1,b2,b3,b4,b5,b6,b7,b8,b9,c0,c1,c2,c3,c4,c5,c6,c7,c8,c9,d0,d1,d2,d3,d4,d5,d6,d7,d8,d9,e0,e1,e2,e3,e4,e5,e6,e7,e8,e9,f0,f1,f2,f3,f4,f5,f6,f7,f8,f9,g0,g1,g2,g3,g4,g5,g6,g7,g8,g9] 0 = [.unk,.unk,.unk,.unk,.unk,f,.unk,.unk,.unk,.unk,.unk,.unk,.unk,.unk,.unk,.unk,.unk,.unk,.unk,.unk,.unk,.unk,.unk,.unk,.unk,.unk,.unk,.unk,.unk,.unk,.unk,.unk,.unk,.unk,.unk,.unk,.unk,.unk,.unk,.unk,.unk,.unk,.unk,.unk,.unk,.unk,.unk,.unk,.unk,.unk,.unk,.unk,.unk,.unk,.unk,.unk,.unk,.unk,.unk,.unk,.unk,.unk,.unk,.unk,.unk,.unk,.unk,.unk,.unk,.unk,.unk,.unk,.unk,.unk,.unk,.unk,.unk,.unk,.unk,.unk,.unk,.unk,.unk,.unk,.unk,.unk,.unk,.unk,.unk,.unk,.unk,.unk,.unk,.unk,.unk,.unk] := rfl
@[go_sem] theorem ks22_6 (a b c d e f g h i j k l m n o p q r s t u v w x y z a0 a1 a2 a3 a4 a5 a6 a7 a8 a9 b0 b1 b2 b3 b4 b5 b6 b7 b8 b9 c0 c1 c2 c3 c4 c5 c6 c7 c8 c9 d0 d1 d2 d3 d4 d5 d6 d7 d8 d9 e0 e1 e2 e3 e4 e5 e6 e7 e8 e9 f0 f1 f2 f3 f4 f5 f6 f7 f8 f9 g0 g1 g2 g3 g4 g5 g6 g7 g8 g9 : AV) : keepS [1,5,9,10] [a,b,c,d,e,f,g,h,i,j,k,l,m,n,o,p,q,r,s,t,u,v,w,x,y,z,a0,a1,a2,a3,a4,a5,a6,a7,a8,a9,b0,b1,b2,b3,b4,b5,b6,b7,b8,b9,c0,c1,c2,c3,c4,c5,c6,c7,c8,c9,d0,d1,d2,d3,d4,d5,d6,d7,d8,d9,e0,e1,e2,e3,e4,e5,e6,e7,e8,e9,f0,f1,f2,f3,f4,f5,f6,f7,f8,f9,g0,g1,g2,g3,g4,g5,g6,g7,g8,g9] 0 = [.unk,b,.unk,.unk,.unk,f,.unk,.unk,.unk,j,k,.unk,.unk,.unk,.unk,.unk,.unk,.unk,.unk,.unk,.unk,.unk,.unk,.unk,.unk,.unk,.unk,.unk,.unk,.unk,.unk,.unk,.unk,.unk,.unk,.unk,.unk,.unk,.unk,.unk,.unk,.unk,.unk,.unk,.unk,.unk,.unk,.unk,.unk,.unk,.unk,.unk,.unk,.unk,.unk,.unk,.unk,.unk,.unk,.unk,.unk,.unk,.unk,.unk,.unk,.unk,.unk,.unk,.unk,.unk,.unk,.unk,.unk,.unk,.unk,.unk,.unk,.unk,.unk,.unk,.unk,.unk,.unk,.unk,.unk,.unk,.unk,.unk,.unk,.unk,.unk,.unk,.unk,.unk,.unk,.unk] := rfl
/-- spence/spenceref04.Merge -/
def bd22 : C :=
 (.seq (.reg [⟨some 4, none, .mv (.c (.d .nils)), .one 2 true⟩])
 (.seq (.seq (.reg [⟨some 12, none, .mv (.s 1), .none⟩,
 ⟨some 13, none, .bin .lss (.s 12) (.c (.d (.int .i64 0))), .none⟩])
 (.cond (.s 13)
 (.reg [⟨some 1, none, .mv (.c (.d (.int .i64 0))), .none⟩])
 .skip))
 (.ann [0, 1] (.seq (.reg [⟨some 5, none, .mv (.c (.d .nils)), .one 2 true⟩])
 (.seq (.seq (.reg [⟨some 14, none, .mv (.s 0), .none⟩,
 ⟨some 15, none, .len (.s 14), .none⟩,
 ⟨some 16, none, .mv (.c (.d (.int .i64 0))), .none⟩])
 (.block 0 (.loop [1, 5, 14, 15, 16] lp22_0)))
 (.seq (.seq (.reg [⟨some 9, none, .mv (.c (.d (.int .i64 0))), .none⟩])
 (.block 4 (.loop [1, 5, 9] lp22_2)))
 (.seq (.reg [⟨some 95, none, .mv (.s 5), .none⟩,
 ⟨some 4, none, .mv (.s 95), .none⟩])
 (.ret none))))))))
def ir22 : F := { n := 96, res := [.tmp 4], body := bd22 }
@[go_sem] theorem n22 : ir22.n = 96 := rfl
@[go_sem] theorem r22 : ir22.res = [.tmp 4] := rfl
@[go_sem] theorem b22 : ir22.body = bd22 := rfl
def lb24_0 : C :=
 (.seq (.reg [⟨some 11, none, .bin .lss (.s 10) (.s 9), .none⟩])
 (.seq (.cond (.s 11)
 .skip
 (.exit 0 (some [3])))
 (.seq (.block 1 (.seq (.reg [⟨some 12, none, .is (.s 8) (.s 10) 2, .none⟩,
 ⟨some 13, none, .ld (.s 12) 2 true, .none⟩,
 ⟨some 5, none, .alloc 32 [.int .i64 0, .int .i64 0], .none⟩,
 ⟨none, none, .st (.s 5) (.s 13) 2, .none⟩])
 (.seq (.reg [⟨some 15, none, .mv (.s 3), .none⟩,
 ⟨some 16, none, .ld (.s 5) 2 true, .none⟩,
 ⟨some 17, none, .call 49 [.s 16] 2, .none⟩,
 ⟨some 18, none, .call 48 [.s 15, .s 17] 2, .none⟩,
 ⟨some 14, none, .mv (.s 18), .none⟩,
 ⟨some 19, none, .ext (.s 14) 0, .none⟩,
 ⟨some 20, none, .ext (.s 14) 1, .none⟩,
 ⟨some 6, none, .mv (.s 19), .none⟩,
 ⟨some 7, none, .mv (.s 20), .none⟩])
 (.seq (.seq (.reg [⟨some 21, none, .mv (.s 7), .none⟩,
 ⟨some 22, none, .bin .neq (.s 21) (.c (.d (.int .i64 0))), .none⟩])
 (.cond (.s 22)
 (.seq (.reg [⟨some 2, none, .mv (.c (.d (.int .i64 4611686018427387903))), .none⟩])
 (.ret (some [2])))
 .skip))
 (.reg [⟨some 23, none, .mv (.s 6), .none⟩,
 ⟨some 3, none, .mv (.s 23), .none⟩])))))
 (.reg [⟨some 24, none, .bin .add (.s 10) (.c (.d (.int .i64 1))), .none⟩,
 ⟨some 10, none, .mv (.s 24), .none⟩]))))
def lp24_0 : C := lb24_0
theorem u24_0 (c : Ev.Callee) (l : Ev.Looper) (s : St) : evC c l lp24_0 s = evC c l lb24_0 s := rfl
abbrev st24_0 (m : Nat) (s3 s8 s9 s10 : AV) (h : Heap) : St := ⟨m,[.unk,.unk,.unk,s3,.unk,.unk,.unk,.unk,s8,s9,s10,.unk,.unk,.unk,.unk,.unk,.unk,.unk,.unk,.unk,.unk,.unk,.unk,.unk,.unk,.unk],h⟩
@[go_sem] theorem ks24_0 (a b c d e f g h i j k l m n o p q r s t u v w x y z : AV) : keepS [3,8,9,10] [a,b,c,d,e,f,g,h,i,j,k,l,m,n,o,p,q,r,s,t,u,v,w,x,y,z] 0 = [.unk,.unk,.unk,d,.unk,.unk,.unk,.unk,i,j,k,.unk,.unk,.unk,.unk,.unk,.unk,.unk,.unk,.unk,.unk,.unk,.unk,.unk,.unk,.unk] := rfl
@[go_sem] theorem ks24_1 (a b c d e f g h i j k l m n o p q r s t u v w x y z : AV) : keepS [3] [a,b,c,d,e,f,g,h,i,j,k,l,m,n,o,p,q,r,s,t,u,v,w,x,y,z] 0 = [.unk,.unk,.unk,d,.unk,.unk,.unk,.unk,.unk,.unk,.unk,.unk,.unk,.unk,.unk,.unk,.unk,.unk,.unk,.unk,.unk,.unk,.unk,.unk,.unk,.unk] := rfl
@[go_sem] theorem ks24_2 (a b c d e f g h i j k l m n o p q r s t u v w x y z : AV) : keepS [2] [a,b,c,d,e,f,g,h,i,j,k,l,m,n,o,p,q,r,s,t,u,v,w,x,y,z] 0 = [.unk,.unk,c,.unk,.unk,.unk,.unk,.unk,.unk,.unk,.unk,.unk,.unk,.unk,.unk,.unk,.unk,.unk,.unk,.unk,.unk,.unk,.unk,.unk,.unk,.unk] := rfl
/-- spence/span.Total -/
def bd24 : C :=
 (.seq (.reg [⟨some 2, none, .mv (.c (.d (.int .i64 0))), .none⟩])
 (.seq (.reg [⟨some 3, none, .mv (.c (.d (.int .i64 0))), .none⟩])
 (.seq (.seq (.reg [⟨some 8, none, .mv (.s 0), .none⟩,
 ⟨some 9, none, .len (.s 8), .none⟩,
 ⟨some 10, none, .mv (.c (.d (.int .i64 0))), .none⟩])
 (.block 0 (.loop [3, 8, 9, 10] lp24_0)))
 (.seq (.reg [⟨some 25, none, .mv (.s 3), .none⟩,
 ⟨some 2, none, .mv (.s 25), .none⟩])
 (.ret none)))))
def ir24 : F := { n := 26, res := [.tmp 2], body := bd24 }
@[go_sem] theorem n24 : ir24.n = 26 := rfl
@[go_sem] theorem r24 : ir24.res = [.tmp 2] := rfl
@[go_sem] theorem b24 : ir24.body = bd24 := rfl
def lb25_0 : C :=
 (.seq (.reg [⟨some 46, none, .bin .lss (.s 45) (.s 44), .none⟩])
 (.seq (.cond (.s 46)
 .skip
 (.exit 0 (some [7, 9, 10])))
 (.seq (.block 1 (.seq (.reg [⟨some 47, none, .is (.s 43) (.s 45) 1, .none⟩,
 ⟨some 48, none, .ld (.s 47) 1 false, .none⟩,
 ⟨some 12, none, .mv (.s 48), .none⟩])
 (.seq (.reg [⟨some 50, none, .mv (.s 12), .none⟩,
 ⟨some 51, none, .call 53 [.s 50] 2, .none⟩,
 ⟨some 49, none, .mv (.s 51), .none⟩,
 ⟨some 52, none, .ext (.s 49) 0, .none⟩,
 ⟨some 53, none, .ext (.s 49) 1, .none⟩,
 ⟨some 13, none, .alloc 61 [.int .i64 0, .int .i64 0, .int .i64 0], .none⟩,
 ⟨none, none, .st (.s 13) (.s 52) 3, .none⟩,
 ⟨some 14, none, .mv (.s 53), .none⟩])
 (.seq (.reg [⟨some 54, none, .mv (.s 10), .none⟩,
 ⟨some 55, none, .mv (.s 14), .none⟩,
 ⟨some 56, none, .call 54 [.s 54, .s 55] 2, .none⟩,
 ⟨some 10, none, .mv (.s 56), .none⟩])
 (.reg [⟨some 57, none, .mv (.s 9), .none⟩,
 ⟨some 58, none, .ld (.s 13) 3 true, .none⟩,
 ⟨some 59, none, .bsl 61 3 1 [.int .i64 0, .int .i64 0, .int .i64 0] [(0, (3, .s 58))], .none⟩,
 ⟨some 60, none, .app 61 3 24 (.s 57) (.s 59), .none⟩,
 ⟨some 9, none, .mv (.s 60), .none⟩])))))
 (.reg [⟨some 61, none, .bin .add (.s 45) (.c (.d (.int .i64 1))), .none⟩,
 ⟨some 45, none, .mv (.s 61), .none⟩]))))
def lp25_0 : C := lb25_0
theorem u25_0 (c : Ev.Callee) (l : Ev.Looper) (s : St) : evC c l lp25_0 s = evC c l lb25_0 s := rfl
abbrev st25_0 (m : Nat) (s7 s9 s10 s43 s44 s45 : AV) (h : Heap) : St := ⟨m,[.unk,.unk,.unk,.unk,.unk,.unk,.unk,s7,.unk,s9,s10,.unk,.unk,.unk,.unk,.unk,.unk,.unk,.unk,.unk,.unk,.unk,.unk,.unk,.unk,.unk,.unk,.unk,.unk,.unk,.unk,.unk,.unk,.unk,.unk,.unk,.unk,.unk,.unk,.unk,.unk,.unk,.unk,s43,s44,s45,.unk,.unk,.unk,.unk,.unk,.unk,.unk,.unk,.unk,.unk,.unk,.unk,.unk,.unk,.unk,.unk,.unk,.unk,.unk,.unk,.unk,.unk,.unk,.unk,.unk],h⟩
@[go_sem] theorem ks25_0 (a b c d e f g h i j k l m n o p q r s t u v w x y z a0 a1 a2 a3 a4 a5 a6 a7 a8 a9 b0 b1 b2 b3 b4 b5 b6 b7 b8 b9 c0 c1 c2 c3 c4 c5 c6 c7 c8 c9 d0 d1 d2 d3 d4 d5 d6 d7 d8 d9 e0 e1 e2 e3 e4 : AV) : keepS [7,9,10,43,44,45] [a,b,c,d,e,f,g,h,i,j,k,l,m,n,o,p,q,r,s,t,u,v,w,x,y,z,a0,a1,a2,a3,a4,a5,a6,a7,a8,a9,b0,b1,b2,b3,b4,b5,b6,b7,b8,b9,c0,c1,c2,c3,c4,c5,c6,c7,c8,c9,d0,d1,d2,d3,d4,d5,d6,d7,d8,d9,e0,e1,e2,e3,e4] 0 = [.unk,.unk,.unk,.unk,.unk,.unk,.unk,h,.unk,j,k,.unk,.unk,.unk,.unk,.unk,.unk,.unk,.unk,.unk,.unk,.unk,.unk,.unk,.unk,.unk,.unk,.unk,.unk,.unk,.unk,.unk,.unk,.unk,.unk,.unk,.unk,.unk,.unk,.unk,.unk,.unk,.unk,b7,b8,b9,.unk,.unk,.unk,.unk,.unk,.unk,.unk,.unk,.unk,.unk,.unk,.unk,.unk,.unk,.unk,.unk,.unk,.unk,.unk,.unk,.unk,.unk,.unk,.unk,.unk] := rfl
@[go_sem] theorem ks25_1 (a b c d e f g h i j k l m n o p q r s t u v w x y z a0 a1 a2 a3 a4 a5 a6 a7 a8 a9 b0 b1 b2 b3 b4 b5 b6 b7 b8 b9 c0 c1 c2 c3 c4 c5 c6 c7 c8 c9 d0 d1 d2 d3 d4 d5 d6 d7 d8 d9 e0 e1 e2 e3 e4 : AV) : keepS [7,9,10] [a,b,c,d,e,f,g,h,i,j,k,l,m,n,o,p,q,r,s,t,u,v,w,x,y,z,a0,a1,a2,a3,a4,a5,a6,a7,a8,a9,b0,b1,b2,b3,b4,b5,b6,b7,b8,b9,c0,c1,c2,c3,c4,c5,c6,c7,c8,c9,d0,d1,d2,d3,d4,d5,d6,d7,d8,d9,e0,e1,e2,e3,e4] 0 = [.unk,.unk,.unk,.unk,.unk,.unk,.unk,h,.unk,j,k,.unk,.unk,.unk,.unk,.unk,.unk,.unk,.unk,.unk,.unk,.unk,.unk,.unk,.unk,.unk,.unk,.unk,.unk,.unk,.unk,.unk,.unk,.unk,.unk,.unk,.unk,.unk,.unk,.unk,.unk,.unk,.unk,.unk,.unk,.unk,.unk,.unk,.unk,.unk,.unk,.unk,.unk,.unk,.unk,.unk,.unk,.unk,.unk,.unk,.unk,.unk,.unk,.unk,.unk,.unk,.unk,.unk,.unk,.unk,.unk] := rfl
/-- spence/spec.Parse -/
def bd25 : C :=
 (.seq (.reg [⟨some 2, none, .mv (.c (.d .nils)), .one 3 true⟩,
 ⟨some 3, none, .mv (.c (.d (.int .i64 0))), .none⟩])
 (.seq (.reg [⟨some 16, none, .mv (.s 0), .none⟩,
 ⟨some 17, none, .call 26 [.s 16] 2, .none⟩,
 ⟨some 18, none, .call 50 [.s 17, .c (.d (.int .u8 61))] 2, .none⟩,
 ⟨some 15, none, .mv (.s 18), .none⟩,
 ⟨some 19, none, .ext (.s 15) 0, .none⟩,
 ⟨some 20, none, .ext (.s 15) 1, .none⟩,
 ⟨some 21, none, .ext (.s 15) 2, .none⟩,
 ⟨some 4, none, .mv (.s 19), .none⟩,
 ⟨some 5, none, .mv (.s 20), .none⟩,
 ⟨some 6, none, .mv (.s 21), .none⟩])
 (.seq (.reg [⟨some 23, none, .mv (.s 5), .none⟩,
 ⟨some 24, none, .call 51 [.s 23] 2, .none⟩,
 ⟨some 22, none, .mv (.s 24), .none⟩,
 ⟨some 25, none, .ext (.s 22) 0, .none⟩,
 ⟨some 26, none, .ext (.s 22) 1, .none⟩,
 ⟨some 7, none, .mv (.s 25), .none⟩,
 ⟨some 8, none, .mv (.s 26), .none⟩])
 (.seq (.seq (.reg [⟨some 27, none, .mv (.s 6), .none⟩,
 ⟨some 28, none, .un .not (.s 27), .none⟩,
 ⟨some 29, none, .mv (.s 28), .none⟩,
 ⟨some 30, some (29, false), .mv (.s 4), .none⟩,
 ⟨some 31, some (29, false), .call 52 [.s 30, .c (.d (.str [98, 121, 116, 101, 115]))] 2, .none⟩,
 ⟨some 32, some (29, false), .un .not (.s 31), .none⟩,
 ⟨some 33, none, .pick (.s 29) (.c (.d (.bool true))) (.s 32), .none⟩,
 ⟨some 34, none, .mv (.s 33), .none⟩,
 ⟨some 35, some (34, false), .mv (.s 8), .none⟩,
 ⟨some 36, some (34, false), .un .not (.s 35), .none⟩,
 ⟨some 37, none, .pick (.s 34) (.c (.d (.bool true))) (.s 36), .none⟩,
 ⟨some 38, none, .mv (.s 37), .none⟩,
 ⟨some 39, some (38, false), .mv (.s 7), .none⟩,
 ⟨some 40, some (38, false), .len (.s 39), .none⟩,
 ⟨some 41, some (38, false), .bin .eql (.s 40) (.c (.d (.int .i64 0))), .none⟩,
 ⟨some 42, none, .pick (.s 38) (.c (.d (.bool true))) (.s 41), .none⟩])
 (.cond (.s 42)
 (.seq (.reg [⟨some 2, none, .mv (.c (.d .nils)), .one 3 true⟩,
 ⟨some 3, none, .mv (.c (.d (.int .i64 3))), .none⟩])
 (.ret none))
 .skip))
 (.seq (.reg [⟨some 9, none, .mv (.c (.d .nils)), .one 3 true⟩])
 (.seq (.reg [⟨some 10, none, .mv (.c (.d (.int .i64 0))), .none⟩])
 (.seq (.seq (.reg [⟨some 43, none, .mv (.s 7), .none⟩,
 ⟨some 44, none, .len (.s 43), .none⟩,
 ⟨some 45, none, .mv (.c (.d (.int .i64 0))), .none⟩])
 (.block 0 (.loop [7, 9, 10, 43, 44, 45] lp25_0)))
 (.seq (.block 2 (.seq (.reg [⟨some 63, none, .mv (.s 10), .none⟩,
 ⟨some 64, none, .bin .neq (.s 63) (.c (.d (.int .i64 0))), .none⟩,
 ⟨some 62, none, .mv (.s 64), .none⟩])
 (.cond (.s 62)
 (.seq (.reg [⟨some 65, none, .mv (.s 10), .none⟩,
 ⟨some 2, none, .mv (.c (.d .nils)), .one 3 true⟩,
 ⟨some 3, none, .mv (.s 65), .none⟩])
 (.ret none))
 (.seq (.reg [⟨some 67, none, .mv (.s 7), .none⟩,
 ⟨some 68, none, .len (.s 67), .none⟩,
 ⟨some 69, none, .bin .gtr (.s 68) (.c (.d (.int .i64 16))), .none⟩,
 ⟨some 66, none, .mv (.s 69), .none⟩])
 (.cond (.s 66)
 (.seq (.reg [⟨some 2, none, .mv (.c (.d .nils)), .one 3 true⟩,
 ⟨some 3, none, .mv (.c (.d (.int .i64 10))), .none⟩])
 (.ret none))
 .skip)))))
 (.seq (.reg [⟨some 70, none, .mv (.s 9), .none⟩,
 ⟨some 2, none, .mv (.s 70), .none⟩,
 ⟨some 3, none, .mv (.c (.d (.int .i64 0))), .none⟩])
 (.ret none))))))))))
def ir25 : F := { n := 71, res := [.tmp 2, .tmp 3], body := bd25 }
@[go_sem] theorem n25 : ir25.n = 71 := rfl
@[go_sem] theorem r25 : ir25.res = [.tmp 2, .tmp 3] := rfl
@[go_sem] theorem b25 : ir25.body = bd25 := rfl
def lb26_0 : C :=
 (.seq (.seq (.reg [⟨some 6, none, .mv (.s 3), .none⟩,
 ⟨some 7, none, .mv (.s 0), .none⟩,
 ⟨some 8, none, .lens (.s 7), .none⟩,
 ⟨some 9, none, .bin .lss (.s 6) (.s 8), .none⟩,
 ⟨some 10, none, .mv (.s 9), .none⟩,
 ⟨some 11, some (10, true), .mv (.s 0), .none⟩,
 ⟨some 12, some (10, true), .mv (.s 3), .none⟩,
 ⟨some 13, some (10, true), .sti (.s 11) (.s 12), .none⟩,
 ⟨some 14, some (10, true), .call 56 [.s 13] 2, .none⟩,
 ⟨some 15, none, .pick (.s 10) (.s 14) (.c (.d (.bool false))), .none⟩])
 (.cond (.s 15)
 .skip
 (.exit 0 (some [0, 3]))))
 (.block 1 (.reg [⟨some 16, none, .mv (.s 3), .none⟩,
 ⟨some 17, none, .bin .add (.s 16) (.c (.d (.int .i64 1))), .none⟩,
 ⟨some 3, none, .mv (.s 17), .none⟩])))
def lp26_0 : C := lb26_0
theorem u26_0 (c : Ev.Callee) (l : Ev.Looper) (s : St) : evC c l lp26_0 s = evC c l lb26_0 s := rfl
abbrev st26_0 (m : Nat) (s0 s3 : AV) (h : Heap) : St := ⟨m,[s0,.unk,.unk,s3,.unk,.unk,.unk,.unk,.unk,.unk,.unk,.unk,.unk,.unk,.unk,.unk,.unk,.unk,.unk,.unk,.unk],h⟩
@[go_sem] theorem ks26_0 (a b c d e f g h i j k l m n o p q r s t u : AV) : keepS [0,3] [a,b,c,d,e,f,g,h,i,j,k,l,m,n,o,p,q,r,s,t,u] 0 = [a,.unk,.unk,d,.unk,.unk,.unk,.unk,.unk,.unk,.unk,.unk,.unk,.unk,.unk,.unk,.unk,.unk,.unk,.unk,.unk] := rfl
/-- spence/text.Trim -/
def bd26 : C :=
 (.seq (.reg [⟨some 2, none, .mv (.c (.d (.str []))), .none⟩])
 (.seq (.reg [⟨some 4, none, .mv (.s 0), .none⟩,
 ⟨some 5, none, .call 55 [.s 4] 2, .none⟩,
 ⟨some 0, none, .mv (.s 5), .none⟩])
 (.seq (.reg [⟨some 3, none, .mv (.c (.d (.int .i64 0))), .none⟩])
 (.seq (.block 0 (.loop [0, 3] lp26_0))
 (.seq (.reg [⟨some 18, none, .mv (.s 0), .none⟩,
 ⟨some 19, none, .mv (.s 3), .none⟩,
 ⟨some 20, none, .ssl (.s 18) (some (.s 19)) none, .none⟩,
 ⟨some 2, none, .mv (.s 20), .none⟩])
 (.ret none))))))
def ir26 : F := { n := 21, res := [.tmp 2], body := bd26 }
@[go_sem] theorem n26 : ir26.n = 21 := rfl
@[go_sem] theorem r26 : ir26.res = [.tmp 2] := rfl
@[go_sem] theorem b26 : ir26.body = bd26 := rfl
/-- spence/etag.Parse -/
def bd27 : C :=
 (.seq (.reg [⟨some 2, none, .alloc 55 [.bool false, .str []], .none⟩,
 ⟨some 3, none, .mv (.c (.d (.int .i64 0))), .none⟩])
 (.seq (.reg [⟨some 7, none, .mv (.s 0), .none⟩,
 ⟨some 8, none, .call 57 [.s 7, .c (.d (.str [87, 47]))] 2, .none⟩,
 ⟨some 6, none, .mv (.s 8), .none⟩,
 ⟨some 9, none, .ext (.s 6) 0, .none⟩,
 ⟨some 10, none, .ext (.s 6) 1, .none⟩,
 ⟨some 0, none, .mv (.s 9), .none⟩,
 ⟨some 4, none, .mv (.s 10), .none⟩])
 (.seq (.seq (.reg [⟨some 11, none, .mv (.s 0), .none⟩,
 ⟨some 12, none, .lens (.s 11), .none⟩,
 ⟨some 13, none, .bin .lss (.s 12) (.c (.d (.int .i64 2))), .none⟩,
 ⟨some 14, none, .mv (.s 13), .none⟩,
 ⟨some 15, some (14, false), .mv (.s 0), .none⟩,
 ⟨some 16, some (14, false), .sti (.s 15) (.c (.d (.int .i64 0))), .none⟩,
 ⟨some 17, some (14, false), .bin .neq (.s 16) (.c (.d (.int .u8 34))), .none⟩,
 ⟨some 18, none, .pick (.s 14) (.c (.d (.bool true))) (.s 17), .none⟩,
 ⟨some 19, none, .mv (.s 18), .none⟩,
 ⟨some 20, some (19, false), .mv (.s 0), .none⟩,
 ⟨some 21, some (19, false), .mv (.s 0), .none⟩,
 ⟨some 22, some (19, false), .lens (.s 21), .none⟩,
 ⟨some 23, some (19, false), .bin .sub (.s 22) (.c (.d (.int .i64 1))), .none⟩,
 ⟨some 24, some (19, false), .sti (.s 20) (.s 23), .none⟩,
 ⟨some 25, some (19, false), .bin .neq (.s 24) (.c (.d (.int .u8 34))), .none⟩,
 ⟨some 26, none, .pick (.s 19) (.c (.d (.bool true))) (.s 25), .none⟩])
 (.cond (.s 26)
 (.seq (.reg [⟨some 27, none, .build [.bool false, .str []] [], .none⟩,
 ⟨none, none, .st (.s 2) (.s 27) 2, .none⟩,
 ⟨some 3, none, .mv (.c (.d (.int .i64 3))), .none⟩])
 (.ret none))
 .skip))
 (.seq (.reg [⟨some 28, none, .mv (.s 4), .none⟩,
 ⟨some 29, none, .mv (.s 0), .none⟩,
 ⟨some 30, none, .mv (.s 0), .none⟩,
 ⟨some 31, none, .lens (.s 30), .none⟩,
 ⟨some 32, none, .bin .sub (.s 31) (.c (.d (.int .i64 1))), .none⟩,
 ⟨some 33, none, .ssl (.s 29) (some (.c (.d (.int .i64 1)))) (some (.s 32)), .none⟩,
 ⟨some 34, none, .build [.bool false, .str []] [(0, (1, .s 28)), (1, (1, .s 33))], .none⟩,
 ⟨some 5, none, .alloc 55 [.bool false, .str []], .none⟩,
 ⟨none, none, .st (.s 5) (.s 34) 2, .none⟩])
 (.seq (.block 0 (.seq (.reg [⟨some 36, none, .fa (.s 5) 1, .none⟩,
 ⟨some 37, none, .ld (.s 36) 1 false, .none⟩,
 ⟨some 38, none, .call 58 [.s 37] 2, .none⟩,
 ⟨some 39, none, .un .not (.s 38), .none⟩,
 ⟨some 35, none, .mv (.s 39), .none⟩])
 (.cond (.s 35)
 (.seq (.reg [⟨some 40, none, .build [.bool false, .str []] [], .none⟩,
 ⟨none, none, .st (.s 2) (.s 40) 2, .none⟩,
 ⟨some 3, none, .mv (.c (.d (.int .i64 3))), .none⟩])
 (.ret none))
 (.seq (.reg [⟨some 42, none, .ld (.s 5) 2 true, .none⟩,
 ⟨some 43, none, .call 59 [.s 42] 2, .none⟩,
 ⟨some 44, none, .un .not (.s 43), .none⟩,
 ⟨some 41, none, .mv (.s 44), .none⟩])
 (.cond (.s 41)
 (.seq (.reg [⟨some 45, none, .build [.bool false, .str []] [], .none⟩,
 ⟨none, none, .st (.s 2) (.s 45) 2, .none⟩,
 ⟨some 3, none, .mv (.c (.d (.int .i64 10))), .none⟩])
 (.ret none))
 .skip)))))
 (.seq (.reg [⟨some 46, none, .ld (.s 5) 2 true, .none⟩,
 ⟨none, none, .st (.s 2) (.s 46) 2, .none⟩,
 ⟨some 3, none, .mv (.c (.d (.int .i64 0))), .none⟩])
 (.ret none)))))))
def ir27 : F := { n := 47, res := [.cell 2 2 true, .tmp 3], body := bd27 }
@[go_sem] theorem n27 : ir27.n = 47 := rfl
@[go_sem] theorem r27 : ir27.res = [.cell 2 2 true, .tmp 3] := rfl
@[go_sem] theorem b27 : ir27.body = bd27 := rfl
/-- spence/etag.Strong -/
def bd28 : C :=
 (.seq (.reg [⟨some 2, none, .box 55 (.s 0), .none⟩,
 ⟨some 3, none, .box 55 (.s 1), .none⟩,
 ⟨some 4, none, .mv (.c (.d (.bool false))), .none⟩])
 (.seq (.reg [⟨some 5, none, .fa (.s 2) 0, .none⟩,
 ⟨some 6, none, .ld (.s 5) 1 false, .none⟩,
 ⟨some 7, none, .un .not (.s 6), .none⟩,
 ⟨some 8, none, .mv (.s 7), .none⟩,
 ⟨some 9, some (8, true), .fa (.s 3) 0, .none⟩,
 ⟨some 10, some (8, true), .ld (.s 9) 1 false, .none⟩,
 ⟨some 11, some (8, true), .un .not (.s 10), .none⟩,
 ⟨some 12, none, .pick (.s 8) (.s 11) (.c (.d (.bool false))), .none⟩,
 ⟨some 13, none, .mv (.s 12), .none⟩,
 ⟨some 14, some (13, true), .ld (.s 2) 2 true, .none⟩,
 ⟨some 15, some (13, true), .ld (.s 3) 2 true, .none⟩,
 ⟨some 16, some (13, true), .call 60 [.s 14, .s 15] 2, .none⟩,
 ⟨some 17, none, .pick (.s 13) (.s 16) (.c (.d (.bool false))), .none⟩,
 ⟨some 4, none, .mv (.s 17), .none⟩])
 (.ret none)))
def ir28 : F := { n := 18, res := [.tmp 4], body := bd28 }
@[go_sem] theorem n28 : ir28.n = 18 := rfl
@[go_sem] theorem r28 : ir28.res = [.tmp 4] := rfl
@[go_sem] theorem b28 : ir28.body = bd28 := rfl
/-- spence/nums.Fits -/
def bd29 : C :=
 (.seq (.reg [⟨some 6, none, .mv (.c (.d (.bool false))), .none⟩])
 (.seq (.reg [⟨some 7, none, .mv (.s 0), .none⟩,
 ⟨some 8, none, .mv (.s 1), .none⟩,
 ⟨some 9, none, .bin .geq (.s 7) (.s 8), .none⟩,
 ⟨some 10, none, .mv (.s 9), .none⟩,
 ⟨some 11, some (10, true), .mv (.s 0), .none⟩,
 ⟨some 12, some (10, true), .mv (.s 2), .none⟩,
 ⟨some 13, some (10, true), .bin .leq (.s 11) (.s 12), .none⟩,
 ⟨some 14, none, .pick (.s 10) (.s 13) (.c (.d (.bool false))), .none⟩,
 ⟨some 6, none, .mv (.s 14), .none⟩])
 (.ret none)))
def ir29 : F := { n := 15, res := [.tmp 6], body := bd29 }
@[go_sem] theorem n29 : ir29.n = 15 := rfl
@[go_sem] theorem r29 : ir29.res = [.tmp 6] := rfl
@[go_sem] theorem b29 : ir29.body = bd29 := rfl
/-- spence/spec.Right -/
def bd30 : C :=
 (.seq (.reg [⟨some 1, none, .box 61 (.s 0), .none⟩,
 ⟨some 2, none, .mv (.c (.d (.bool false))), .none⟩])
 (.seq (.seq (.reg [⟨some 3, none, .fa (.s 1) 0, .none⟩,
 ⟨some 4, none, .ld (.s 3) 1 false, .none⟩])
 (.block 0 (.seq (.block 3 (.block 2 (.seq (.block 1 (.seq (.seq (.seq (.reg [⟨some 6, none, .bin .eql (.s 4) (.c (.d (.int .i64 2))), .none⟩,
 ⟨some 5, none, .mv (.s 6), .none⟩])
 (.cond (.s 5)
 (.exit 1 none)
 .skip))
 (.seq (.seq (.reg [⟨some 8, none, .bin .eql (.s 4) (.c (.d (.int .i64 1))), .none⟩,
 ⟨some 7, none, .mv (.s 8), .none⟩])
 (.cond (.s 7)
 (.exit 2 none)
 .skip))
 (.seq (.reg [⟨some 10, none, .bin .eql (.s 4) (.c (.d (.int .i64 3))), .none⟩,
 ⟨some 9, none, .mv (.s 10), .none⟩])
 (.cond (.s 9)
 (.exit 3 none)
 .skip))))
 (.exit 0 none)))
 (.seq (.seq (.reg [⟨some 11, none, .fa (.s 1) 1, .none⟩,
 ⟨some 12, none, .ld (.s 11) 1 false, .none⟩,
 ⟨some 13, none, .bin .geq (.s 12) (.c (.d (.int .i64 0))), .none⟩,
 ⟨some 14, none, .mv (.s 13), .none⟩,
 ⟨some 15, some (14, true), .fa (.s 1) 2, .none⟩,
 ⟨some 16, some (14, true), .ld (.s 15) 1 false, .none⟩,
 ⟨some 17, some (14, true), .fa (.s 1) 1, .none⟩,
 ⟨some 18, some (14, true), .ld (.s 17) 1 false, .none⟩,
 ⟨some 19, some (14, true), .bin .geq (.s 16) (.s 18), .none⟩,
 ⟨some 20, none, .pick (.s 14) (.s 19) (.c (.d (.bool false))), .none⟩,
 ⟨some 21, none, .mv (.s 20), .none⟩,
 ⟨some 22, some (21, true), .fa (.s 1) 2, .none⟩,
 ⟨some 23, some (21, true), .ld (.s 22) 1 false, .none⟩,
 ⟨some 24, some (21, true), .bin .leq (.s 23) (.c (.d (.int .i64 4611686018427387903))), .none⟩,
 ⟨some 25, none, .pick (.s 21) (.s 24) (.c (.d (.bool false))), .none⟩,
 ⟨some 2, none, .mv (.s 25), .none⟩])
 (.ret none))
 (.exit 0 none)))))
 (.seq (.seq (.reg [⟨some 26, none, .fa (.s 1) 1, .none⟩,
 ⟨some 27, none, .ld (.s 26) 1 false, .none⟩,
 ⟨some 28, none, .call 29 [.s 27, .c (.d (.int .i64 0)), .c (.d (.int .i64 4611686018427387903))] 2, .none⟩,
 ⟨some 29, none, .mv (.s 28), .none⟩,
 ⟨some 30, some (29, true), .fa (.s 1) 2, .none⟩,
 ⟨some 31, some (29, true), .ld (.s 30) 1 false, .none⟩,
 ⟨some 32, some (29, true), .bin .eql (.s 31) (.c (.d (.int .i64 0))), .none⟩,
 ⟨some 33, none, .pick (.s 29) (.s 32) (.c (.d (.bool false))), .none⟩,
 ⟨some 2, none, .mv (.s 33), .none⟩])
 (.ret none))
 (.exit 0 none)))))
 (.seq (.reg [⟨some 2, none, .mv (.c (.d (.bool false))), .none⟩])
 (.ret none))))
def ir30 : F := { n := 34, res := [.tmp 2], body := bd30 }
@[go_sem] theorem n30 : ir30.n = 34 := rfl
@[go_sem] theorem r30 : ir30.res = [.tmp 2] := rfl
@[go_sem] theorem b30 : ir30.body = bd30 := rfl
/-- spence/span.one -/
def bd31 : C :=
 (.seq (.reg [⟨some 2, none, .box 61 (.s 0), .none⟩,
 ⟨some 4, none, .alloc 32 [.int .i64 0, .int .i64 0], .none⟩])
 (.seq (.seq (.reg [⟨some 5, none, .fa (.s 2) 0, .none⟩,
 ⟨some 6, none, .ld (.s 5) 1 false, .none⟩])
 (.block 0 (.seq (.reg [⟨some 8, none, .bin .eql (.s 6) (.c (.d (.int .i64 1))), .none⟩,
 ⟨some 7, none, .mv (.s 8), .none⟩])
 (.cond (.s 7)
 (.seq (.reg [⟨some 9, none, .fa (.s 2) 1, .none⟩,
 ⟨some 10, none, .ld (.s 9) 1 false, .none⟩,
 ⟨some 11, none, .mv (.s 1), .none⟩,
 ⟨some 12, none, .build [.int .i64 0, .int .i64 0] [(0, (1, .s 10)), (1, (1, .s 11))], .none⟩,
 ⟨none, none, .st (.s 4) (.s 12) 2, .none⟩])
 (.ret none))
 (.seq (.reg [⟨some 14, none, .bin .eql (.s 6) (.c (.d (.int .i64 2))), .none⟩,
 ⟨some 13, none, .mv (.s 14), .none⟩])
 (.cond (.s 13)
 (.seq (.reg [⟨some 15, none, .fa (.s 2) 1, .none⟩,
 ⟨some 16, none, .ld (.s 15) 1 false, .none⟩,
 ⟨some 17, none, .fa (.s 2) 2, .none⟩,
 ⟨some 18, none, .ld (.s 17) 1 false, .none⟩,
 ⟨some 19, none, .mv (.s 1), .none⟩,
 ⟨some 20, none, .bin .sub (.s 19) (.c (.d (.int .i64 1))), .none⟩,
 ⟨some 21, none, .mn (.s 18) (.s 20), .none⟩,
 ⟨some 22, none, .bin .add (.s 21) (.c (.d (.int .i64 1))), .none⟩,
 ⟨some 23, none, .build [.int .i64 0, .int .i64 0] [(0, (1, .s 16)), (1, (1, .s 22))], .none⟩,
 ⟨none, none, .st (.s 4) (.s 23) 2, .none⟩])
 (.ret none))
 .skip))))))
 (.seq (.reg [⟨some 24, none, .mv (.s 1), .none⟩,
 ⟨some 25, none, .fa (.s 2) 1, .none⟩,
 ⟨some 26, none, .ld (.s 25) 1 false, .none⟩,
 ⟨some 27, none, .mv (.s 1), .none⟩,
 ⟨some 28, none, .mn (.s 26) (.s 27), .none⟩,
 ⟨some 29, none, .bin .sub (.s 24) (.s 28), .none⟩,
 ⟨some 30, none, .mv (.s 1), .none⟩,
 ⟨some 31, none, .build [.int .i64 0, .int .i64 0] [(0, (1, .s 29)), (1, (1, .s 30))], .none⟩,
 ⟨none, none, .st (.s 4) (.s 31) 2, .none⟩])
 (.ret none))))
def ir31 : F := { n := 32, res := [.cell 4 2 true], body := bd31 }
@[go_sem] theorem n31 : ir31.n = 32 := rfl
@[go_sem] theorem r31 : ir31.res = [.cell 4 2 true] := rfl
@[go_sem] theorem b31 : ir31.body = bd31 := rfl
/-- spence/span.Right -/
def bd32 : C :=
 (.seq (.reg [⟨some 1, none, .box 32 (.s 0), .none⟩,
 ⟨some 2, none, .mv (.c (.d (.bool false))), .none⟩])
 (.seq (.reg [⟨some 3, none, .fa (.s 1) 0, .none⟩,
 ⟨some 4, none, .ld (.s 3) 1 false, .none⟩,
 ⟨some 5, none, .bin .geq (.s 4) (.c (.d (.int .i64 0))), .none⟩,
 ⟨some 6, none, .mv (.s 5), .none⟩,
 ⟨some 7, some (6, true), .fa (.s 1) 0, .none⟩,
 ⟨some 8, some (6, true), .ld (.s 7) 1 false, .none⟩,
 ⟨some 9, some (6, true), .fa (.s 1) 1, .none⟩,
 ⟨some 10, some (6, true), .ld (.s 9) 1 false, .none⟩,
 ⟨some 11, some (6, true), .bin .lss (.s 8) (.s 10), .none⟩,
 ⟨some 12, none, .pick (.s 6) (.s 11) (.c (.d (.bool false))), .none⟩,
 ⟨some 13, none, .mv (.s 12), .none⟩,
 ⟨some 14, some (13, true), .fa (.s 1) 1, .none⟩,
 ⟨some 15, some (13, true), .ld (.s 14) 1 false, .none⟩,
 ⟨some 16, some (13, true), .bin .leq (.s 15) (.c (.d (.int .i64 4611686018427387903))), .none⟩,
 ⟨some 17, none, .pick (.s 13) (.s 16) (.c (.d (.bool false))), .none⟩,
 ⟨some 2, none, .mv (.s 17), .none⟩])
 (.ret none)))
def ir32 : F := { n := 18, res := [.tmp 2], body := bd32 }
@[go_sem] theorem n32 : ir32.n = 18 := rfl
@[go_sem] theorem r32 : ir32.res = [.tmp 2] := rfl
@[go_sem] theorem b32 : ir32.body = bd32 := rfl
/-- spence/ifrange.clash$1 -/
def bd33 : C :=
 (.seq (.reg [⟨some 2, none, .box 32 (.s 0), .none⟩,
 ⟨some 3, none, .mv (.c (.d (.bool false))), .none⟩])
 (.seq (.reg [⟨some 7, none, .ld (.s 1) 2 true, .none⟩,
 ⟨some 8, none, .ld (.s 2) 2 true, .none⟩,
 ⟨some 9, none, .call 34 [.s 7, .s 8] 2, .none⟩,
 ⟨some 6, none, .mv (.s 9), .none⟩,
 ⟨some 10, none, .ext (.s 6) 0, .none⟩,
 ⟨some 11, none, .ext (.s 6) 1, .none⟩,
 ⟨some 4, none, .alloc 32 [.int .i64 0, .int .i64 0], .none⟩,
 ⟨none, none, .st (.s 4) (.s 10) 2, .none⟩,
 ⟨some 5, none, .mv (.s 11), .none⟩])
 (.seq (.reg [⟨some 12, none, .mv (.s 5), .none⟩,
 ⟨some 3, none, .mv (.s 12), .none⟩])
 (.ret none))))
def ir33 : F := { n := 13, res := [.tmp 3], body := bd33 }
@[go_sem] theorem n33 : ir33.n = 13 := rfl
@[go_sem] theorem r33 : ir33.res = [.tmp 3] := rfl
@[go_sem] theorem b33 : ir33.body = bd33 := rfl
/-- spence/span.Meet -/
def bd34 : C :=
 (.seq (.reg [⟨some 2, none, .box 32 (.s 0), .none⟩,
 ⟨some 3, none, .box 32 (.s 1), .none⟩,
 ⟨some 4, none, .alloc 32 [.int .i64 0, .int .i64 0], .none⟩,
 ⟨some 5, none, .mv (.c (.d (.bool false))), .none⟩])
 (.seq (.reg [⟨some 7, none, .fa (.s 2) 0, .none⟩,
 ⟨some 8, none, .ld (.s 7) 1 false, .none⟩,
 ⟨some 9, none, .fa (.s 3) 0, .none⟩,
 ⟨some 10, none, .ld (.s 9) 1 false, .none⟩,
 ⟨some 11, none, .mx (.s 8) (.s 10), .none⟩,
 ⟨some 12, none, .fa (.s 2) 1, .none⟩,
 ⟨some 13, none, .ld (.s 12) 1 false, .none⟩,
 ⟨some 14, none, .fa (.s 3) 1, .none⟩,
 ⟨some 15, none, .ld (.s 14) 1 false, .none⟩,
 ⟨some 16, none, .mn (.s 13) (.s 15), .none⟩,
 ⟨some 17, none, .build [.int .i64 0, .int .i64 0] [(0, (1, .s 11)), (1, (1, .s 16))], .none⟩,
 ⟨some 6, none, .alloc 32 [.int .i64 0, .int .i64 0], .none⟩,
 ⟨none, none, .st (.s 6) (.s 17) 2, .none⟩])
 (.seq (.seq (.reg [⟨some 18, none, .ld (.s 2) 2 true, .none⟩,
 ⟨some 19, none, .call 32 [.s 18] 2, .none⟩,
 ⟨some 20, none, .un .not (.s 19), .none⟩,
 ⟨some 21, none, .mv (.s 20), .none⟩,
 ⟨some 22, some (21, false), .ld (.s 3) 2 true, .none⟩,
 ⟨some 23, some (21, false), .call 32 [.s 22] 2, .none⟩,
 ⟨some 24, some (21, false), .un .not (.s 23), .none⟩,
 ⟨some 25, none, .pick (.s 21) (.c (.d (.bool true))) (.s 24), .none⟩,
 ⟨some 26, none, .mv (.s 25), .none⟩,
 ⟨some 27, some (26, false), .ld (.s 6) 2 true, .none⟩,
 ⟨some 28, some (26, false), .call 32 [.s 27] 2, .none⟩,
 ⟨some 29, some (26, false), .un .not (.s 28), .none⟩,
 ⟨some 30, none, .pick (.s 26) (.c (.d (.bool true))) (.s 29), .none⟩])
 (.cond (.s 30)
 (.seq (.reg [⟨some 31, none, .build [.int .i64 0, .int .i64 0] [], .none⟩,
 ⟨none, none, .st (.s 4) (.s 31) 2, .none⟩,
 ⟨some 5, none, .mv (.c (.d (.bool false))), .none⟩])
 (.ret none))
 .skip))
 (.seq (.reg [⟨some 32, none, .ld (.s 6) 2 true, .none⟩,
 ⟨none, none, .st (.s 4) (.s 32) 2, .none⟩,
 ⟨some 5, none, .mv (.c (.d (.bool true))), .none⟩])
 (.ret none)))))
def ir34 : F := { n := 33, res := [.cell 4 2 true, .tmp 5], body := bd34 }
@[go_sem] theorem n34 : ir34.n = 33 := rfl
@[go_sem] theorem r34 : ir34.res = [.cell 4 2 true, .tmp 5] := rfl
@[go_sem] theorem b34 : ir34.body = bd34 := rfl
/-- slices.ContainsFunc[[]spence/api.Span,spence/api.Span] -/
def bd35 : C :=
 (.seq (.reg [⟨some 4, none, .mv (.c (.d (.bool false))), .none⟩])
 (.seq (.reg [⟨some 5, none, .mv (.s 0), .none⟩,
 ⟨some 6, none, .mv (.s 1), .none⟩,
 ⟨some 7, none, .call 61 [.s 5, .s 6] 0, .none⟩,
 ⟨some 8, none, .bin .geq (.s 7) (.c (.d (.int .i64 0))), .none⟩,
 ⟨some 4, none, .mv (.s 8), .none⟩])
 (.ret none)))
def ir35 : F := { n := 9, res := [.tmp 4], body := bd35 }
@[go_sem] theorem n35 : ir35.n = 9 := rfl
@[go_sem] theorem r35 : ir35.res = [.tmp 4] := rfl
@[go_sem] theorem b35 : ir35.body = bd35 := rfl
def lb36_0 : C :=
 (.seq (.seq (.reg [⟨some 16, none, .mv (.s 6), .none⟩,
 ⟨some 17, none, .mv (.s 0), .none⟩,
 ⟨some 18, none, .len (.s 17), .none⟩,
 ⟨some 19, none, .bin .lss (.s 16) (.s 18), .none⟩])
 (.cond (.s 19)
 .skip
 (.exit 0 (some [0, 5]))))
 (.seq (.block 1 (.seq (.reg [⟨some 22, none, .mv (.s 0), .none⟩,
 ⟨some 23, none, .mv (.s 6), .none⟩,
 ⟨some 24, none, .is (.s 22) (.s 23) 2, .none⟩,
 ⟨some 25, none, .ld (.s 24) 2 true, .none⟩,
 ⟨some 7, none, .alloc 32 [.int .i64 0, .int .i64 0], .none⟩,
 ⟨none, none, .st (.s 7) (.s 25) 2, .none⟩])
 (.seq (.reg [⟨some 26, none, .mv (.s 1), .none⟩,
 ⟨some 27, none, .ld (.s 7) 2 true, .none⟩,
 ⟨some 28, none, .callv (.s 26) [.s 27] 0, .none⟩,
 ⟨some 29, none, .un .not (.s 28), .none⟩])
 (.cond (.s 29)
 (.seq (.reg [⟨some 30, none, .mv (.s 0), .none⟩,
 ⟨some 31, none, .mv (.s 5), .none⟩,
 ⟨some 32, none, .ld (.s 7) 2 true, .none⟩,
 ⟨some 33, none, .is (.s 30) (.s 31) 2, .none⟩,
 ⟨none, none, .st (.s 33) (.s 32) 2, .none⟩])
 (.reg [⟨some 34, none, .mv (.s 5), .none⟩,
 ⟨some 35, none, .bin .add (.s 34) (.c (.d (.int .i64 1))), .none⟩,
 ⟨some 5, none, .mv (.s 35), .none⟩]))
 .skip))))
 (.reg [⟨some 20, none, .mv (.s 6), .none⟩,
 ⟨some 21, none, .bin .add (.s 20) (.c (.d (.int .i64 1))), .none⟩,
 ⟨some 6, none, .mv (.s 21), .none⟩])))
def lp36_0 : C := lb36_0
theorem u36_0 (c : Ev.Callee) (l : Ev.Looper) (s : St) : evC c l lp36_0 s = evC c l lb36_0 s := rfl
abbrev st36_0 (m : Nat) (s0 s1 s5 s6 : AV) (h : Heap) : St := ⟨m,[s0,s1,.unk,.unk,.unk,s5,s6,.unk,.unk,.unk,.unk,.unk,.unk,.unk,.unk,.unk,.unk,.unk,.unk,.unk,.unk,.unk,.unk,.unk,.unk,.unk,.unk,.unk,.unk,.unk,.unk,.unk,.unk,.unk,.unk,.unk,.unk,.unk,.unk,.unk,.unk,.unk],h⟩
@[go_sem] theorem ks36_0 (a b c d e f g h i j k l m n o p q r s t u v w x y z a0 a1 a2 a3 a4 a5 a6 a7 a8 a9 b0 b1 b2 b3 b4 b5 : AV) : keepS [0,1,5,6] [a,b,c,d,e,f,g,h,i,j,k,l,m,n,o,p,q,r,s,t,u,v,w,x,y,z,a0,a1,a2,a3,a4,a5,a6,a7,a8,a9,b0,b1,b2,b3,b4,b5] 0 = [a,b,.unk,.unk,.unk,f,g,.unk,.unk,.unk,.unk,.unk,.unk,.unk,.unk,.unk,.unk,.unk,.unk,.unk,.unk,.unk,.unk,.unk,.unk,.unk,.unk,.unk,.unk,.unk,.unk,.unk,.unk,.unk,.unk,.unk,.unk,.unk,.unk,.unk,.unk,.unk] := rfl
@[go_sem] theorem ks36_1 (a b c d e f g h i j k l m n o p q r s t u v w x y z a0 a1 a2 a3 a4 a5 a6 a7 a8 a9 b0 b1 b2 b3 b4 b5 : AV) : keepS [0,5] [a,b,c,d,e,f,g,h,i,j,k,l,m,n,o,p,q,r,s,t,u,v,w,x,y,z,a0,a1,a2,a3,a4,a5,a6,a7,a8,a9,b0,b1,b2,b3,b4,b5] 0 = [a,.unk,.unk,.unk,.unk,f,.unk,.unk,.unk,.unk,.unk,.unk,.unk,.unk,.unk,.unk,.unk,.unk,.unk,.unk,.unk,.unk,.unk,.unk,.unk,.unk,.unk,.unk,.unk,.unk,.unk,.unk,.unk,.unk,.unk,.unk,.unk,.unk,.unk,.unk,.unk,.unk] := rfl
/-- slices.DeleteFunc[[]spence/api.Span,spence/api.Span] -/
def bd36 : C :=
 (.seq (.reg [⟨some 4, none, .mv (.c (.d .nils)), .one 2 false⟩])
 (.seq (.reg [⟨some 8, none, .mv (.s 0), .none⟩,
 ⟨some 9, none, .mv (.s 1), .none⟩,
 ⟨some 10, none, .call 61 [.s 8, .s 9] 1, .none⟩,
 ⟨some 5, none, .mv (.s 10), .none⟩])
 (.seq (.seq (.reg [⟨some 11, none, .mv (.s 5), .none⟩,
 ⟨some 12, none, .bin .eql (.s 11) (.c (.d (.int .i64 (-1)))), .none⟩])
 (.cond (.s 12)
 (.seq (.reg [⟨some 13, none, .mv (.s 0), .none⟩,
 ⟨some 4, none, .mv (.s 13), .none⟩])
 (.ret none))
 .skip))
 (.seq (.seq (.reg [⟨some 14, none, .mv (.s 5), .none⟩,
 ⟨some 15, none, .bin .add (.s 14) (.c (.d (.int .i64 1))), .none⟩,
 ⟨some 6, none, .mv (.s 15), .none⟩])
 (.block 0 (.loop [0, 1, 5, 6] lp36_0)))
 (.seq (.reg [⟨some 36, none, .mv (.s 0), .none⟩,
 ⟨some 37, none, .mv (.s 5), .none⟩,
 ⟨some 38, none, .sl (.s 36) (some (.s 37)) none none 2, .none⟩,
 ⟨none, none, .bcall (.clr [.int .i64 0, .int .i64 0]) [.s 38], .none⟩])
 (.seq (.reg [⟨some 39, none, .mv (.s 0), .none⟩,
 ⟨some 40, none, .mv (.s 5), .none⟩,
 ⟨some 41, none, .sl (.s 39) none (some (.s 40)) none 2, .none⟩,
 ⟨some 4, none, .mv (.s 41), .none⟩])
 (.ret none)))))))
def ir36 : F := { n := 42, res := [.tmp 4], body := bd36 }
@[go_sem] theorem n36 : ir36.n = 42 := rfl
@[go_sem] theorem r36 : ir36.res = [.tmp 4] := rfl
@[go_sem] theorem b36 : ir36.body = bd36 := rfl
/-- spence/span.Merge$1 -/
def bd37 : C :=
 (.seq (.reg [⟨some 1, none, .box 32 (.s 0), .none⟩,
 ⟨some 2, none, .mv (.c (.d (.bool false))), .none⟩])
 (.seq (.reg [⟨some 3, none, .ld (.s 1) 2 true, .none⟩,
 ⟨some 4, none, .call 32 [.s 3] 2, .none⟩,
 ⟨some 5, none, .un .not (.s 4), .none⟩,
 ⟨some 2, none, .mv (.s 5), .none⟩])
 (.ret none)))
def ir37 : F := { n := 6, res := [.tmp 2], body := bd37 }
@[go_sem] theorem n37 : ir37.n = 6 := rfl
@[go_sem] theorem r37 : ir37.res = [.tmp 2] := rfl
@[go_sem] theorem b37 : ir37.body = bd37 := rfl
/-- spence/span.Merge$2 -/
def bd39 : C :=
 (.seq (.reg [⟨some 2, none, .box 32 (.s 0), .none⟩,
 ⟨some 3, none, .box 32 (.s 1), .none⟩,
 ⟨some 4, none, .mv (.c (.d (.int .i64 0))), .none⟩])
 (.seq (.reg [⟨some 5, none, .fa (.s 2) 0, .none⟩,
 ⟨some 6, none, .ld (.s 5) 1 false, .none⟩,
 ⟨some 7, none, .fa (.s 3) 0, .none⟩,
 ⟨some 8, none, .ld (.s 7) 1 false, .none⟩,
 ⟨some 9, none, .bin .sub (.s 6) (.s 8), .none⟩,
 ⟨some 4, none, .mv (.s 9), .none⟩])
 (.ret none)))
def ir39 : F := { n := 10, res := [.tmp 4], body := bd39 }
@[go_sem] theorem n39 : ir39.n = 10 := rfl
@[go_sem] theorem r39 : ir39.res = [.tmp 4] := rfl
@[go_sem] theorem b39 : ir39.body = bd39 := rfl
def lb40_0 : C :=
 (.seq (.seq (.reg [⟨some 8, none, .mv (.s 7), .none⟩,
 ⟨some 9, none, .mv (.s 0), .none⟩,
 ⟨some 10, none, .lens (.s 9), .none⟩,
 ⟨some 11, none, .bin .lss (.s 8) (.s 10), .none⟩])
 (.cond (.s 11)
 .skip
 (.exit 0 (some [0]))))
 (.seq (.block 1 (.seq (.reg [⟨some 14, none, .mv (.s 0), .none⟩,
 ⟨some 15, none, .mv (.s 7), .none⟩,
 ⟨some 16, none, .sti (.s 14) (.s 15), .none⟩,
 ⟨some 17, none, .mv (.s 1), .none⟩,
 ⟨some 18, none, .bin .eql (.s 16) (.s 17), .none⟩])
 (.cond (.s 18)
 (.seq (.drw [⟨some 19, none, .mv (.s 0), .none⟩,
 ⟨some 20, none, .mv (.s 7), .none⟩,
 ⟨some 21, none, .ssl (.s 19) none (some (.s 20)), .none⟩,
 ⟨some 22, none, .mv (.s 0), .none⟩,
 ⟨some 23, none, .mv (.s 7), .none⟩,
 ⟨some 24, none, .bin .add (.s 23) (.c (.d (.int .i64 1))), .none⟩,
 ⟨some 25, none, .ssl (.s 22) (some (.s 24)) none, .none⟩,
 ⟨some 4, none, .mv (.s 21), .none⟩,
 ⟨some 5, none, .mv (.s 25), .none⟩,
 ⟨some 6, none, .mv (.c (.d (.bool true))), .none⟩]
 [[], [], [0, 1], [], [], [4], [3, 5], [2, 0, 1, 2], [6, 7, 0, 1, 2, 3, 4, 5, 6, 7], [8, 0, 1, 2, 3, 4, 5, 6, 7, 8]] [])
 (.ret (some [4, 5, 6])))
 .skip)))
 (.reg [⟨some 12, none, .mv (.s 7), .none⟩,
 ⟨some 13, none, .bin .add (.s 12) (.c (.d (.int .i64 1))), .none⟩,
 ⟨some 7, none, .mv (.s 13), .none⟩])))
def lp40_0 : C := lb40_0
theorem u40_0 (c : Ev.Callee) (l : Ev.Looper) (s : St) : evC c l lp40_0 s = evC c l lb40_0 s := rfl
abbrev st40_0 (m : Nat) (s0 s1 s7 : AV) (h : Heap) : St := ⟨m,[s0,s1,.unk,.unk,.unk,.unk,.unk,s7,.unk,.unk,.unk,.unk,.unk,.unk,.unk,.unk,.unk,.unk,.unk,.unk,.unk,.unk,.unk,.unk,.unk,.unk,.unk],h⟩
@[go_sem] theorem ks40_0 (a b c d e f g h i j k l m n o p q r s t u v w x y z a0 : AV) : keepS [0,1,7] [a,b,c,d,e,f,g,h,i,j,k,l,m,n,o,p,q,r,s,t,u,v,w,x,y,z,a0] 0 = [a,b,.unk,.unk,.unk,.unk,.unk,h,.unk,.unk,.unk,.unk,.unk,.unk,.unk,.unk,.unk,.unk,.unk,.unk,.unk,.unk,.unk,.unk,.unk,.unk,.unk] := rfl
@[go_sem] theorem ks40_1 (a b c d e f g h i j k l m n o p q r s t u v w x y z a0 : AV) : keepS [0] [a,b,c,d,e,f,g,h,i,j,k,l,m,n,o,p,q,r,s,t,u,v,w,x,y,z,a0] 0 = [a,.unk,.unk,.unk,.unk,.unk,.unk,.unk,.unk,.unk,.unk,.unk,.unk,.unk,.unk,.unk,.unk,.unk,.unk,.unk,.unk,.unk,.unk,.unk,.unk,.unk,.unk] := rfl
@[go_sem] theorem ks40_2 (a b c d e f g h i j k l m n o p q r s t u v w x y z a0 : AV) : keepS [4,5,6] [a,b,c,d,e,f,g,h,i,j,k,l,m,n,o,p,q,r,s,t,u,v,w,x,y,z,a0] 0 = [.unk,.unk,.unk,.unk,e,f,g,.unk,.unk,.unk,.unk,.unk,.unk,.unk,.unk,.unk,.unk,.unk,.unk,.unk,.unk,.unk,.unk,.unk,.unk,.unk,.unk] := rfl
/-- spence/spenceref01.Cut -/
def bd40 : C :=
 (.seq (.reg [⟨some 4, none, .mv (.c (.d (.str []))), .none⟩,
 ⟨some 5, none, .mv (.c (.d (.str []))), .none⟩,
 ⟨some 6, none, .mv (.c (.d (.bool false))), .none⟩])
 (.seq (.seq (.reg [⟨some 7, none, .mv (.c (.d (.int .i64 0))), .none⟩])
 (.block 0 (.loop [0, 1, 7] lp40_0)))
 (.seq (.reg [⟨some 26, none, .mv (.s 0), .none⟩,
 ⟨some 4, none, .mv (.s 26), .none⟩,
 ⟨some 5, none, .mv (.c (.d (.str []))), .none⟩,
 ⟨some 6, none, .mv (.c (.d (.bool false))), .none⟩])
 (.ret none))))
def ir40 : F := { n := 27, res := [.tmp 4, .tmp 5, .tmp 6], body := bd40 }
@[go_sem] theorem n40 : ir40.n = 27 := rfl
@[go_sem] theorem r40 : ir40.res = [.tmp 4, .tmp 5, .tmp 6] := rfl
@[go_sem] theorem b40 : ir40.body = bd40 := rfl
def lb41_1 : C :=
 (.seq (.seq (.reg [⟨some 21, none, .mv (.s 1), .none⟩,
 ⟨some 22, none, .un .not (.s 21), .none⟩,
 ⟨some 23, none, .mv (.s 22), .none⟩,
 ⟨some 24, some (23, true), .mv (.s 0), .none⟩,
 ⟨some 25, some (23, true), .lens (.s 24), .none⟩,
 ⟨some 26, some (23, true), .bin .gtr (.s 25) (.c (.d (.int .i64 0))), .none⟩,
 ⟨some 27, none, .pick (.s 23) (.s 26) (.c (.d (.bool false))), .none⟩,
 ⟨some 28, none, .mv (.s 27), .none⟩,
 ⟨some 29, some (28, true), .mv (.s 0), .none⟩,
 ⟨some 30, some (28, true), .sti (.s 29) (.c (.d (.int .i64 0))), .none⟩,
 ⟨some 31, some (28, true), .call 64 [.s 30] 2, .none⟩,
 ⟨some 32, none, .pick (.s 28) (.s 31) (.c (.d (.bool false))), .none⟩])
 (.cond (.s 32)
 .skip
 (.exit 2 (some [0]))))
 (.block 3 (.reg [⟨some 33, none, .mv (.s 0), .none⟩,
 ⟨some 34, none, .ssl (.s 33) (some (.c (.d (.int .i64 1)))) none, .none⟩,
 ⟨some 0, none, .mv (.s 34), .none⟩])))
def lp41_1 : C := lb41_1
theorem u41_1 (c : Ev.Callee) (l : Ev.Looper) (s : St) : evC c l lp41_1 s = evC c l lb41_1 s := rfl
abbrev st41_1 (m : Nat) (s0 s1 : AV) (h : Heap) : St := ⟨m,[s0,s1,.unk,.unk,.unk,.unk,.unk,.unk,.unk,.unk,.unk,.unk,.unk,.unk,.unk,.unk,.unk,.unk,.unk,.unk,.unk,.unk,.unk,.unk,.unk,.unk,.unk,.unk,.unk,.unk,.unk,.unk,.unk,.unk,.unk,.unk],h⟩
def lb41_0 : C :=
 (.seq (.seq (.reg [⟨some 5, none, .mv (.s 0), .none⟩,
 ⟨some 6, none, .lens (.s 5), .none⟩,
 ⟨some 7, none, .bin .gtr (.s 6) (.c (.d (.int .i64 0))), .none⟩,
 ⟨some 8, none, .mv (.s 7), .none⟩,
 ⟨some 9, some (8, true), .mv (.s 0), .none⟩,
 ⟨some 10, some (8, true), .mv (.s 0), .none⟩,
 ⟨some 11, some (8, true), .lens (.s 10), .none⟩,
 ⟨some 12, some (8, true), .bin .sub (.s 11) (.c (.d (.int .i64 1))), .none⟩,
 ⟨some 13, some (8, true), .sti (.s 9) (.s 12), .none⟩,
 ⟨some 14, some (8, true), .call 64 [.s 13] 2, .none⟩,
 ⟨some 15, none, .pick (.s 8) (.s 14) (.c (.d (.bool false))), .none⟩])
 (.cond (.s 15)
 .skip
 (.exit 0 (some [0, 1]))))
 (.block 1 (.reg [⟨some 16, none, .mv (.s 0), .none⟩,
 ⟨some 17, none, .mv (.s 0), .none⟩,
 ⟨some 18, none, .lens (.s 17), .none⟩,
 ⟨some 19, none, .bin .sub (.s 18) (.c (.d (.int .i64 1))), .none⟩,
 ⟨some 20, none, .ssl (.s 16) none (some (.s 19)), .none⟩,
 ⟨some 0, none, .mv (.s 20), .none⟩])))
def lp41_0 : C := lb41_0
theorem u41_0 (c : Ev.Callee) (l : Ev.Looper) (s : St) : evC c l lp41_0 s = evC c l lb41_0 s := rfl
abbrev st41_0 (m : Nat) (s0 s1 : AV) (h : Heap) : St := ⟨m,[s0,s1,.unk,.unk,.unk,.unk,.unk,.unk,.unk,.unk,.unk,.unk,.unk,.unk,.unk,.unk,.unk,.unk,.unk,.unk,.unk,.unk,.unk,.unk,.unk,.unk,.unk,.unk,.unk,.unk,.unk,.unk,.unk,.unk,.unk,.unk],h⟩
@[go_sem] theorem ks41_0 (a b c d e f g h i j k l m n o p q r s t u v w x y z a0 a1 a2 a3 a4 a5 a6 a7 a8 a9 : AV) : keepS [0,1] [a,b,c,d,e,f,g,h,i,j,k,l,m,n,o,p,q,r,s,t,u,v,w,x,y,z,a0,a1,a2,a3,a4,a5,a6,a7,a8,a9] 0 = [a,b,.unk,.unk,.unk,.unk,.unk,.unk,.unk,.unk,.unk,.unk,.unk,.unk,.unk,.unk,.unk,.unk,.unk,.unk,.unk,.unk,.unk,.unk,.unk,.unk,.unk,.unk,.unk,.unk,.unk,.unk,.unk,.unk,.unk,.unk] := rfl
@[go_sem] theorem ks41_1 (a b c d e f g h i j k l m n o p q r s t u v w x y z a0 a1 a2 a3 a4 a5 a6 a7 a8 a9 : AV) : keepS [0] [a,b,c,d,e,f,g,h,i,j,k,l,m,n,o,p,q,r,s,t,u,v,w,x,y,z,a0,a1,a2,a3,a4,a5,a6,a7,a8,a9] 0 = [a,.unk,.unk,.unk,.unk,.unk,.unk,.unk,.unk,.unk,.unk,.unk,.unk,.unk,.unk,.unk,.unk,.unk,.unk,.unk,.unk,.unk,.unk,.unk,.unk,.unk,.unk,.unk,.unk,.unk,.unk,.unk,.unk,.unk,.unk,.unk] := rfl
/-- spence/spenceref01.Trim -/
def bd41 : C :=
 (.seq (.reg [⟨some 4, none, .mv (.c (.d (.str []))), .none⟩])
 (.seq (.block 0 (.loop [0, 1] lp41_0))
 (.seq (.block 2 (.loop [0, 1] lp41_1))
 (.seq (.reg [⟨some 35, none, .mv (.s 0), .none⟩,
 ⟨some 4, none, .mv (.s 35), .none⟩])
 (.ret none)))))
def ir41 : F := { n := 36, res := [.tmp 4], body := bd41 }
@[go_sem] theorem n41 : ir41.n = 36 := rfl
@[go_sem] theorem r41 : ir41.res = [.tmp 4] := rfl
@[go_sem] theorem b41 : ir41.body = bd41 := rfl
def lb42_0 : C :=
 (.seq (.reg [⟨some 11, none, .bin .lss (.s 10) (.s 9), .none⟩])
 (.seq (.cond (.s 11)
 .skip
 (.exit 0 (some [4])))
 (.seq (.block 1 (.seq (.reg [⟨some 12, none, .mv (.s 10), .none⟩,
 ⟨some 13, none, .is (.s 8) (.s 10) 1, .none⟩,
 ⟨some 14, none, .ld (.s 13) 1 false, .none⟩,
 ⟨some 5, none, .mv (.s 12), .none⟩,
 ⟨some 6, none, .mv (.s 14), .none⟩])
 (.seq (.reg [⟨some 15, none, .mv (.s 6), .none⟩,
 ⟨some 16, none, .call 41 [.s 15, .c (.d (.bool false))] 2, .none⟩,
 ⟨some 7, none, .mv (.s 16), .none⟩])
 (.seq (.seq (.reg [⟨some 17, none, .mv (.s 7), .none⟩,
 ⟨some 18, none, .bin .eql (.s 17) (.c (.d (.str []))), .none⟩])
 (.cond (.s 18)
 (.seq (.seq (.reg [⟨some 19, none, .mv (.s 0), .none⟩,
 ⟨some 20, none, .len (.s 19), .none⟩,
 ⟨some 21, none, .bin .eql (.s 20) (.c (.d (.int .i64 1))), .none⟩,
 ⟨some 22, none, .mv (.s 21), .none⟩,
 ⟨some 23, some (22, true), .mv (.s 6), .none⟩,
 ⟨some 24, some (22, true), .bin .neq (.s 23) (.c (.d (.str []))), .none⟩,
 ⟨some 25, none, .pick (.s 22) (.s 24) (.c (.d (.bool false))), .none⟩])
 (.cond (.s 25)
 (.seq (.reg [⟨some 2, none, .mv (.c (.d .nils)), .one 1 true⟩,
 ⟨some 3, none, .mv (.c (.d (.bool false))), .none⟩])
 (.ret (some [2, 3])))
 .skip))
 (.exit 1 none))
 .skip))
 (.seq (.seq (.reg [⟨some 26, none, .mv (.s 5), .none⟩,
 ⟨some 27, none, .bin .eql (.s 26) (.c (.d (.int .i64 0))), .none⟩,
 ⟨some 28, none, .mv (.s 27), .none⟩,
 ⟨some 29, some (28, true), .mv (.s 6), .none⟩,
 ⟨some 30, some (28, true), .sti (.s 29) (.c (.d (.int .i64 0))), .none⟩,
 ⟨some 31, some (28, true), .call 64 [.s 30] 2, .none⟩,
 ⟨some 32, none, .pick (.s 28) (.s 31) (.c (.d (.bool false))), .none⟩,
 ⟨some 33, none, .mv (.s 32), .none⟩,
 ⟨some 34, some (33, false), .mv (.s 5), .none⟩,
 ⟨some 35, some (33, false), .mv (.s 0), .none⟩,
 ⟨some 36, some (33, false), .len (.s 35), .none⟩,
 ⟨some 37, some (33, false), .bin .sub (.s 36) (.c (.d (.int .i64 1))), .none⟩,
 ⟨some 38, some (33, false), .bin .eql (.s 34) (.s 37), .none⟩,
 ⟨some 39, some (33, false), .mv (.s 38), .none⟩,
 ⟨some 40, some (39, true), .mv (.s 6), .none⟩,
 ⟨some 41, some (39, true), .mv (.s 6), .none⟩,
 ⟨some 42, some (39, true), .lens (.s 41), .none⟩,
 ⟨some 43, some (39, true), .bin .sub (.s 42) (.c (.d (.int .i64 1))), .none⟩,
 ⟨some 44, some (39, true), .sti (.s 40) (.s 43), .none⟩,
 ⟨some 45, some (39, true), .call 64 [.s 44] 2, .none⟩,
 ⟨some 46, some (33, false), .pick (.s 39) (.s 45) (.c (.d (.bool false))), .none⟩,
 ⟨some 47, none, .pick (.s 33) (.c (.d (.bool true))) (.s 46), .none⟩])
 (.cond (.s 47)
 (.seq (.reg [⟨some 2, none, .mv (.c (.d .nils)), .one 1 true⟩,
 ⟨some 3, none, .mv (.c (.d (.bool false))), .none⟩])
 (.ret (some [2, 3])))
 .skip))
 (.reg [⟨some 48, none, .mv (.s 4), .none⟩,
 ⟨some 49, none, .mv (.s 7), .none⟩,
 ⟨some 50, none, .bsl 9 1 1 [.str []] [(0, (1, .s 49))], .none⟩,
 ⟨some 51, none, .app 9 1 16 (.s 48) (.s 50), .none⟩,
 ⟨some 4, none, .mv (.s 51), .none⟩]))))))
 (.reg [⟨some 52, none, .bin .add (.s 10) (.c (.d (.int .i64 1))), .none⟩,
 ⟨some 10, none, .mv (.s 52), .none⟩]))))
def lp42_0 : C := lb42_0
theorem u42_0 (c : Ev.Callee) (l : Ev.Looper) (s : St) : evC c l lp42_0 s = evC c l lb42_0 s := rfl
abbrev st42_0 (m : Nat) (s0 s4 s8 s9 s10 : AV) (h : Heap) : St := ⟨m,[s0,.unk,.unk,.unk,s4,.unk,.unk,.unk,s8,s9,s10,.unk,.unk,.unk,.unk,.unk,.unk,.unk,.unk,.unk,.unk,.unk,.unk,.unk,.unk,.unk,.unk,.unk,.unk,.unk,.unk,.unk,.unk,.unk,.unk,.unk,.unk,.unk,.unk,.unk,.unk,.unk,.unk,.unk,.unk,.unk,.unk,.unk,.unk,.unk,.unk,.unk,.unk,.unk],h⟩
@[go_sem] theorem ks42_0 (a b c d e f g h i j k l m n o p q r s t u v w x y z a0 a1 a2 a3 a4 a5 a6 a7 a8 a9 b0 b1 b2 b3 b4 b5 b6 b7 b8 b9 c0 c1 c2 c3 c4 c5 c6 c7 : AV) : keepS [0,4,8,9,10] [a,b,c,d,e,f,g,h,i,j,k,l,m,n,o,p,q,r,s,t,u,v,w,x,y,z,a0,a1,a2,a3,a4,a5,a6,a7,a8,a9,b0,b1,b2,b3,b4,b5,b6,b7,b8,b9,c0,c1,c2,c3,c4,c5,c6,c7] 0 = [a,.unk,.unk,.unk,e,.unk,.unk,.unk,i,j,k,.unk,.unk,.unk,.unk,.unk,.unk,.unk,.unk,.unk,.unk,.unk,.unk,.unk,.unk,.unk,.unk,.unk,.unk,.unk,.unk,.unk,.unk,.unk,.unk,.unk,.unk,.unk,.unk,.unk,.unk,.unk,.unk,.unk,.unk,.unk,.unk,.unk,.unk,.unk,.unk,.unk,.unk,.unk] := rfl
@[go_sem] theorem ks42_1 (a b c d e f g h i j k l m n o p q r s t u v w x y z a0 a1 a2 a3 a4 a5 a6 a7 a8 a9 b0 b1 b2 b3 b4 b5 b6 b7 b8 b9 c0 c1 c2 c3 c4 c5 c6 c7 : AV) : keepS [4] [a,b,c,d,e,f,g,h,i,j,k,l,m,n,o,p,q,r,s,t,u,v,w,x,y,z,a0,a1,a2,a3,a4,a5,a6,a7,a8,a9,b0,b1,b2,b3,b4,b5,b6,b7,b8,b9,c0,c1,c2,c3,c4,c5,c6,c7] 0 = [.unk,.unk,.unk,.unk,e,.unk,.unk,.unk,.unk,.unk,.unk,.unk,.unk,.unk,.unk,.unk,.unk,.unk,.unk,.unk,.unk,.unk,.unk,.unk,.unk,.unk,.unk,.unk,.unk,.unk,.unk,.unk,.unk,.unk,.unk,.unk,.unk,.unk,.unk,.unk,.unk,.unk,.unk,.unk,.unk,.unk,.unk,.unk,.unk,.unk,.unk,.unk,.unk,.unk] := rfl
@[go_sem] theorem ks42_2 (a b c d e f g h i j k l m n o p q r s t u v w x y z a0 a1 a2 a3 a4 a5 a6 a7 a8 a9 b0 b1 b2 b3 b4 b5 b6 b7 b8 b9 c0 c1 c2 c3 c4 c5 c6 c7 : AV) : keepS [2,3] [a,b,c,d,e,f,g,h,i,j,k,l,m,n,o,p,q,r,s,t,u,v,w,x,y,z,a0,a1,a2,a3,a4,a5,a6,a7,a8,a9,b0,b1,b2,b3,b4,b5,b6,b7,b8,b9,c0,c1,c2,c3,c4,c5,c6,c7] 0 = [.unk,.unk,c,d,.unk,.unk,.unk,.unk,.unk,.unk,.unk,.unk,.unk,.unk,.unk,.unk,.unk,.unk,.unk,.unk,.unk,.unk,.unk,.unk,.unk,.unk,.unk,.unk,.unk,.unk,.unk,.unk,.unk,.unk,.unk,.unk,.unk,.unk,.unk,.unk,.unk,.unk,.unk,.unk,.unk,.unk,.unk,.unk,.unk,.unk,.unk,.unk,.unk,.unk] := rfl
/-- spence/spenceref01.List -/
def bd42 : C :=
 (.seq (.reg [⟨some 2, none, .mv (.c (.d .nils)), .one 1 true⟩,
 ⟨some 3, none, .mv (.c (.d (.bool false))), .none⟩])
 (.seq (.reg [⟨some 4, none, .mv (.c (.d .nils)), .one 1 true⟩])
 (.seq (.seq (.reg [⟨some 8, none, .mv (.s 0), .none⟩,
 ⟨some 9, none, .len (.s 8), .none⟩,
 ⟨some 10, none, .mv (.c (.d (.int .i64 0))), .none⟩])
 (.block 0 (.loop [0, 4, 8, 9, 10] lp42_0)))
 (.seq (.reg [⟨some 53, none, .mv (.s 4), .none⟩,
 ⟨some 2, none, .mv (.s 53), .none⟩,
 ⟨some 3, none, .mv (.c (.d (.bool true))), .none⟩])
 (.ret none)))))
def ir42 : F := { n := 54, res := [.tmp 2, .tmp 3], body := bd42 }
@[go_sem] theorem n42 : ir42.n = 54 := rfl
@[go_sem] theorem r42 : ir42.res = [.tmp 2, .tmp 3] := rfl
@[go_sem] theorem b42 : ir42.body = bd42 := rfl
def lb43_0 : C :=
 (.seq (.seq (.reg [⟨some 9, none, .mv (.s 7), .none⟩,
 ⟨some 10, none, .mv (.s 0), .none⟩,
 ⟨some 11, none, .lens (.s 10), .none⟩,
 ⟨some 12, none, .bin .lss (.s 9) (.s 11), .none⟩])
 (.cond (.s 12)
 .skip
 (.exit 0 (some [5]))))
 (.seq (.block 1 (.seq (.seq (.reg [⟨some 15, none, .mv (.s 0), .none⟩,
 ⟨some 16, none, .mv (.s 7), .none⟩,
 ⟨some 17, none, .sti (.s 15) (.s 16), .none⟩,
 ⟨some 18, none, .bin .eql (.s 17) (.c (.d (.int .u8 34))), .none⟩,
 ⟨some 19, none, .mv (.s 18), .none⟩,
 ⟨some 20, some (19, true), .mv (.s 1), .none⟩,
 ⟨some 21, none, .pick (.s 19) (.s 20) (.c (.d (.bool false))), .none⟩])
 (.cond (.s 21)
 (.reg [⟨some 22, none, .mv (.s 6), .none⟩,
 ⟨some 23, none, .un .not (.s 22), .none⟩,
 ⟨some 6, none, .mv (.s 23), .none⟩])
 .skip))
 (.ann [0, 1, 5, 6, 7] (.seq (.seq (.reg [⟨some 24, none, .mv (.s 0), .none⟩,
 ⟨some 25, none, .mv (.s 7), .none⟩,
 ⟨some 26, none, .sti (.s 24) (.s 25), .none⟩,
 ⟨some 27, none, .bin .eql (.s 26) (.c (.d (.int .u8 44))), .none⟩,
 ⟨some 28, none, .mv (.s 27), .none⟩,
 ⟨some 29, some (28, true), .mv (.s 6), .none⟩,
 ⟨some 30, some (28, true), .un .not (.s 29), .none⟩,
 ⟨some 31, none, .pick (.s 28) (.s 30) (.c (.d (.bool false))), .none⟩])
 (.cond (.s 31)
 (.seq (.reg [⟨some 32, none, .mv (.s 5), .none⟩,
 ⟨some 33, none, .bsl 9 1 1 [.str []] [(0, (1, .c (.d (.str []))))], .none⟩,
 ⟨some 34, none, .app 9 1 16 (.s 32) (.s 33), .none⟩,
 ⟨some 5, none, .mv (.s 34), .none⟩])
 (.exit 1 none))
 .skip))
 (.drw [⟨some 35, none, .mv (.s 5), .none⟩,
 ⟨some 36, none, .mv (.s 5), .none⟩,
 ⟨some 37, none, .len (.s 36), .none⟩,
 ⟨some 38, none, .bin .sub (.s 37) (.c (.d (.int .i64 1))), .none⟩,
 ⟨some 39, none, .is (.s 35) (.s 38) 1, .none⟩,
 ⟨some 40, none, .ld (.s 39) 1 false, .none⟩,
 ⟨some 41, none, .mv (.s 0), .none⟩,
 ⟨some 42, none, .mv (.s 7), .none⟩,
 ⟨some 43, none, .sti (.s 41) (.s 42), .none⟩,
 ⟨some 44, none, .bsl 5 1 1 [.int .u8 0] [(0, (1, .s 43))], .dat⟩,
 ⟨some 45, none, .b2s (.s 44), .none⟩,
 ⟨some 46, none, .bin .add (.s 40) (.s 45), .none⟩,
 ⟨some 47, none, .is (.s 35) (.s 38) 1, .none⟩,
 ⟨none, none, .st (.s 47) (.s 46) 1, .none⟩]
 [[], [], [1], [2], [0, 3], [4], [], [], [6, 7], [8], [9], [5, 10], [0, 3, 0, 1, 2, 3, 4, 5, 6, 7, 8, 9, 10, 11], [12, 11, 0, 1, 2, 3, 4, 5, 6, 7, 8, 9, 10, 11]] [])))))
 (.reg [⟨some 13, none, .mv (.s 7), .none⟩,
 ⟨some 14, none, .bin .add (.s 13) (.c (.d (.int .i64 1))), .none⟩,
 ⟨some 7, none, .mv (.s 14), .none⟩])))
def lp43_0 : C := lb43_0
theorem u43_0 (c : Ev.Callee) (l : Ev.Looper) (s : St) : evC c l lp43_0 s = evC c l lb43_0 s := rfl
abbrev st43_0 (m : Nat) (s0 s1 s5 s6 s7 : AV) (h : Heap) : St := ⟨m,[s0,s1,.unk,.unk,.unk,s5,s6,s7,.unk,.unk,.unk,.unk,.unk,.unk,.unk,.unk,.unk,.unk,.unk,.unk,.unk,.unk,.unk,.unk,.unk,.unk,.unk,.unk,.unk,.unk,.unk,.unk,.unk,.unk,.unk,.unk,.unk,.unk,.unk,.unk,.unk,.unk,.unk,.unk,.unk,.unk,.unk,.unk,.unk],h⟩
@[go_sem] theorem ks43_0 (a b c d e f g h i j k l m n o p q r s t u v w x y z a0 a1 a2 a3 a4 a5 a6 a7 a8 a9 b0 b1 b2 b3 b4 b5 b6 b7 b8 b9 c0 c1 c2 : AV) : keepS [0,1,5,6,7] [a,b,c,d,e,f,g,h,i,j,k,l,m,n,o,p,q,r,s,t,u,v,w,x,y,z,a0,a1,a2,a3,a4,a5,a6,a7,a8,a9,b0,b1,b2,b3,b4,b5,b6,b7,b8,b9,c0,c1,c2] 0 = [a,b,.unk,.unk,.unk,f,g,h,.unk,.unk,.unk,.unk,.unk,.unk,.unk,.unk,.unk,.unk,.unk,.unk,.unk,.unk,.unk,.unk,.unk,.unk,.unk,.unk,.unk,.unk,.unk,.unk,.unk,.unk,.unk,.unk,.unk,.unk,.unk,.unk,.unk,.unk,.unk,.unk,.unk,.unk,.unk,.unk,.unk] := rfl
@[go_sem] theorem ks43_1 (a b c d e f g h i j k l m n o p q r s t u v w x y z a0 a1 a2 a3 a4 a5 a6 a7 a8 a9 b0 b1 b2 b3 b4 b5 b6 b7 b8 b9 c0 c1 c2 : AV) : keepS [5] [a,b,c,d,e,f,g,h,i,j,k,l,m,n,o,p,q,r,s,t,u,v,w,x,y,z,a0,a1,a2,a3,a4,a5,a6,a7,a8,a9,b0,b1,b2,b3,b4,b5,b6,b7,b8,b9,c0,c1,c2] 0 = [.unk,.unk,.unk,.unk,.unk,f,.unk,.unk,.unk,.unk,.unk,.unk,.unk,.unk,.unk,.unk,.unk,.unk,.unk,.unk,.unk,.unk,.unk,.unk,.unk,.unk,.unk,.unk,.unk,.unk,.unk,.unk,.unk,.unk,.unk,.unk,.unk,.unk,.unk,.unk,.unk,.unk,.unk,.unk,.unk,.unk,.unk,.unk,.unk] := rfl
/-- spence/spenceref01.Pieces -/
def bd43 : C :=
 (.seq (.reg [⟨some 4, none, .mv (.c (.d .nils)), .one 1 true⟩])
 (.seq (.reg [⟨some 8, none, .bsl 9 1 1 [.str []] [(0, (1, .c (.d (.str []))))], .none⟩,
 ⟨some 5, none, .mv (.s 8), .none⟩])
 (.seq (.reg [⟨some 6, none, .mv (.c (.d (.bool false))), .none⟩])
 (.seq (.seq (.reg [⟨some 7, none, .mv (.c (.d (.int .i64 0))), .none⟩])
 (.block 0 (.loop [0, 1, 5, 6, 7] lp43_0)))
 (.seq (.reg [⟨some 48, none, .mv (.s 5), .none⟩,
 ⟨some 4, none, .mv (.s 48), .none⟩])
 (.ret none))))))
def ir43 : F := { n := 49, res := [.tmp 4], body := bd43 }
@[go_sem] theorem n43 : ir43.n = 49 := rfl
@[go_sem] theorem r43 : ir43.res = [.tmp 4] := rfl
@[go_sem] theorem b43 : ir43.body = bd43 := rfl
def lb44_0 : C :=
 (.seq (.seq (.reg [⟨some 6, none, .mv (.s 4), .none⟩,
 ⟨some 7, none, .mv (.s 0), .none⟩,
 ⟨some 8, none, .lens (.s 7), .none⟩,
 ⟨some 9, none, .bin .lss (.s 6) (.s 8), .none⟩])
 (.cond (.s 9)
 .skip
 (.exit 0 (some [3]))))
 (.seq (.block 1 (.seq (.reg [⟨some 12, none, .mv (.s 0), .none⟩,
 ⟨some 13, none, .mv (.s 4), .none⟩,
 ⟨some 14, none, .sti (.s 12) (.s 13), .none⟩,
 ⟨some 5, none, .mv (.s 14), .none⟩])
 (.seq (.seq (.reg [⟨some 15, none, .mv (.s 5), .none⟩,
 ⟨some 16, none, .bin .geq (.s 15) (.c (.d (.int .u8 65))), .none⟩,
 ⟨some 17, none, .mv (.s 16), .none⟩,
 ⟨some 18, some (17, true), .mv (.s 5), .none⟩,
 ⟨some 19, some (17, true), .bin .leq (.s 18) (.c (.d (.int .u8 90))), .none⟩,
 ⟨some 20, none, .pick (.s 17) (.s 19) (.c (.d (.bool false))), .none⟩])
 (.cond (.s 20)
 (.reg [⟨some 21, none, .mv (.s 5), .none⟩,
 ⟨some 22, none, .bin .add (.s 21) (.c (.d (.int .u8 32))), .none⟩,
 ⟨some 5, none, .mv (.s 22), .none⟩])
 .skip))
 (.ann [0, 3, 4, 5] (.reg [⟨some 23, none, .mv (.s 3), .none⟩,
 ⟨some 24, none, .mv (.s 5), .none⟩,
 ⟨some 25, none, .bsl 5 1 1 [.int .u8 0] [(0, (1, .s 24))], .none⟩,
 ⟨some 26, none, .b2s (.s 25), .none⟩,
 ⟨some 27, none, .bin .add (.s 23) (.s 26), .none⟩,
 ⟨some 3, none, .mv (.s 27), .none⟩])))))
 (.reg [⟨some 10, none, .mv (.s 4), .none⟩,
 ⟨some 11, none, .bin .add (.s 10) (.c (.d (.int .i64 1))), .none⟩,
 ⟨some 4, none, .mv (.s 11), .none⟩])))
def lp44_0 : C := lb44_0
theorem u44_0 (c : Ev.Callee) (l : Ev.Looper) (s : St) : evC c l lp44_0 s = evC c l lb44_0 s := rfl
abbrev st44_0 (m : Nat) (s0 s3 s4 : AV) (h : Heap) : St := ⟨m,[s0,.unk,.unk,s3,s4,.unk,.unk,.unk,.unk,.unk,.unk,.unk,.unk,.unk,.unk,.unk,.unk,.unk,.unk,.unk,.unk,.unk,.unk,.unk,.unk,.unk,.unk,.unk,.unk],h⟩
@[go_sem] theorem ks44_0 (a b c d e f g h i j k l m n o p q r s t u v w x y z a0 a1 a2 : AV) : keepS [0,3,4] [a,b,c,d,e,f,g,h,i,j,k,l,m,n,o,p,q,r,s,t,u,v,w,x,y,z,a0,a1,a2] 0 = [a,.unk,.unk,d,e,.unk,.unk,.unk,.unk,.unk,.unk,.unk,.unk,.unk,.unk,.unk,.unk,.unk,.unk,.unk,.unk,.unk,.unk,.unk,.unk,.unk,.unk,.unk,.unk] := rfl
@[go_sem] theorem ks44_1 (a b c d e f g h i j k l m n o p q r s t u v w x y z a0 a1 a2 : AV) : keepS [3] [a,b,c,d,e,f,g,h,i,j,k,l,m,n,o,p,q,r,s,t,u,v,w,x,y,z,a0,a1,a2] 0 = [.unk,.unk,.unk,d,.unk,.unk,.unk,.unk,.unk,.unk,.unk,.unk,.unk,.unk,.unk,.unk,.unk,.unk,.unk,.unk,.unk,.unk,.unk,.unk,.unk,.unk,.unk,.unk,.unk] := rfl
@[go_sem] theorem ks44_2 (a b c d e f g h i j k l m n o p q r s t u v w x y z a0 a1 a2 : AV) : keepS [0,3,4,5] [a,b,c,d,e,f,g,h,i,j,k,l,m,n,o,p,q,r,s,t,u,v,w,x,y,z,a0,a1,a2] 0 = [a,.unk,.unk,d,e,f,.unk,.unk,.unk,.unk,.unk,.unk,.unk,.unk,.unk,.unk,.unk,.unk,.unk,.unk,.unk,.unk,.unk,.unk,.unk,.unk,.unk,.unk,.unk] := rfl
/-- spence/spenceref01.Lower -/
def bd44 : C :=
 (.seq (.reg [⟨some 2, none, .mv (.c (.d (.str []))), .none⟩])
 (.seq (.reg [⟨some 3, none, .mv (.c (.d (.str []))), .none⟩])
 (.seq (.seq (.reg [⟨some 4, none, .mv (.c (.d (.int .i64 0))), .none⟩])
 (.block 0 (.loop [0, 3, 4] lp44_0)))
 (.seq (.reg [⟨some 28, none, .mv (.s 3), .none⟩,
 ⟨some 2, none, .mv (.s 28), .none⟩])
 (.ret none)))))
def ir44 : F := { n := 29, res := [.tmp 2], body := bd44 }
@[go_sem] theorem n44 : ir44.n = 29 := rfl
@[go_sem] theorem r44 : ir44.res = [.tmp 2] := rfl
@[go_sem] theorem b44 : ir44.body = bd44 := rfl
/-- spence/spenceref04.One -/
def bd45 : C :=
 (.seq (.reg [⟨some 2, none, .alloc 61 [.int .i64 0, .int .i64 0, .int .i64 0], .none⟩,
 ⟨some 3, none, .mv (.c (.d (.int .i64 0))), .none⟩])
 (.seq (.reg [⟨some 12, none, .mv (.s 0), .none⟩,
 ⟨some 13, none, .call 40 [.s 12, .c (.d (.int .u8 45))] 2, .none⟩,
 ⟨some 11, none, .mv (.s 13), .none⟩,
 ⟨some 14, none, .ext (.s 11) 0, .none⟩,
 ⟨some 15, none, .ext (.s 11) 1, .none⟩,
 ⟨some 16, none, .ext (.s 11) 2, .none⟩,
 ⟨some 4, none, .mv (.s 14), .none⟩,
 ⟨some 5, none, .mv (.s 15), .none⟩,
 ⟨some 6, none, .mv (.s 16), .none⟩])
 (.seq (.reg [⟨some 18, none, .mv (.s 4), .none⟩,
 ⟨some 19, none, .call 65 [.s 18] 2, .none⟩,
 ⟨some 17, none, .mv (.s 19), .none⟩,
 ⟨some 20, none, .ext (.s 17) 0, .none⟩,
 ⟨some 21, none, .ext (.s 17) 1, .none⟩,
 ⟨some 7, none, .mv (.s 20), .none⟩,
 ⟨some 8, none, .mv (.s 21), .none⟩])
 (.seq (.reg [⟨some 23, none, .mv (.s 5), .none⟩,
 ⟨some 24, none, .call 65 [.s 23] 2, .none⟩,
 ⟨some 22, none, .mv (.s 24), .none⟩,
 ⟨some 25, none, .ext (.s 22) 0, .none⟩,
 ⟨some 26, none, .ext (.s 22) 1, .none⟩,
 ⟨some 9, none, .mv (.s 25), .none⟩,
 ⟨some 10, none, .mv (.s 26), .none⟩])
 (.block 0 (.seq (.reg [⟨some 31, none, .mv (.s 6), .none⟩,
 ⟨some 32, none, .un .not (.s 31), .none⟩,
 ⟨some 30, none, .mv (.s 32), .none⟩])
 (.cond (.s 30)
 (.seq (.reg [⟨some 33, none, .build [.int .i64 0, .int .i64 0, .int .i64 0] [], .none⟩,
 ⟨none, none, .st (.s 2) (.s 33) 3, .none⟩,
 ⟨some 3, none, .mv (.c (.d (.int .i64 3))), .none⟩])
 (.ret none))
 (.seq (.reg [⟨some 35, none, .mv (.s 4), .none⟩,
 ⟨some 36, none, .bin .eql (.s 35) (.c (.d (.str []))), .none⟩,
 ⟨some 34, none, .mv (.s 36), .none⟩])
 (.cond (.s 34)
 (.seq (.seq (.reg [⟨some 37, none, .mv (.s 10), .none⟩,
 ⟨some 38, none, .bin .neq (.s 37) (.c (.d (.int .i64 0))), .none⟩])
 (.cond (.s 38)
 (.seq (.reg [⟨some 39, none, .build [.int .i64 0, .int .i64 0, .int .i64 0] [], .none⟩,
 ⟨some 40, none, .mv (.s 10), .none⟩,
 ⟨none, none, .st (.s 2) (.s 39) 3, .none⟩,
 ⟨some 3, none, .mv (.s 40), .none⟩])
 (.ret none))
 .skip))
 (.seq (.reg [⟨some 41, none, .mv (.s 9), .none⟩,
 ⟨some 42, none, .build [.int .i64 0, .int .i64 0, .int .i64 0] [(0, (1, .c (.d (.int .i64 3)))), (1, (1, .s 41))], .none⟩,
 ⟨none, none, .st (.s 2) (.s 42) 3, .none⟩,
 ⟨some 3, none, .mv (.c (.d (.int .i64 0))), .none⟩])
 (.ret none)))
 (.seq (.reg [⟨some 44, none, .mv (.s 5), .none⟩,
 ⟨some 45, none, .bin .eql (.s 44) (.c (.d (.str []))), .none⟩,
 ⟨some 43, none, .mv (.s 45), .none⟩])
 (.cond (.s 43)
 (.seq (.seq (.reg [⟨some 46, none, .mv (.s 8), .none⟩,
 ⟨some 47, none, .bin .neq (.s 46) (.c (.d (.int .i64 0))), .none⟩])
 (.cond (.s 47)
 (.seq (.reg [⟨some 48, none, .build [.int .i64 0, .int .i64 0, .int .i64 0] [], .none⟩,
 ⟨some 49, none, .mv (.s 8), .none⟩,
 ⟨none, none, .st (.s 2) (.s 48) 3, .none⟩,
 ⟨some 3, none, .mv (.s 49), .none⟩])
 (.ret none))
 .skip))
 (.seq (.reg [⟨some 50, none, .mv (.s 7), .none⟩,
 ⟨some 51, none, .build [.int .i64 0, .int .i64 0, .int .i64 0] [(0, (1, .c (.d (.int .i64 1)))), (1, (1, .s 50))], .none⟩,
 ⟨none, none, .st (.s 2) (.s 51) 3, .none⟩,
 ⟨some 3, none, .mv (.c (.d (.int .i64 0))), .none⟩])
 (.ret none)))
 (.seq (.reg [⟨some 53, none, .mv (.s 8), .none⟩,
 ⟨some 54, none, .bin .eql (.s 53) (.c (.d (.int .i64 3))), .none⟩,
 ⟨some 55, none, .mv (.s 54), .none⟩,
 ⟨some 56, some (55, false), .mv (.s 10), .none⟩,
 ⟨some 57, some (55, false), .bin .eql (.s 56) (.c (.d (.int .i64 3))), .none⟩,
 ⟨some 58, none, .pick (.s 55) (.c (.d (.bool true))) (.s 57), .none⟩,
 ⟨some 59, none, .mv (.s 58), .none⟩,
 ⟨some 60, some (59, false), .mv (.s 5), .none⟩,
 ⟨some 61, some (59, false), .mv (.s 4), .none⟩,
 ⟨some 62, some (59, false), .call 66 [.s 60, .s 61] 2, .none⟩,
 ⟨some 63, none, .pick (.s 59) (.c (.d (.bool true))) (.s 62), .none⟩,
 ⟨some 52, none, .mv (.s 63), .none⟩])
 (.cond (.s 52)
 (.seq (.reg [⟨some 64, none, .build [.int .i64 0, .int .i64 0, .int .i64 0] [], .none⟩,
 ⟨none, none, .st (.s 2) (.s 64) 3, .none⟩,
 ⟨some 3, none, .mv (.c (.d (.int .i64 3))), .none⟩])
 (.ret none))
 (.seq (.reg [⟨some 66, none, .mv (.s 8), .none⟩,
 ⟨some 67, none, .bin .neq (.s 66) (.c (.d (.int .i64 0))), .none⟩,
 ⟨some 68, none, .mv (.s 67), .none⟩,
 ⟨some 69, some (68, false), .mv (.s 10), .none⟩,
 ⟨some 70, some (68, false), .bin .neq (.s 69) (.c (.d (.int .i64 0))), .none⟩,
 ⟨some 71, none, .pick (.s 68) (.c (.d (.bool true))) (.s 70), .none⟩,
 ⟨some 65, none, .mv (.s 71), .none⟩])
 (.cond (.s 65)
 (.seq (.reg [⟨some 72, none, .build [.int .i64 0, .int .i64 0, .int .i64 0] [], .none⟩,
 ⟨none, none, .st (.s 2) (.s 72) 3, .none⟩,
 ⟨some 3, none, .mv (.c (.d (.int .i64 9))), .none⟩])
 (.ret none))
 (.seq (.reg [⟨some 27, none, .mv (.s 7), .none⟩,
 ⟨some 28, none, .mv (.s 9), .none⟩,
 ⟨some 29, none, .build [.int .i64 0, .int .i64 0, .int .i64 0] [(0, (1, .c (.d (.int .i64 2)))), (1, (1, .s 27)), (2, (1, .s 28))], .none⟩,
 ⟨none, none, .st (.s 2) (.s 29) 3, .none⟩,
 ⟨some 3, none, .mv (.c (.d (.int .i64 0))), .none⟩])
 (.ret none)))))))))))))))))
def ir45 : F := { n := 73, res := [.cell 2 3 true, .tmp 3], body := bd45 }
@[go_sem] theorem n45 : ir45.n = 73 := rfl
@[go_sem] theorem r45 : ir45.res = [.cell 2 3 true, .tmp 3] := rfl
@[go_sem] theorem b45 : ir45.body = bd45 := rfl
@[go_sem] theorem ks46_0 (a b c d e f g h i j k l m n o p q r s t u v w x y z a0 a1 a2 a3 a4 a5 a6 a7 a8 a9 b0 b1 b2 b3 b4 b5 b6 b7 b8 b9 c0 c1 c2 c3 c4 c5 c6 c7 c8 c9 d0 d1 : AV) : keepS [0,2,4] [a,b,c,d,e,f,g,h,i,j,k,l,m,n,o,p,q,r,s,t,u,v,w,x,y,z,a0,a1,a2,a3,a4,a5,a6,a7,a8,a9,b0,b1,b2,b3,b4,b5,b6,b7,b8,b9,c0,c1,c2,c3,c4,c5,c6,c7,c8,c9,d0,d1] 0 = [a,.unk,c,.unk,e,.unk,.unk,.unk,.unk,.unk,.unk,.unk,.unk,.unk,.unk,.unk,.unk,.unk,.unk,.unk,.unk,.unk,.unk,.unk,.unk,.unk,.unk,.unk,.unk,.unk,.unk,.unk,.unk,.unk,.unk,.unk,.unk,.unk,.unk,.unk,.unk,.unk,.unk,.unk,.unk,.unk,.unk,.unk,.unk,.unk,.unk,.unk,.unk,.unk,.unk,.unk,.unk,.unk] := rfl
/-- spence/spenceref04.ETag -/
def bd46 : C :=
 (.seq (.reg [⟨some 2, none, .alloc 55 [.bool false, .str []], .none⟩,
 ⟨some 3, none, .mv (.c (.d (.int .i64 0))), .none⟩])
 (.seq (.reg [⟨some 5, none, .mv (.s 0), .none⟩,
 ⟨some 6, none, .lens (.s 5), .none⟩,
 ⟨some 7, none, .bin .geq (.s 6) (.c (.d (.int .i64 2))), .none⟩,
 ⟨some 8, none, .mv (.s 7), .none⟩,
 ⟨some 9, some (8, true), .mv (.s 0), .none⟩,
 ⟨some 10, some (8, true), .sti (.s 9) (.c (.d (.int .i64 0))), .none⟩,
 ⟨some 11, some (8, true), .bin .eql (.s 10) (.c (.d (.int .u8 87))), .none⟩,
 ⟨some 12, none, .pick (.s 8) (.s 11) (.c (.d (.bool false))), .none⟩,
 ⟨some 13, none, .mv (.s 12), .none⟩,
 ⟨some 14, some (13, true), .mv (.s 0), .none⟩,
 ⟨some 15, some (13, true), .sti (.s 14) (.c (.d (.int .i64 1))), .none⟩,
 ⟨some 16, some (13, true), .bin .eql (.s 15) (.c (.d (.int .u8 47))), .none⟩,
 ⟨some 17, none, .pick (.s 13) (.s 16) (.c (.d (.bool false))), .none⟩,
 ⟨some 4, none, .mv (.s 17), .none⟩])
 (.seq (.seq (.reg [⟨some 18, none, .mv (.s 4), .none⟩])
 (.cond (.s 18)
 (.reg [⟨some 19, none, .mv (.s 0), .none⟩,
 ⟨some 20, none, .ssl (.s 19) (some (.c (.d (.int .i64 2)))) none, .none⟩,
 ⟨some 0, none, .mv (.s 20), .none⟩])
 .skip))
 (.ann [0, 2, 4] (.seq (.seq (.reg [⟨some 21, none, .mv (.s 0), .none⟩,
 ⟨some 22, none, .lens (.s 21), .none⟩,
 ⟨some 23, none, .bin .lss (.s 22) (.c (.d (.int .i64 2))), .none⟩,
 ⟨some 24, none, .mv (.s 23), .none⟩,
 ⟨some 25, some (24, false), .mv (.s 0), .none⟩,
 ⟨some 26, some (24, false), .sti (.s 25) (.c (.d (.int .i64 0))), .none⟩,
 ⟨some 27, some (24, false), .bin .neq (.s 26) (.c (.d (.int .u8 34))), .none⟩,
 ⟨some 28, none, .pick (.s 24) (.c (.d (.bool true))) (.s 27), .none⟩,
 ⟨some 29, none, .mv (.s 28), .none⟩,
 ⟨some 30, some (29, false), .mv (.s 0), .none⟩,
 ⟨some 31, some (29, false), .mv (.s 0), .none⟩,
 ⟨some 32, some (29, false), .lens (.s 31), .none⟩,
 ⟨some 33, some (29, false), .bin .sub (.s 32) (.c (.d (.int .i64 1))), .none⟩,
 ⟨some 34, some (29, false), .sti (.s 30) (.s 33), .none⟩,
 ⟨some 35, some (29, false), .bin .neq (.s 34) (.c (.d (.int .u8 34))), .none⟩,
 ⟨some 36, none, .pick (.s 29) (.c (.d (.bool true))) (.s 35), .none⟩,
 ⟨some 37, none, .mv (.s 36), .none⟩,
 ⟨some 38, some (37, false), .mv (.s 0), .none⟩,
 ⟨some 39, some (37, false), .mv (.s 0), .none⟩,
 ⟨some 40, some (37, false), .lens (.s 39), .none⟩,
 ⟨some 41, some (37, false), .bin .sub (.s 40) (.c (.d (.int .i64 1))), .none⟩,
 ⟨some 42, some (37, false), .ssl (.s 38) (some (.c (.d (.int .i64 1)))) (some (.s 41)), .none⟩,
 ⟨some 43, some (37, false), .call 67 [.s 42] 2, .none⟩,
 ⟨some 44, some (37, false), .un .not (.s 43), .none⟩,
 ⟨some 45, none, .pick (.s 37) (.c (.d (.bool true))) (.s 44), .none⟩])
 (.cond (.s 45)
 (.seq (.reg [⟨some 46, none, .build [.bool false, .str []] [], .none⟩,
 ⟨none, none, .st (.s 2) (.s 46) 2, .none⟩,
 ⟨some 3, none, .mv (.c (.d (.int .i64 3))), .none⟩])
 (.ret none))
 .skip))
 (.seq (.seq (.reg [⟨some 47, none, .mv (.s 0), .none⟩,
 ⟨some 48, none, .lens (.s 47), .none⟩,
 ⟨some 49, none, .bin .gtr (.s 48) (.c (.d (.int .i64 42))), .none⟩])
 (.cond (.s 49)
 (.seq (.reg [⟨some 50, none, .build [.bool false, .str []] [], .none⟩,
 ⟨none, none, .st (.s 2) (.s 50) 2, .none⟩,
 ⟨some 3, none, .mv (.c (.d (.int .i64 10))), .none⟩])
 (.ret none))
 .skip))
 (.seq (.reg [⟨some 51, none, .mv (.s 4), .none⟩,
 ⟨some 52, none, .mv (.s 0), .none⟩,
 ⟨some 53, none, .mv (.s 0), .none⟩,
 ⟨some 54, none, .lens (.s 53), .none⟩,
 ⟨some 55, none, .bin .sub (.s 54) (.c (.d (.int .i64 1))), .none⟩,
 ⟨some 56, none, .ssl (.s 52) (some (.c (.d (.int .i64 1)))) (some (.s 55)), .none⟩,
 ⟨some 57, none, .build [.bool false, .str []] [(0, (1, .s 51)), (1, (1, .s 56))], .none⟩,
 ⟨none, none, .st (.s 2) (.s 57) 2, .none⟩,
 ⟨some 3, none, .mv (.c (.d (.int .i64 0))), .none⟩])
 (.ret none))))))))
def ir46 : F := { n := 58, res := [.cell 2 2 true, .tmp 3], body := bd46 }
@[go_sem] theorem n46 : ir46.n = 58 := rfl
@[go_sem] theorem r46 : ir46.res = [.cell 2 2 true, .tmp 3] := rfl
@[go_sem] theorem b46 : ir46.body = bd46 := rfl
end Go.Proofs.YtplnioclkacgkaaGreatDoor.Ir
