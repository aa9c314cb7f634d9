/- The texts of the functions in the small language. Printed by a program of my own (irgen.py). -/
import Derived.Test.YtpibecljdooilaaDoorEvSim
import Derived.Test.YtpibecljdooilaaDoorProg
namespace Go.Proofs.YtpibecljdooilaaDoor.Ir
open Go Go.Ev
set_option maxRecDepth 10000

/-- spence/spencelaw08.MultiPuts -/
def bd3 : C :=
  (.seq (.reg [⟨some 6, none, .mv (.c (.d (.bool false))), .none⟩])
  (.seq (.seq (.reg [⟨some 11, none, .call 9 [] 2, .none⟩,
       ⟨some 12, none, .un .not (.s 11), .none⟩])
   (.cond (.s 12)
    (.seq (.reg [⟨some 6, none, .mv (.c (.d (.bool false))), .none⟩])
    (.ret none))
    .skip))
  (.seq (.seq (.reg [⟨some 13, none, .mv (.s 0), .none⟩,
       ⟨some 14, none, .call 10 [.s 13] 2, .none⟩,
       ⟨some 15, none, .un .not (.s 14), .none⟩,
       ⟨some 16, none, .mv (.s 15), .none⟩,
       ⟨some 17, some (16, false), .mv (.s 2), .none⟩,
       ⟨some 18, some (16, false), .lens (.s 17), .none⟩,
       ⟨some 19, some (16, false), .bin .gtr (.s 18) (.c (.d (.int .i64 100))), .none⟩,
       ⟨some 20, none, .pick (.s 16) (.c (.d (.bool true))) (.s 19), .none⟩])
   (.cond (.s 20)
    (.seq (.reg [⟨some 6, none, .mv (.c (.d (.bool true))), .none⟩])
    (.ret none))
    .skip))
  (.seq (.reg [⟨some 22, none, .mv (.s 0), .none⟩,
      ⟨some 23, none, .mv (.s 1), .none⟩,
      ⟨some 24, none, .mv (.s 2), .none⟩,
      ⟨some 25, none, .call 11 [.s 22, .s 23, .s 24] 2, .none⟩,
      ⟨some 21, none, .mv (.s 25), .none⟩,
      ⟨some 26, none, .ext (.s 21) 0, .none⟩,
      ⟨some 27, none, .ext (.s 21) 1, .none⟩,
      ⟨some 7, none, .mv (.s 26), .none⟩,
      ⟨some 8, none, .mv (.s 27), .none⟩])
  (.seq (.reg [⟨some 29, none, .mv (.s 0), .none⟩,
      ⟨some 30, none, .mv (.s 1), .none⟩,
      ⟨some 31, none, .mv (.s 2), .none⟩,
      ⟨some 32, none, .call 12 [.s 29, .s 30, .s 31] 2, .none⟩,
      ⟨some 28, none, .mv (.s 32), .none⟩,
      ⟨some 33, none, .ext (.s 28) 0, .none⟩,
      ⟨some 34, none, .ext (.s 28) 1, .none⟩,
      ⟨some 9, none, .mv (.s 33), .none⟩,
      ⟨some 10, none, .mv (.s 34), .none⟩])
  (.seq (.seq (.reg [⟨some 35, none, .mv (.s 10), .none⟩,
       ⟨some 36, none, .mv (.s 8), .none⟩,
       ⟨some 37, none, .bin .eql (.s 36) (.c (.d (.int .i64 0))), .none⟩,
       ⟨some 38, none, .beq true (.s 35) (.s 37), .none⟩,
       ⟨some 39, none, .mv (.s 38), .none⟩,
       ⟨some 40, some (39, false), .mv (.s 10), .none⟩,
       ⟨some 41, some (39, false), .un .not (.s 40), .none⟩,
       ⟨some 42, some (39, false), .mv (.s 41), .none⟩,
       ⟨some 43, some (42, true), .mv (.s 8), .none⟩,
       ⟨some 44, some (42, true), .bin .neq (.s 43) (.c (.d (.int .i64 1))), .none⟩,
       ⟨some 45, some (39, false), .pick (.s 42) (.s 44) (.c (.d (.bool false))), .none⟩,
       ⟨some 46, none, .pick (.s 39) (.c (.d (.bool true))) (.s 45), .none⟩,
       ⟨some 47, none, .mv (.s 46), .none⟩,
       ⟨some 48, some (47, false), .mv (.s 0), .none⟩,
       ⟨some 49, some (47, false), .mv (.s 1), .none⟩,
       ⟨some 50, some (47, false), .call 13 [.s 48, .s 49] 2, .none⟩,
       ⟨some 51, some (47, false), .mv (.s 0), .none⟩,
       ⟨some 52, some (47, false), .mv (.s 1), .none⟩,
       ⟨some 53, some (47, false), .call 14 [.s 51, .s 52] 2, .none⟩,
       ⟨some 54, some (47, false), .beq true (.s 50) (.s 53), .none⟩,
       ⟨some 55, none, .pick (.s 47) (.c (.d (.bool true))) (.s 54), .none⟩])
   (.cond (.s 55)
    (.seq (.reg [⟨some 6, none, .mv (.c (.d (.bool false))), .none⟩])
    (.ret none))
    .skip))
  (.seq (.reg [⟨some 56, none, .mv (.s 7), .none⟩,
      ⟨some 57, none, .mv (.s 9), .none⟩,
      ⟨some 58, none, .call 15 [.s 56, .s 57] 2, .none⟩,
      ⟨some 59, none, .mv (.s 58), .none⟩,
      ⟨some 60, some (59, true), .mv (.s 0), .none⟩,
      ⟨some 61, some (59, true), .mv (.s 1), .none⟩,
      ⟨some 62, some (59, true), .mv (.s 2), .none⟩,
      ⟨some 63, some (59, true), .call 16 [.s 60, .s 61, .s 62] 2, .none⟩,
      ⟨some 64, some (59, true), .mv (.s 9), .none⟩,
      ⟨some 65, some (59, true), .len (.s 64), .none⟩,
      ⟨some 66, some (59, true), .bin .eql (.s 63) (.s 65), .none⟩,
      ⟨some 67, none, .pick (.s 59) (.s 66) (.c (.d (.bool false))), .none⟩,
      ⟨some 6, none, .mv (.s 67), .none⟩])
  (.ret none))))))))
def ir3 : F := { n := 68, res := [.tmp 6], body := bd3 }
@[go_sem] theorem n3 : ir3.n = 68 := rfl
@[go_sem] theorem r3 : ir3.res = [.tmp 6] := rfl
@[go_sem] theorem b3 : ir3.body = bd3 := rfl
/-- spence/spencelaw08.awake -/
def bd9 : C :=
  (.seq (.reg [⟨some 0, none, .mv (.c (.d (.bool false))), .none⟩])
  (.seq (.reg [⟨some 4, none, .build [.int .i64 0, .int .i64 0] [(1, (1, .c (.d (.int .i64 1))))], .none⟩,
      ⟨some 5, none, .bsl 5 1 1 [.int .u8 0] [(0, (1, .c (.d (.int .u8 7))))], .none⟩,
      ⟨some 6, none, .build [.int .i64 0, .int .i64 0, .nils] [(0, (2, .s 4)), (2, (1, .s 5))], .cells [(2, 1, false)]⟩,
      ⟨some 7, none, .bsl 54 3 1 [.int .i64 0, .int .i64 0, .nils] [(0, (3, .s 6))], .none⟩,
      ⟨some 8, none, .call 11 [.s 7, .c (.d (.int .i64 3)), .c (.d (.str [120]))] 0, .none⟩,
      ⟨some 3, none, .mv (.s 8), .none⟩,
      ⟨some 9, none, .ext (.s 3) 0, .none⟩,
      ⟨some 10, none, .ext (.s 3) 1, .none⟩,
      ⟨some 1, none, .mv (.s 9), .none⟩,
      ⟨some 2, none, .mv (.s 10), .none⟩])
  (.seq (.reg [⟨some 11, none, .call 32 [.c (.d (.str [120]))] 2, .none⟩,
      ⟨some 12, none, .bin .eql (.s 11) (.c (.d (.str [109, 117, 108, 116, 105, 112, 97, 114, 116, 47, 98, 121, 116, 101, 114, 97, 110, 103, 101, 115, 59, 32, 98, 111, 117, 110, 100, 97, 114, 121, 61, 120]))), .none⟩,
      ⟨some 13, none, .mv (.s 12), .none⟩,
      ⟨some 14, some (13, true), .mv (.s 2), .none⟩,
      ⟨some 15, some (13, true), .bin .eql (.s 14) (.c (.d (.int .i64 0))), .none⟩,
      ⟨some 16, none, .pick (.s 13) (.s 15) (.c (.d (.bool false))), .none⟩,
      ⟨some 17, none, .mv (.s 16), .none⟩,
      ⟨some 18, some (17, true), .mv (.s 1), .none⟩,
      ⟨some 19, some (17, true), .len (.s 18), .none⟩,
      ⟨some 20, some (17, true), .bin .gtr (.s 19) (.c (.d (.int .i64 10))), .none⟩,
      ⟨some 21, none, .pick (.s 17) (.s 20) (.c (.d (.bool false))), .none⟩,
      ⟨some 0, none, .mv (.s 21), .none⟩])
  (.ret none))))
def ir9 : F := { n := 22, res := [.tmp 0], body := bd9 }
@[go_sem] theorem n9 : ir9.n = 22 := rfl
@[go_sem] theorem r9 : ir9.res = [.tmp 0] := rfl
@[go_sem] theorem b9 : ir9.body = bd9 := rfl
def lb10_0 : C :=
  (.seq (.reg [⟨some 9, none, .bin .lss (.s 8) (.s 7), .none⟩])
  (.seq (.cond (.s 9)
    .skip
    (.exit 0 (some [0])))
  (.seq (.block 1 (.seq (.reg [⟨some 10, none, .is (.s 6) (.s 8) 3, .none⟩,
        ⟨some 11, none, .ld (.s 10) 3 true, .none⟩,
        ⟨some 5, none, .alloc 54 [.int .i64 0, .int .i64 0, .nils], .cells [(2, 1, false)]⟩,
        ⟨none, none, .st (.s 5) (.s 11) 3, .none⟩])
    (.seq (.reg [⟨some 12, none, .mv (.s 3), .none⟩,
        ⟨some 13, none, .fa (.s 5) 2, .none⟩,
        ⟨some 14, none, .ld (.s 13) 1 false, .none⟩,
        ⟨some 15, none, .len (.s 14), .none⟩,
        ⟨some 16, none, .bin .add (.s 12) (.s 15), .none⟩,
        ⟨some 3, none, .mv (.s 16), .none⟩])
    (.seq (.reg [⟨some 17, none, .mv (.s 3), .none⟩,
        ⟨some 18, none, .bin .gtr (.s 17) (.c (.d (.int .i64 2000))), .none⟩])
    (.cond (.s 18)
     (.seq (.reg [⟨some 2, none, .mv (.c (.d (.bool false))), .none⟩])
     (.ret (some [2])))
     .skip)))))
  (.reg [⟨some 19, none, .bin .add (.s 8) (.c (.d (.int .i64 1))), .none⟩,
     ⟨some 8, none, .mv (.s 19), .none⟩]))))
def lp10_0 : C := lb10_0
theorem u10_0 (c : Ev.Callee) (l : Ev.Looper) (s : St) : evC c l lp10_0 s = evC c l lb10_0 s := rfl
abbrev st10_0 (m : Nat) (s0 s3 s6 s7 s8 : AV) (h : Heap) : St := ⟨m, [s0, .unk, .unk, s3, .unk, .unk, s6, s7, s8, .unk, .unk, .unk, .unk, .unk, .unk, .unk, .unk, .unk, .unk, .unk, .unk, .unk, .unk], h⟩
@[go_sem] theorem ks10_0 (v0 v1 v2 v3 v4 v5 v6 v7 v8 v9 v10 v11 v12 v13 v14 v15 v16 v17 v18 v19 v20 v21 v22 : AV) : keepS [0, 3, 6, 7, 8] [v0, v1, v2, v3, v4, v5, v6, v7, v8, v9, v10, v11, v12, v13, v14, v15, v16, v17, v18, v19, v20, v21, v22] 0 = [v0, .unk, .unk, v3, .unk, .unk, v6, v7, v8, .unk, .unk, .unk, .unk, .unk, .unk, .unk, .unk, .unk, .unk, .unk, .unk, .unk, .unk] := rfl
@[go_sem] theorem ks10_1 (v0 v1 v2 v3 v4 v5 v6 v7 v8 v9 v10 v11 v12 v13 v14 v15 v16 v17 v18 v19 v20 v21 v22 : AV) : keepS [0] [v0, v1, v2, v3, v4, v5, v6, v7, v8, v9, v10, v11, v12, v13, v14, v15, v16, v17, v18, v19, v20, v21, v22] 0 = [v0, .unk, .unk, .unk, .unk, .unk, .unk, .unk, .unk, .unk, .unk, .unk, .unk, .unk, .unk, .unk, .unk, .unk, .unk, .unk, .unk, .unk, .unk] := rfl
@[go_sem] theorem ks10_2 (v0 v1 v2 v3 v4 v5 v6 v7 v8 v9 v10 v11 v12 v13 v14 v15 v16 v17 v18 v19 v20 v21 v22 : AV) : keepS [2] [v0, v1, v2, v3, v4, v5, v6, v7, v8, v9, v10, v11, v12, v13, v14, v15, v16, v17, v18, v19, v20, v21, v22] 0 = [.unk, .unk, v2, .unk, .unk, .unk, .unk, .unk, .unk, .unk, .unk, .unk, .unk, .unk, .unk, .unk, .unk, .unk, .unk, .unk, .unk, .unk, .unk] := rfl
/-- spence/spencelaw08.Few -/
def bd10 : C :=
  (.seq (.reg [⟨some 2, none, .mv (.c (.d (.bool false))), .none⟩])
  (.seq (.reg [⟨some 3, none, .mv (.c (.d (.int .i64 0))), .none⟩])
  (.seq (.seq (.reg [⟨some 6, none, .mv (.s 0), .none⟩,
       ⟨some 7, none, .len (.s 6), .none⟩,
       ⟨some 8, none, .mv (.c (.d (.int .i64 0))), .none⟩])
   (.block 0 (.loop [0, 3, 6, 7, 8] lp10_0)))
  (.seq (.reg [⟨some 20, none, .mv (.s 0), .none⟩,
      ⟨some 21, none, .len (.s 20), .none⟩,
      ⟨some 22, none, .bin .leq (.s 21) (.c (.d (.int .i64 20))), .none⟩,
      ⟨some 2, none, .mv (.s 22), .none⟩])
  (.ret none)))))
def ir10 : F := { n := 23, res := [.tmp 2], body := bd10 }
@[go_sem] theorem n10 : ir10.n = 23 := rfl
@[go_sem] theorem r10 : ir10.res = [.tmp 2] := rfl
@[go_sem] theorem b10 : ir10.body = bd10 := rfl
def lb12_0 : C :=
  (.seq (.reg [⟨some 29, none, .bin .lss (.s 28) (.s 27), .none⟩])
  (.seq (.cond (.s 29)
    .skip
    (.exit 0 (some [2, 8])))
  (.seq (.block 1 (.seq (.reg [⟨some 30, none, .is (.s 26) (.s 28) 3, .none⟩,
        ⟨some 31, none, .ld (.s 30) 3 true, .none⟩,
        ⟨some 10, none, .alloc 54 [.int .i64 0, .int .i64 0, .nils], .cells [(2, 1, false)]⟩,
        ⟨none, none, .st (.s 10) (.s 31) 3, .none⟩])
    (.seq (.reg [⟨some 32, none, .mv (.s 2), .none⟩,
        ⟨some 33, none, .bin .add (.c (.d (.str [45, 45]))) (.s 32), .none⟩,
        ⟨some 34, none, .bin .add (.s 33) (.c (.d (.str [13, 10, 67, 111, 110, 116, 101, 110, 116, 45, 82, 97, 110, 103, 101, 58, 32]))), .none⟩,
        ⟨some 35, none, .fa (.s 10) 0, .none⟩,
        ⟨some 36, none, .ld (.s 35) 2 true, .none⟩,
        ⟨some 37, none, .mv (.s 1), .none⟩,
        ⟨some 38, none, .build [.bool false, .int .i64 0, .int .i64 0, .int .i64 0] [(0, (1, .c (.d (.bool true)))), (1, (2, .s 36)), (3, (1, .s 37))], .none⟩,
        ⟨some 39, none, .call 38 [.s 38] 2, .none⟩,
        ⟨some 40, none, .bin .add (.s 34) (.s 39), .none⟩,
        ⟨some 41, none, .bin .add (.s 40) (.c (.d (.str [13, 10, 13, 10]))), .none⟩,
        ⟨some 11, none, .mv (.s 41), .none⟩])
    (.seq (.reg [⟨some 42, none, .mv (.s 8), .none⟩,
        ⟨some 43, none, .mv (.s 11), .none⟩,
        ⟨some 44, none, .app 5 1 1 (.s 42) (.s 43), .none⟩,
        ⟨some 8, none, .mv (.s 44), .none⟩])
    (.seq (.reg [⟨some 45, none, .mv (.s 8), .none⟩,
        ⟨some 46, none, .fa (.s 10) 2, .none⟩,
        ⟨some 47, none, .ld (.s 46) 1 false, .none⟩,
        ⟨some 48, none, .app 5 1 1 (.s 45) (.s 47), .none⟩,
        ⟨some 8, none, .mv (.s 48), .none⟩])
    (.reg [⟨some 49, none, .mv (.s 8), .none⟩,
       ⟨some 50, none, .bsl 5 1 2 [.int .u8 0] [(0, (1, .c (.d (.int .u8 13)))), (1, (1, .c (.d (.int .u8 10))))], .none⟩,
       ⟨some 51, none, .app 5 1 1 (.s 49) (.s 50), .none⟩,
       ⟨some 8, none, .mv (.s 51), .none⟩]))))))
  (.reg [⟨some 52, none, .bin .add (.s 28) (.c (.d (.int .i64 1))), .none⟩,
     ⟨some 28, none, .mv (.s 52), .none⟩]))))
def lp12_0 : C := lb12_0
theorem u12_0 (c : Ev.Callee) (l : Ev.Looper) (s : St) : evC c l lp12_0 s = evC c l lb12_0 s := rfl
abbrev st12_0 (m : Nat) (s1 s2 s8 s26 s27 s28 : AV) (h : Heap) : St := ⟨m, [.unk, s1, s2, .unk, .unk, .unk, .unk, .unk, s8, .unk, .unk, .unk, .unk, .unk, .unk, .unk, .unk, .unk, .unk, .unk, .unk, .unk, .unk, .unk, .unk, .unk, s26, s27, s28, .unk, .unk, .unk, .unk, .unk, .unk, .unk, .unk, .unk, .unk, .unk, .unk, .unk, .unk, .unk, .unk, .unk, .unk, .unk, .unk, .unk, .unk, .unk, .unk, .unk, .unk, .unk, .unk, .unk], h⟩
@[go_sem] theorem ks12_0 (v0 v1 v2 v3 v4 v5 v6 v7 v8 v9 v10 v11 v12 v13 v14 v15 v16 v17 v18 v19 v20 v21 v22 v23 v24 v25 v26 v27 v28 v29 v30 v31 v32 v33 v34 v35 v36 v37 v38 v39 v40 v41 v42 v43 v44 v45 v46 v47 v48 v49 v50 v51 v52 v53 v54 v55 v56 v57 : AV) : keepS [1, 2, 8, 26, 27, 28] [v0, v1, v2, v3, v4, v5, v6, v7, v8, v9, v10, v11, v12, v13, v14, v15, v16, v17, v18, v19, v20, v21, v22, v23, v24, v25, v26, v27, v28, v29, v30, v31, v32, v33, v34, v35, v36, v37, v38, v39, v40, v41, v42, v43, v44, v45, v46, v47, v48, v49, v50, v51, v52, v53, v54, v55, v56, v57] 0 = [.unk, v1, v2, .unk, .unk, .unk, .unk, .unk, v8, .unk, .unk, .unk, .unk, .unk, .unk, .unk, .unk, .unk, .unk, .unk, .unk, .unk, .unk, .unk, .unk, .unk, v26, v27, v28, .unk, .unk, .unk, .unk, .unk, .unk, .unk, .unk, .unk, .unk, .unk, .unk, .unk, .unk, .unk, .unk, .unk, .unk, .unk, .unk, .unk, .unk, .unk, .unk, .unk, .unk, .unk, .unk, .unk] := rfl
@[go_sem] theorem ks12_1 (v0 v1 v2 v3 v4 v5 v6 v7 v8 v9 v10 v11 v12 v13 v14 v15 v16 v17 v18 v19 v20 v21 v22 v23 v24 v25 v26 v27 v28 v29 v30 v31 v32 v33 v34 v35 v36 v37 v38 v39 v40 v41 v42 v43 v44 v45 v46 v47 v48 v49 v50 v51 v52 v53 v54 v55 v56 v57 : AV) : keepS [2, 8] [v0, v1, v2, v3, v4, v5, v6, v7, v8, v9, v10, v11, v12, v13, v14, v15, v16, v17, v18, v19, v20, v21, v22, v23, v24, v25, v26, v27, v28, v29, v30, v31, v32, v33, v34, v35, v36, v37, v38, v39, v40, v41, v42, v43, v44, v45, v46, v47, v48, v49, v50, v51, v52, v53, v54, v55, v56, v57] 0 = [.unk, .unk, v2, .unk, .unk, .unk, .unk, .unk, v8, .unk, .unk, .unk, .unk, .unk, .unk, .unk, .unk, .unk, .unk, .unk, .unk, .unk, .unk, .unk, .unk, .unk, .unk, .unk, .unk, .unk, .unk, .unk, .unk, .unk, .unk, .unk, .unk, .unk, .unk, .unk, .unk, .unk, .unk, .unk, .unk, .unk, .unk, .unk, .unk, .unk, .unk, .unk, .unk, .unk, .unk, .unk, .unk, .unk] := rfl
/-- spence/spenceref04.Multi -/
def bd12 : C :=
  (.seq (.reg [⟨some 6, none, .mv (.c (.d .nils)), .one 1 true⟩,
      ⟨some 7, none, .mv (.c (.d (.bool false))), .none⟩])
  (.seq (.seq (.reg [⟨some 12, none, .mv (.s 2), .none⟩,
       ⟨some 13, none, .call 19 [.s 12] 2, .none⟩,
       ⟨some 14, none, .un .not (.s 13), .none⟩,
       ⟨some 15, none, .mv (.s 14), .none⟩,
       ⟨some 16, some (15, false), .mv (.s 2), .none⟩,
       ⟨some 17, some (15, false), .lens (.s 16), .none⟩,
       ⟨some 18, some (15, false), .bin .gtr (.s 17) (.c (.d (.int .i64 40))), .none⟩,
       ⟨some 19, none, .pick (.s 15) (.c (.d (.bool true))) (.s 18), .none⟩,
       ⟨some 20, none, .mv (.s 19), .none⟩,
       ⟨some 21, some (20, false), .mv (.s 0), .none⟩,
       ⟨some 22, some (20, false), .mv (.s 1), .none⟩,
       ⟨some 23, some (20, false), .call 14 [.s 21, .s 22] 2, .none⟩,
       ⟨some 24, some (20, false), .un .not (.s 23), .none⟩,
       ⟨some 25, none, .pick (.s 20) (.c (.d (.bool true))) (.s 24), .none⟩])
   (.cond (.s 25)
    (.seq (.reg [⟨some 6, none, .mv (.c (.d .nils)), .one 1 true⟩,
        ⟨some 7, none, .mv (.c (.d (.bool false))), .none⟩])
    (.ret none))
    .skip))
  (.seq (.reg [⟨some 8, none, .mv (.c (.d .nils)), .one 1 true⟩])
  (.seq (.seq (.reg [⟨some 26, none, .mv (.s 0), .none⟩,
       ⟨some 27, none, .len (.s 26), .none⟩,
       ⟨some 28, none, .mv (.c (.d (.int .i64 0))), .none⟩])
   (.block 0 (.loop [1, 2, 8, 26, 27, 28] lp12_0)))
  (.seq (.reg [⟨some 53, none, .mv (.s 8), .none⟩,
      ⟨some 54, none, .mv (.s 2), .none⟩,
      ⟨some 55, none, .bin .add (.c (.d (.str [45, 45]))) (.s 54), .none⟩,
      ⟨some 56, none, .bin .add (.s 55) (.c (.d (.str [45, 45, 13, 10]))), .none⟩,
      ⟨some 57, none, .app 5 1 1 (.s 53) (.s 56), .none⟩,
      ⟨some 6, none, .mv (.s 57), .none⟩,
      ⟨some 7, none, .mv (.c (.d (.bool true))), .none⟩])
  (.ret none))))))
def ir12 : F := { n := 58, res := [.tmp 6, .tmp 7], body := bd12 }
@[go_sem] theorem n12 : ir12.n = 58 := rfl
@[go_sem] theorem r12 : ir12.res = [.tmp 6, .tmp 7] := rfl
@[go_sem] theorem b12 : ir12.body = bd12 := rfl
def lb13_0 : C :=
  (.seq (.reg [⟨some 18, none, .bin .lss (.s 17) (.s 16), .none⟩])
  (.seq (.cond (.s 18)
    .skip
    (.exit 0 (some [1])))
  (.seq (.block 1 (.seq (.reg [⟨some 19, none, .is (.s 15) (.s 17) 3, .none⟩,
        ⟨some 20, none, .ld (.s 19) 3 true, .none⟩,
        ⟨some 6, none, .alloc 54 [.int .i64 0, .int .i64 0, .nils], .cells [(2, 1, false)]⟩,
        ⟨none, none, .st (.s 6) (.s 20) 3, .none⟩])
    (.seq (.drw [⟨some 21, none, .fa (.s 6) 0, .none⟩,
        ⟨some 22, none, .ld (.s 21) 2 true, .none⟩,
        ⟨some 23, none, .call 39 [.s 22] 2, .none⟩,
        ⟨some 24, none, .un .not (.s 23), .none⟩,
        ⟨some 25, none, .mv (.s 24), .none⟩,
        ⟨some 26, some (25, false), .fa (.s 6) 0, .none⟩,
        ⟨some 27, some (25, false), .fa (.s 26) 1, .none⟩,
        ⟨some 28, some (25, false), .ld (.s 27) 1 false, .none⟩,
        ⟨some 29, some (25, false), .mv (.s 1), .none⟩,
        ⟨some 30, some (25, false), .bin .gtr (.s 28) (.s 29), .none⟩,
        ⟨some 31, none, .pick (.s 25) (.c (.d (.bool true))) (.s 30), .none⟩,
        ⟨some 32, none, .mv (.s 31), .none⟩,
        ⟨some 33, some (32, false), .fa (.s 6) 2, .none⟩,
        ⟨some 34, some (32, false), .ld (.s 33) 1 false, .none⟩,
        ⟨some 35, some (32, false), .len (.s 34), .none⟩,
        ⟨some 36, some (32, false), .fa (.s 6) 0, .none⟩,
        ⟨some 37, some (32, false), .ld (.s 36) 2 true, .none⟩,
        ⟨some 38, some (32, false), .call 40 [.s 37] 2, .none⟩,
        ⟨some 39, some (32, false), .bin .neq (.s 35) (.s 38), .none⟩,
        ⟨some 40, none, .pick (.s 32) (.c (.d (.bool true))) (.s 39), .none⟩]
       [[], [0], [1], [2], [3, 2], [4], [5, 4], [6, 4], [4], [7, 8, 4], [4, 9], [10, 4], [11], [12, 11], [13, 11], [11], [15, 11], [16, 11, 11], [14, 17, 11], [11, 18]] [])
    (.cond (.s 40)
     (.seq (.reg [⟨some 4, none, .mv (.c (.d (.bool false))), .none⟩])
     (.ret (some [4])))
     .skip))))
  (.reg [⟨some 41, none, .bin .add (.s 17) (.c (.d (.int .i64 1))), .none⟩,
     ⟨some 17, none, .mv (.s 41), .none⟩]))))
def lp13_0 : C := lb13_0
theorem u13_0 (c : Ev.Callee) (l : Ev.Looper) (s : St) : evC c l lp13_0 s = evC c l lb13_0 s := rfl
abbrev st13_0 (m : Nat) (s1 s15 s16 s17 : AV) (h : Heap) : St := ⟨m, [.unk, s1, .unk, .unk, .unk, .unk, .unk, .unk, .unk, .unk, .unk, .unk, .unk, .unk, .unk, s15, s16, s17, .unk, .unk, .unk, .unk, .unk, .unk, .unk, .unk, .unk, .unk, .unk, .unk, .unk, .unk, .unk, .unk, .unk, .unk, .unk, .unk, .unk, .unk, .unk, .unk, .unk, .unk], h⟩
@[go_sem] theorem ks13_0 (v0 v1 v2 v3 v4 v5 v6 v7 v8 v9 v10 v11 v12 v13 v14 v15 v16 v17 v18 v19 v20 v21 v22 v23 v24 v25 v26 v27 v28 v29 v30 v31 v32 v33 v34 v35 v36 v37 v38 v39 v40 v41 v42 v43 : AV) : keepS [1, 15, 16, 17] [v0, v1, v2, v3, v4, v5, v6, v7, v8, v9, v10, v11, v12, v13, v14, v15, v16, v17, v18, v19, v20, v21, v22, v23, v24, v25, v26, v27, v28, v29, v30, v31, v32, v33, v34, v35, v36, v37, v38, v39, v40, v41, v42, v43] 0 = [.unk, v1, .unk, .unk, .unk, .unk, .unk, .unk, .unk, .unk, .unk, .unk, .unk, .unk, .unk, v15, v16, v17, .unk, .unk, .unk, .unk, .unk, .unk, .unk, .unk, .unk, .unk, .unk, .unk, .unk, .unk, .unk, .unk, .unk, .unk, .unk, .unk, .unk, .unk, .unk, .unk, .unk, .unk] := rfl
@[go_sem] theorem ks13_1 (v0 v1 v2 v3 v4 v5 v6 v7 v8 v9 v10 v11 v12 v13 v14 v15 v16 v17 v18 v19 v20 v21 v22 v23 v24 v25 v26 v27 v28 v29 v30 v31 v32 v33 v34 v35 v36 v37 v38 v39 v40 v41 v42 v43 : AV) : keepS [1] [v0, v1, v2, v3, v4, v5, v6, v7, v8, v9, v10, v11, v12, v13, v14, v15, v16, v17, v18, v19, v20, v21, v22, v23, v24, v25, v26, v27, v28, v29, v30, v31, v32, v33, v34, v35, v36, v37, v38, v39, v40, v41, v42, v43] 0 = [.unk, v1, .unk, .unk, .unk, .unk, .unk, .unk, .unk, .unk, .unk, .unk, .unk, .unk, .unk, .unk, .unk, .unk, .unk, .unk, .unk, .unk, .unk, .unk, .unk, .unk, .unk, .unk, .unk, .unk, .unk, .unk, .unk, .unk, .unk, .unk, .unk, .unk, .unk, .unk, .unk, .unk, .unk, .unk] := rfl
@[go_sem] theorem ks13_2 (v0 v1 v2 v3 v4 v5 v6 v7 v8 v9 v10 v11 v12 v13 v14 v15 v16 v17 v18 v19 v20 v21 v22 v23 v24 v25 v26 v27 v28 v29 v30 v31 v32 v33 v34 v35 v36 v37 v38 v39 v40 v41 v42 v43 : AV) : keepS [4] [v0, v1, v2, v3, v4, v5, v6, v7, v8, v9, v10, v11, v12, v13, v14, v15, v16, v17, v18, v19, v20, v21, v22, v23, v24, v25, v26, v27, v28, v29, v30, v31, v32, v33, v34, v35, v36, v37, v38, v39, v40, v41, v42, v43] 0 = [.unk, .unk, .unk, .unk, v4, .unk, .unk, .unk, .unk, .unk, .unk, .unk, .unk, .unk, .unk, .unk, .unk, .unk, .unk, .unk, .unk, .unk, .unk, .unk, .unk, .unk, .unk, .unk, .unk, .unk, .unk, .unk, .unk, .unk, .unk, .unk, .unk, .unk, .unk, .unk, .unk, .unk, .unk, .unk] := rfl
/-- spence/multi.Right -/
def bd13 : C :=
  (.seq (.reg [⟨some 4, none, .mv (.c (.d (.bool false))), .none⟩])
  (.seq (.seq (.reg [⟨some 7, none, .mv (.s 0), .none⟩,
       ⟨some 8, none, .len (.s 7), .none⟩,
       ⟨some 9, none, .bin .eql (.s 8) (.c (.d (.int .i64 0))), .none⟩,
       ⟨some 10, none, .mv (.s 9), .none⟩,
       ⟨some 11, some (10, false), .mv (.s 0), .none⟩,
       ⟨some 12, some (10, false), .len (.s 11), .none⟩,
       ⟨some 13, some (10, false), .bin .gtr (.s 12) (.c (.d (.int .i64 16))), .none⟩,
       ⟨some 14, none, .pick (.s 10) (.c (.d (.bool true))) (.s 13), .none⟩])
   (.cond (.s 14)
    (.seq (.reg [⟨some 4, none, .mv (.c (.d (.bool false))), .none⟩])
    (.ret none))
    .skip))
  (.seq (.seq (.reg [⟨some 15, none, .mv (.s 0), .none⟩,
       ⟨some 16, none, .len (.s 15), .none⟩,
       ⟨some 17, none, .mv (.c (.d (.int .i64 0))), .none⟩])
   (.block 0 (.loop [1, 15, 16, 17] lp13_0)))
  (.seq (.reg [⟨some 42, none, .mv (.s 1), .none⟩,
      ⟨some 43, none, .bin .leq (.s 42) (.c (.d (.int .i64 4611686018427387903))), .none⟩,
      ⟨some 4, none, .mv (.s 43), .none⟩])
  (.ret none)))))
def ir13 : F := { n := 44, res := [.tmp 4], body := bd13 }
@[go_sem] theorem n13 : ir13.n = 44 := rfl
@[go_sem] theorem r13 : ir13.res = [.tmp 4] := rfl
@[go_sem] theorem b13 : ir13.body = bd13 := rfl
def lb14_0 : C :=
  (.seq (.reg [⟨some 10, none, .bin .lss (.s 9) (.s 8), .none⟩])
  (.seq (.cond (.s 10)
    .skip
    (.exit 0 (some [0, 1])))
  (.seq (.block 1 (.seq (.reg [⟨some 11, none, .is (.s 7) (.s 9) 3, .none⟩,
        ⟨some 12, none, .ld (.s 11) 3 true, .none⟩,
        ⟨some 6, none, .alloc 54 [.int .i64 0, .int .i64 0, .nils], .cells [(2, 1, false)]⟩,
        ⟨none, none, .st (.s 6) (.s 12) 3, .none⟩])
    (.seq (.reg [⟨some 13, none, .fa (.s 6) 0, .none⟩,
        ⟨some 14, none, .ld (.s 13) 2 true, .none⟩,
        ⟨some 15, none, .call 41 [.s 14] 2, .none⟩,
        ⟨some 16, none, .un .not (.s 15), .none⟩,
        ⟨some 17, none, .mv (.s 16), .none⟩,
        ⟨some 18, some (17, false), .fa (.s 6) 0, .none⟩,
        ⟨some 19, some (17, false), .fa (.s 18) 1, .none⟩,
        ⟨some 20, some (17, false), .ld (.s 19) 1 false, .none⟩,
        ⟨some 21, some (17, false), .mv (.s 1), .none⟩,
        ⟨some 22, some (17, false), .bin .gtr (.s 20) (.s 21), .none⟩,
        ⟨some 23, none, .pick (.s 17) (.c (.d (.bool true))) (.s 22), .none⟩,
        ⟨some 24, none, .mv (.s 23), .none⟩,
        ⟨some 25, some (24, false), .fa (.s 6) 0, .none⟩,
        ⟨some 26, some (24, false), .fa (.s 25) 1, .none⟩,
        ⟨some 27, some (24, false), .ld (.s 26) 1 false, .none⟩,
        ⟨some 28, some (24, false), .fa (.s 6) 0, .none⟩,
        ⟨some 29, some (24, false), .fa (.s 28) 0, .none⟩,
        ⟨some 30, some (24, false), .ld (.s 29) 1 false, .none⟩,
        ⟨some 31, some (24, false), .bin .sub (.s 27) (.s 30), .none⟩,
        ⟨some 32, some (24, false), .fa (.s 6) 2, .none⟩,
        ⟨some 33, some (24, false), .ld (.s 32) 1 false, .none⟩,
        ⟨some 34, some (24, false), .len (.s 33), .none⟩,
        ⟨some 35, some (24, false), .bin .neq (.s 31) (.s 34), .none⟩,
        ⟨some 36, none, .pick (.s 24) (.c (.d (.bool true))) (.s 35), .none⟩])
    (.cond (.s 36)
     (.seq (.reg [⟨some 4, none, .mv (.c (.d (.bool false))), .none⟩])
     (.ret (some [4])))
     .skip))))
  (.reg [⟨some 37, none, .bin .add (.s 9) (.c (.d (.int .i64 1))), .none⟩,
     ⟨some 9, none, .mv (.s 37), .none⟩]))))
def lp14_0 : C := lb14_0
theorem u14_0 (c : Ev.Callee) (l : Ev.Looper) (s : St) : evC c l lp14_0 s = evC c l lb14_0 s := rfl
abbrev st14_0 (m : Nat) (s0 s1 s7 s8 s9 : AV) (h : Heap) : St := ⟨m, [s0, s1, .unk, .unk, .unk, .unk, .unk, s7, s8, s9, .unk, .unk, .unk, .unk, .unk, .unk, .unk, .unk, .unk, .unk, .unk, .unk, .unk, .unk, .unk, .unk, .unk, .unk, .unk, .unk, .unk, .unk, .unk, .unk, .unk, .unk, .unk, .unk, .unk, .unk, .unk, .unk, .unk, .unk, .unk, .unk, .unk, .unk, .unk, .unk], h⟩
@[go_sem] theorem ks14_0 (v0 v1 v2 v3 v4 v5 v6 v7 v8 v9 v10 v11 v12 v13 v14 v15 v16 v17 v18 v19 v20 v21 v22 v23 v24 v25 v26 v27 v28 v29 v30 v31 v32 v33 v34 v35 v36 v37 v38 v39 v40 v41 v42 v43 v44 v45 v46 v47 v48 v49 : AV) : keepS [0, 1, 7, 8, 9] [v0, v1, v2, v3, v4, v5, v6, v7, v8, v9, v10, v11, v12, v13, v14, v15, v16, v17, v18, v19, v20, v21, v22, v23, v24, v25, v26, v27, v28, v29, v30, v31, v32, v33, v34, v35, v36, v37, v38, v39, v40, v41, v42, v43, v44, v45, v46, v47, v48, v49] 0 = [v0, v1, .unk, .unk, .unk, .unk, .unk, v7, v8, v9, .unk, .unk, .unk, .unk, .unk, .unk, .unk, .unk, .unk, .unk, .unk, .unk, .unk, .unk, .unk, .unk, .unk, .unk, .unk, .unk, .unk, .unk, .unk, .unk, .unk, .unk, .unk, .unk, .unk, .unk, .unk, .unk, .unk, .unk, .unk, .unk, .unk, .unk, .unk, .unk] := rfl
@[go_sem] theorem ks14_1 (v0 v1 v2 v3 v4 v5 v6 v7 v8 v9 v10 v11 v12 v13 v14 v15 v16 v17 v18 v19 v20 v21 v22 v23 v24 v25 v26 v27 v28 v29 v30 v31 v32 v33 v34 v35 v36 v37 v38 v39 v40 v41 v42 v43 v44 v45 v46 v47 v48 v49 : AV) : keepS [0, 1] [v0, v1, v2, v3, v4, v5, v6, v7, v8, v9, v10, v11, v12, v13, v14, v15, v16, v17, v18, v19, v20, v21, v22, v23, v24, v25, v26, v27, v28, v29, v30, v31, v32, v33, v34, v35, v36, v37, v38, v39, v40, v41, v42, v43, v44, v45, v46, v47, v48, v49] 0 = [v0, v1, .unk, .unk, .unk, .unk, .unk, .unk, .unk, .unk, .unk, .unk, .unk, .unk, .unk, .unk, .unk, .unk, .unk, .unk, .unk, .unk, .unk, .unk, .unk, .unk, .unk, .unk, .unk, .unk, .unk, .unk, .unk, .unk, .unk, .unk, .unk, .unk, .unk, .unk, .unk, .unk, .unk, .unk, .unk, .unk, .unk, .unk, .unk, .unk] := rfl
@[go_sem] theorem ks14_2 (v0 v1 v2 v3 v4 v5 v6 v7 v8 v9 v10 v11 v12 v13 v14 v15 v16 v17 v18 v19 v20 v21 v22 v23 v24 v25 v26 v27 v28 v29 v30 v31 v32 v33 v34 v35 v36 v37 v38 v39 v40 v41 v42 v43 v44 v45 v46 v47 v48 v49 : AV) : keepS [4] [v0, v1, v2, v3, v4, v5, v6, v7, v8, v9, v10, v11, v12, v13, v14, v15, v16, v17, v18, v19, v20, v21, v22, v23, v24, v25, v26, v27, v28, v29, v30, v31, v32, v33, v34, v35, v36, v37, v38, v39, v40, v41, v42, v43, v44, v45, v46, v47, v48, v49] 0 = [.unk, .unk, .unk, .unk, v4, .unk, .unk, .unk, .unk, .unk, .unk, .unk, .unk, .unk, .unk, .unk, .unk, .unk, .unk, .unk, .unk, .unk, .unk, .unk, .unk, .unk, .unk, .unk, .unk, .unk, .unk, .unk, .unk, .unk, .unk, .unk, .unk, .unk, .unk, .unk, .unk, .unk, .unk, .unk, .unk, .unk, .unk, .unk, .unk, .unk] := rfl
/-- spence/spenceref04.RightParts -/
def bd14 : C :=
  (.seq (.reg [⟨some 4, none, .mv (.c (.d (.bool false))), .none⟩])
  (.seq (.seq (.reg [⟨some 7, none, .mv (.s 0), .none⟩,
       ⟨some 8, none, .len (.s 7), .none⟩,
       ⟨some 9, none, .mv (.c (.d (.int .i64 0))), .none⟩])
   (.block 0 (.loop [0, 1, 7, 8, 9] lp14_0)))
  (.seq (.reg [⟨some 38, none, .mv (.s 0), .none⟩,
      ⟨some 39, none, .len (.s 38), .none⟩,
      ⟨some 40, none, .bin .geq (.s 39) (.c (.d (.int .i64 1))), .none⟩,
      ⟨some 41, none, .mv (.s 40), .none⟩,
      ⟨some 42, some (41, true), .mv (.s 0), .none⟩,
      ⟨some 43, some (41, true), .len (.s 42), .none⟩,
      ⟨some 44, some (41, true), .bin .leq (.s 43) (.c (.d (.int .i64 16))), .none⟩,
      ⟨some 45, none, .pick (.s 41) (.s 44) (.c (.d (.bool false))), .none⟩,
      ⟨some 46, none, .mv (.s 45), .none⟩,
      ⟨some 47, some (46, true), .mv (.s 1), .none⟩,
      ⟨some 48, some (46, true), .bin .leq (.s 47) (.c (.d (.int .i64 4611686018427387903))), .none⟩,
      ⟨some 49, none, .pick (.s 46) (.s 48) (.c (.d (.bool false))), .none⟩,
      ⟨some 4, none, .mv (.s 49), .none⟩])
  (.ret none))))
def ir14 : F := { n := 50, res := [.tmp 4], body := bd14 }
@[go_sem] theorem n14 : ir14.n = 50 := rfl
@[go_sem] theorem r14 : ir14.res = [.tmp 4] := rfl
@[go_sem] theorem b14 : ir14.body = bd14 := rfl
def lb15_0 : C :=
  (.seq (.reg [⟨some 14, none, .bin .lss (.s 13) (.s 12), .none⟩])
  (.seq (.cond (.s 14)
    .skip
    (.exit 0 (some [])))
  (.seq (.block 1 (.seq (.reg [⟨some 15, none, .mv (.s 13), .none⟩,
        ⟨some 5, none, .mv (.s 15), .none⟩])
    (.seq (.drw [⟨some 16, none, .mv (.s 0), .none⟩,
        ⟨some 17, none, .mv (.s 5), .none⟩,
        ⟨some 18, none, .is (.s 16) (.s 17) 1, .none⟩,
        ⟨some 19, none, .ld (.s 18) 1 false, .none⟩,
        ⟨some 20, none, .mv (.s 1), .none⟩,
        ⟨some 21, none, .mv (.s 5), .none⟩,
        ⟨some 22, none, .is (.s 20) (.s 21) 1, .none⟩,
        ⟨some 23, none, .ld (.s 22) 1 false, .none⟩,
        ⟨some 24, none, .bin .neq (.s 19) (.s 23), .none⟩]
       [[], [], [0, 1], [2], [], [], [4, 5], [6], [3, 7]] [])
    (.cond (.s 24)
     (.seq (.reg [⟨some 4, none, .mv (.c (.d (.bool false))), .none⟩])
     (.ret (some [4])))
     .skip))))
  (.reg [⟨some 25, none, .bin .add (.s 13) (.c (.d (.int .i64 1))), .none⟩,
     ⟨some 13, none, .mv (.s 25), .none⟩]))))
def lp15_0 : C := lb15_0
theorem u15_0 (c : Ev.Callee) (l : Ev.Looper) (s : St) : evC c l lp15_0 s = evC c l lb15_0 s := rfl
abbrev st15_0 (m : Nat) (s0 s1 s12 s13 : AV) (h : Heap) : St := ⟨m, [s0, s1, .unk, .unk, .unk, .unk, .unk, .unk, .unk, .unk, .unk, .unk, s12, s13, .unk, .unk, .unk, .unk, .unk, .unk, .unk, .unk, .unk, .unk, .unk, .unk], h⟩
@[go_sem] theorem ks15_0 (v0 v1 v2 v3 v4 v5 v6 v7 v8 v9 v10 v11 v12 v13 v14 v15 v16 v17 v18 v19 v20 v21 v22 v23 v24 v25 : AV) : keepS [0, 1, 12, 13] [v0, v1, v2, v3, v4, v5, v6, v7, v8, v9, v10, v11, v12, v13, v14, v15, v16, v17, v18, v19, v20, v21, v22, v23, v24, v25] 0 = [v0, v1, .unk, .unk, .unk, .unk, .unk, .unk, .unk, .unk, .unk, .unk, v12, v13, .unk, .unk, .unk, .unk, .unk, .unk, .unk, .unk, .unk, .unk, .unk, .unk] := rfl
@[go_sem] theorem ks15_1 (v0 v1 v2 v3 v4 v5 v6 v7 v8 v9 v10 v11 v12 v13 v14 v15 v16 v17 v18 v19 v20 v21 v22 v23 v24 v25 : AV) : keepS [] [v0, v1, v2, v3, v4, v5, v6, v7, v8, v9, v10, v11, v12, v13, v14, v15, v16, v17, v18, v19, v20, v21, v22, v23, v24, v25] 0 = [.unk, .unk, .unk, .unk, .unk, .unk, .unk, .unk, .unk, .unk, .unk, .unk, .unk, .unk, .unk, .unk, .unk, .unk, .unk, .unk, .unk, .unk, .unk, .unk, .unk, .unk] := rfl
@[go_sem] theorem ks15_2 (v0 v1 v2 v3 v4 v5 v6 v7 v8 v9 v10 v11 v12 v13 v14 v15 v16 v17 v18 v19 v20 v21 v22 v23 v24 v25 : AV) : keepS [4] [v0, v1, v2, v3, v4, v5, v6, v7, v8, v9, v10, v11, v12, v13, v14, v15, v16, v17, v18, v19, v20, v21, v22, v23, v24, v25] 0 = [.unk, .unk, .unk, .unk, v4, .unk, .unk, .unk, .unk, .unk, .unk, .unk, .unk, .unk, .unk, .unk, .unk, .unk, .unk, .unk, .unk, .unk, .unk, .unk, .unk, .unk] := rfl
/-- spence/spenceref01.Bytes -/
def bd15 : C :=
  (.seq (.reg [⟨some 4, none, .mv (.c (.d (.bool false))), .none⟩])
  (.seq (.seq (.reg [⟨some 6, none, .mv (.s 0), .none⟩,
       ⟨some 7, none, .len (.s 6), .none⟩,
       ⟨some 8, none, .mv (.s 1), .none⟩,
       ⟨some 9, none, .len (.s 8), .none⟩,
       ⟨some 10, none, .bin .neq (.s 7) (.s 9), .none⟩])
   (.cond (.s 10)
    (.seq (.reg [⟨some 4, none, .mv (.c (.d (.bool false))), .none⟩])
    (.ret none))
    .skip))
  (.seq (.seq (.reg [⟨some 11, none, .mv (.s 0), .none⟩,
       ⟨some 12, none, .len (.s 11), .none⟩,
       ⟨some 13, none, .mv (.c (.d (.int .i64 0))), .none⟩])
   (.block 0 (.loop [0, 1, 12, 13] lp15_0)))
  (.seq (.reg [⟨some 4, none, .mv (.c (.d (.bool true))), .none⟩])
  (.ret none)))))
def ir15 : F := { n := 26, res := [.tmp 4], body := bd15 }
@[go_sem] theorem n15 : ir15.n = 26 := rfl
@[go_sem] theorem r15 : ir15.res = [.tmp 4] := rfl
@[go_sem] theorem b15 : ir15.body = bd15 := rfl
/-- spence/multi.Size -/
def bd16 : C :=
  (.seq (.reg [⟨some 6, none, .mv (.c (.d (.int .i64 0))), .none⟩])
  (.seq (.reg [⟨some 10, none, .mv (.s 0), .none⟩,
      ⟨some 11, none, .mv (.s 1), .none⟩,
      ⟨some 12, none, .mv (.s 2), .none⟩,
      ⟨some 13, none, .call 11 [.s 10, .s 11, .s 12] 2, .none⟩,
      ⟨some 9, none, .mv (.s 13), .none⟩,
      ⟨some 14, none, .ext (.s 9) 0, .none⟩,
      ⟨some 15, none, .ext (.s 9) 1, .none⟩,
      ⟨some 7, none, .mv (.s 14), .none⟩,
      ⟨some 8, none, .mv (.s 15), .none⟩])
  (.seq (.reg [⟨some 16, none, .mv (.s 7), .none⟩,
      ⟨some 17, none, .len (.s 16), .none⟩,
      ⟨some 6, none, .mv (.s 17), .none⟩])
  (.ret none))))
def ir16 : F := { n := 18, res := [.tmp 6], body := bd16 }
@[go_sem] theorem n16 : ir16.n = 18 := rfl
@[go_sem] theorem r16 : ir16.res = [.tmp 6] := rfl
@[go_sem] theorem b16 : ir16.body = bd16 := rfl
def lb19_1 : C :=
  (.seq (.seq (.reg [⟨some 38, none, .mv (.s 6), .none⟩,
       ⟨some 39, none, .bin .lss (.s 38) (.c (.d (.int .i64 14))), .none⟩])
   (.cond (.s 39)
    .skip
    (.exit 2 (some [0, 3, 5]))))
  (.seq (.block 3 (.reg [⟨some 42, none, .mv (.s 5), .none⟩,
       ⟨some 43, none, .mv (.s 42), .none⟩,
       ⟨some 44, some (43, false), .mv (.s 6), .none⟩,
       ⟨some 45, some (43, false), .sti (.c (.d (.str [33, 35, 36, 37, 38, 39, 42, 43, 45, 46, 94, 95, 124, 126]))) (.s 44), .none⟩,
       ⟨some 46, some (43, false), .mv (.s 4), .none⟩,
       ⟨some 47, some (43, false), .bin .eql (.s 45) (.s 46), .none⟩,
       ⟨some 48, none, .pick (.s 43) (.c (.d (.bool true))) (.s 47), .none⟩,
       ⟨some 5, none, .mv (.s 48), .none⟩]))
  (.reg [⟨some 40, none, .mv (.s 6), .none⟩,
     ⟨some 41, none, .bin .add (.s 40) (.c (.d (.int .i64 1))), .none⟩,
     ⟨some 6, none, .mv (.s 41), .none⟩])))
def lp19_1 : C := lb19_1
theorem u19_1 (c : Ev.Callee) (l : Ev.Looper) (s : St) : evC c l lp19_1 s = evC c l lb19_1 s := rfl
abbrev st19_1 (m : Nat) (s0 s3 s4 s5 s6 : AV) (h : Heap) : St := ⟨m, [s0, .unk, .unk, s3, s4, s5, s6, .unk, .unk, .unk, .unk, .unk, .unk, .unk, .unk, .unk, .unk, .unk, .unk, .unk, .unk, .unk, .unk, .unk, .unk, .unk, .unk, .unk, .unk, .unk, .unk, .unk, .unk, .unk, .unk, .unk, .unk, .unk, .unk, .unk, .unk, .unk, .unk, .unk, .unk, .unk, .unk, .unk, .unk, .unk, .unk, .unk, .unk, .unk], h⟩
def lb19_0 : C :=
  (.seq (.seq (.reg [⟨some 7, none, .mv (.s 3), .none⟩,
       ⟨some 8, none, .mv (.s 0), .none⟩,
       ⟨some 9, none, .lens (.s 8), .none⟩,
       ⟨some 10, none, .bin .lss (.s 7) (.s 9), .none⟩])
   (.cond (.s 10)
    .skip
    (.exit 0 (some [0]))))
  (.seq (.block 1 (.seq (.reg [⟨some 13, none, .mv (.s 0), .none⟩,
        ⟨some 14, none, .mv (.s 3), .none⟩,
        ⟨some 15, none, .sti (.s 13) (.s 14), .none⟩,
        ⟨some 4, none, .mv (.s 15), .none⟩])
    (.seq (.reg [⟨some 16, none, .mv (.s 4), .none⟩,
        ⟨some 17, none, .call 45 [.s 16] 2, .none⟩,
        ⟨some 18, none, .mv (.s 17), .none⟩,
        ⟨some 19, some (18, false), .mv (.s 4), .none⟩,
        ⟨some 20, some (18, false), .bin .geq (.s 19) (.c (.d (.int .u8 97))), .none⟩,
        ⟨some 21, some (18, false), .mv (.s 20), .none⟩,
        ⟨some 22, some (21, true), .mv (.s 4), .none⟩,
        ⟨some 23, some (21, true), .bin .leq (.s 22) (.c (.d (.int .u8 122))), .none⟩,
        ⟨some 24, some (18, false), .pick (.s 21) (.s 23) (.c (.d (.bool false))), .none⟩,
        ⟨some 25, none, .pick (.s 18) (.c (.d (.bool true))) (.s 24), .none⟩,
        ⟨some 26, none, .mv (.s 25), .none⟩,
        ⟨some 27, some (26, false), .mv (.s 4), .none⟩,
        ⟨some 28, some (26, false), .bin .geq (.s 27) (.c (.d (.int .u8 65))), .none⟩,
        ⟨some 29, some (26, false), .mv (.s 28), .none⟩,
        ⟨some 30, some (29, true), .mv (.s 4), .none⟩,
        ⟨some 31, some (29, true), .bin .leq (.s 30) (.c (.d (.int .u8 90))), .none⟩,
        ⟨some 32, some (26, false), .pick (.s 29) (.s 31) (.c (.d (.bool false))), .none⟩,
        ⟨some 33, none, .pick (.s 26) (.c (.d (.bool true))) (.s 32), .none⟩,
        ⟨some 34, none, .mv (.s 33), .none⟩,
        ⟨some 35, some (34, false), .mv (.s 4), .none⟩,
        ⟨some 36, some (34, false), .bin .eql (.s 35) (.c (.d (.int .u8 96))), .none⟩,
        ⟨some 37, none, .pick (.s 34) (.c (.d (.bool true))) (.s 36), .none⟩,
        ⟨some 5, none, .mv (.s 37), .none⟩])
    (.seq (.seq (.reg [⟨some 6, none, .mv (.c (.d (.int .i64 0))), .none⟩])
     (.block 2 (.loop [0, 3, 4, 5, 6] lp19_1)))
    (.seq (.reg [⟨some 49, none, .mv (.s 5), .none⟩,
        ⟨some 50, none, .un .not (.s 49), .none⟩])
    (.cond (.s 50)
     (.seq (.reg [⟨some 2, none, .mv (.c (.d (.bool false))), .none⟩])
     (.ret (some [2])))
     .skip))))))
  (.reg [⟨some 11, none, .mv (.s 3), .none⟩,
     ⟨some 12, none, .bin .add (.s 11) (.c (.d (.int .i64 1))), .none⟩,
     ⟨some 3, none, .mv (.s 12), .none⟩])))
def lp19_0 : C := lb19_0
theorem u19_0 (c : Ev.Callee) (l : Ev.Looper) (s : St) : evC c l lp19_0 s = evC c l lb19_0 s := rfl
abbrev st19_0 (m : Nat) (s0 s3 : AV) (h : Heap) : St := ⟨m, [s0, .unk, .unk, s3, .unk, .unk, .unk, .unk, .unk, .unk, .unk, .unk, .unk, .unk, .unk, .unk, .unk, .unk, .unk, .unk, .unk, .unk, .unk, .unk, .unk, .unk, .unk, .unk, .unk, .unk, .unk, .unk, .unk, .unk, .unk, .unk, .unk, .unk, .unk, .unk, .unk, .unk, .unk, .unk, .unk, .unk, .unk, .unk, .unk, .unk, .unk, .unk, .unk, .unk], h⟩
@[go_sem] theorem ks19_0 (v0 v1 v2 v3 v4 v5 v6 v7 v8 v9 v10 v11 v12 v13 v14 v15 v16 v17 v18 v19 v20 v21 v22 v23 v24 v25 v26 v27 v28 v29 v30 v31 v32 v33 v34 v35 v36 v37 v38 v39 v40 v41 v42 v43 v44 v45 v46 v47 v48 v49 v50 v51 v52 v53 : AV) : keepS [0, 3] [v0, v1, v2, v3, v4, v5, v6, v7, v8, v9, v10, v11, v12, v13, v14, v15, v16, v17, v18, v19, v20, v21, v22, v23, v24, v25, v26, v27, v28, v29, v30, v31, v32, v33, v34, v35, v36, v37, v38, v39, v40, v41, v42, v43, v44, v45, v46, v47, v48, v49, v50, v51, v52, v53] 0 = [v0, .unk, .unk, v3, .unk, .unk, .unk, .unk, .unk, .unk, .unk, .unk, .unk, .unk, .unk, .unk, .unk, .unk, .unk, .unk, .unk, .unk, .unk, .unk, .unk, .unk, .unk, .unk, .unk, .unk, .unk, .unk, .unk, .unk, .unk, .unk, .unk, .unk, .unk, .unk, .unk, .unk, .unk, .unk, .unk, .unk, .unk, .unk, .unk, .unk, .unk, .unk, .unk, .unk] := rfl
@[go_sem] theorem ks19_1 (v0 v1 v2 v3 v4 v5 v6 v7 v8 v9 v10 v11 v12 v13 v14 v15 v16 v17 v18 v19 v20 v21 v22 v23 v24 v25 v26 v27 v28 v29 v30 v31 v32 v33 v34 v35 v36 v37 v38 v39 v40 v41 v42 v43 v44 v45 v46 v47 v48 v49 v50 v51 v52 v53 : AV) : keepS [0] [v0, v1, v2, v3, v4, v5, v6, v7, v8, v9, v10, v11, v12, v13, v14, v15, v16, v17, v18, v19, v20, v21, v22, v23, v24, v25, v26, v27, v28, v29, v30, v31, v32, v33, v34, v35, v36, v37, v38, v39, v40, v41, v42, v43, v44, v45, v46, v47, v48, v49, v50, v51, v52, v53] 0 = [v0, .unk, .unk, .unk, .unk, .unk, .unk, .unk, .unk, .unk, .unk, .unk, .unk, .unk, .unk, .unk, .unk, .unk, .unk, .unk, .unk, .unk, .unk, .unk, .unk, .unk, .unk, .unk, .unk, .unk, .unk, .unk, .unk, .unk, .unk, .unk, .unk, .unk, .unk, .unk, .unk, .unk, .unk, .unk, .unk, .unk, .unk, .unk, .unk, .unk, .unk, .unk, .unk, .unk] := rfl
@[go_sem] theorem ks19_2 (v0 v1 v2 v3 v4 v5 v6 v7 v8 v9 v10 v11 v12 v13 v14 v15 v16 v17 v18 v19 v20 v21 v22 v23 v24 v25 v26 v27 v28 v29 v30 v31 v32 v33 v34 v35 v36 v37 v38 v39 v40 v41 v42 v43 v44 v45 v46 v47 v48 v49 v50 v51 v52 v53 : AV) : keepS [0, 3, 4, 5, 6] [v0, v1, v2, v3, v4, v5, v6, v7, v8, v9, v10, v11, v12, v13, v14, v15, v16, v17, v18, v19, v20, v21, v22, v23, v24, v25, v26, v27, v28, v29, v30, v31, v32, v33, v34, v35, v36, v37, v38, v39, v40, v41, v42, v43, v44, v45, v46, v47, v48, v49, v50, v51, v52, v53] 0 = [v0, .unk, .unk, v3, v4, v5, v6, .unk, .unk, .unk, .unk, .unk, .unk, .unk, .unk, .unk, .unk, .unk, .unk, .unk, .unk, .unk, .unk, .unk, .unk, .unk, .unk, .unk, .unk, .unk, .unk, .unk, .unk, .unk, .unk, .unk, .unk, .unk, .unk, .unk, .unk, .unk, .unk, .unk, .unk, .unk, .unk, .unk, .unk, .unk, .unk, .unk, .unk, .unk] := rfl
@[go_sem] theorem ks19_3 (v0 v1 v2 v3 v4 v5 v6 v7 v8 v9 v10 v11 v12 v13 v14 v15 v16 v17 v18 v19 v20 v21 v22 v23 v24 v25 v26 v27 v28 v29 v30 v31 v32 v33 v34 v35 v36 v37 v38 v39 v40 v41 v42 v43 v44 v45 v46 v47 v48 v49 v50 v51 v52 v53 : AV) : keepS [0, 3, 5] [v0, v1, v2, v3, v4, v5, v6, v7, v8, v9, v10, v11, v12, v13, v14, v15, v16, v17, v18, v19, v20, v21, v22, v23, v24, v25, v26, v27, v28, v29, v30, v31, v32, v33, v34, v35, v36, v37, v38, v39, v40, v41, v42, v43, v44, v45, v46, v47, v48, v49, v50, v51, v52, v53] 0 = [v0, .unk, .unk, v3, .unk, v5, .unk, .unk, .unk, .unk, .unk, .unk, .unk, .unk, .unk, .unk, .unk, .unk, .unk, .unk, .unk, .unk, .unk, .unk, .unk, .unk, .unk, .unk, .unk, .unk, .unk, .unk, .unk, .unk, .unk, .unk, .unk, .unk, .unk, .unk, .unk, .unk, .unk, .unk, .unk, .unk, .unk, .unk, .unk, .unk, .unk, .unk, .unk, .unk] := rfl
@[go_sem] theorem ks19_4 (v0 v1 v2 v3 v4 v5 v6 v7 v8 v9 v10 v11 v12 v13 v14 v15 v16 v17 v18 v19 v20 v21 v22 v23 v24 v25 v26 v27 v28 v29 v30 v31 v32 v33 v34 v35 v36 v37 v38 v39 v40 v41 v42 v43 v44 v45 v46 v47 v48 v49 v50 v51 v52 v53 : AV) : keepS [2] [v0, v1, v2, v3, v4, v5, v6, v7, v8, v9, v10, v11, v12, v13, v14, v15, v16, v17, v18, v19, v20, v21, v22, v23, v24, v25, v26, v27, v28, v29, v30, v31, v32, v33, v34, v35, v36, v37, v38, v39, v40, v41, v42, v43, v44, v45, v46, v47, v48, v49, v50, v51, v52, v53] 0 = [.unk, .unk, v2, .unk, .unk, .unk, .unk, .unk, .unk, .unk, .unk, .unk, .unk, .unk, .unk, .unk, .unk, .unk, .unk, .unk, .unk, .unk, .unk, .unk, .unk, .unk, .unk, .unk, .unk, .unk, .unk, .unk, .unk, .unk, .unk, .unk, .unk, .unk, .unk, .unk, .unk, .unk, .unk, .unk, .unk, .unk, .unk, .unk, .unk, .unk, .unk, .unk, .unk, .unk] := rfl
/-- spence/spenceref01.Token -/
def bd19 : C :=
  (.seq (.reg [⟨some 2, none, .mv (.c (.d (.bool false))), .none⟩])
  (.seq (.seq (.reg [⟨some 3, none, .mv (.c (.d (.int .i64 0))), .none⟩])
   (.block 0 (.loop [0, 3] lp19_0)))
  (.seq (.reg [⟨some 51, none, .mv (.s 0), .none⟩,
      ⟨some 52, none, .lens (.s 51), .none⟩,
      ⟨some 53, none, .bin .gtr (.s 52) (.c (.d (.int .i64 0))), .none⟩,
      ⟨some 2, none, .mv (.s 53), .none⟩])
  (.ret none))))
def ir19 : F := { n := 54, res := [.tmp 2], body := bd19 }
@[go_sem] theorem n19 : ir19.n = 54 := rfl
@[go_sem] theorem r19 : ir19.res = [.tmp 2] := rfl
@[go_sem] theorem b19 : ir19.body = bd19 := rfl
/-- spence/multi.Type -/
def bd32 : C :=
  (.seq (.reg [⟨some 2, none, .mv (.c (.d (.str []))), .none⟩])
  (.seq (.reg [⟨some 3, none, .mv (.s 0), .none⟩,
      ⟨some 4, none, .bin .add (.c (.d (.str [109, 117, 108, 116, 105, 112, 97, 114, 116, 47, 98, 121, 116, 101, 114, 97, 110, 103, 101, 115, 59, 32, 98, 111, 117, 110, 100, 97, 114, 121, 61]))) (.s 3), .none⟩,
      ⟨some 2, none, .mv (.s 4), .none⟩])
  (.ret none)))
def ir32 : F := { n := 5, res := [.tmp 2], body := bd32 }
@[go_sem] theorem n32 : ir32.n = 5 := rfl
@[go_sem] theorem r32 : ir32.res = [.tmp 2] := rfl
@[go_sem] theorem b32 : ir32.body = bd32 := rfl
/-- spence/multi.may -/
def bd33 : C :=
  (.seq (.reg [⟨some 2, none, .mv (.c (.d (.bool false))), .none⟩])
  (.seq (.reg [⟨some 3, none, .mv (.s 0), .none⟩,
      ⟨some 4, none, .call 65 [.s 3] 2, .none⟩,
      ⟨some 5, none, .mv (.s 4), .none⟩,
      ⟨some 6, some (5, true), .mv (.s 0), .none⟩,
      ⟨some 7, some (5, true), .lens (.s 6), .none⟩,
      ⟨some 8, some (5, true), .bin .leq (.s 7) (.c (.d (.int .i64 40))), .none⟩,
      ⟨some 9, none, .pick (.s 5) (.s 8) (.c (.d (.bool false))), .none⟩,
      ⟨some 2, none, .mv (.s 9), .none⟩])
  (.ret none)))
def ir33 : F := { n := 10, res := [.tmp 2], body := bd33 }
@[go_sem] theorem n33 : ir33.n = 10 := rfl
@[go_sem] theorem r33 : ir33.res = [.tmp 2] := rfl
@[go_sem] theorem b33 : ir33.body = bd33 := rfl
/-- spence/crange.Of -/
def bd35 : C :=
  (.seq (.reg [⟨some 2, none, .box 52 (.s 0), .none⟩,
      ⟨some 4, none, .mv (.c (.d (.str []))), .none⟩])
  (.seq (.reg [⟨some 5, none, .ld (.s 2) 2 true, .none⟩,
      ⟨some 6, none, .mv (.s 1), .none⟩,
      ⟨some 7, none, .build [.bool false, .int .i64 0, .int .i64 0, .int .i64 0] [(0, (1, .c (.d (.bool true)))), (1, (2, .s 5)), (3, (1, .s 6))], .none⟩,
      ⟨some 8, none, .call 68 [.s 7] 2, .none⟩,
      ⟨some 4, none, .mv (.s 8), .none⟩])
  (.ret none)))
def ir35 : F := { n := 9, res := [.tmp 4], body := bd35 }
@[go_sem] theorem n35 : ir35.n = 9 := rfl
@[go_sem] theorem r35 : ir35.res = [.tmp 4] := rfl
@[go_sem] theorem b35 : ir35.body = bd35 := rfl
@[go_sem] theorem ks38_0 (v0 v1 v2 v3 v4 v5 v6 v7 v8 v9 v10 v11 v12 v13 v14 v15 v16 v17 v18 v19 v20 v21 v22 v23 v24 v25 v26 v27 v28 v29 v30 v31 : AV) : keepS [1, 3] [v0, v1, v2, v3, v4, v5, v6, v7, v8, v9, v10, v11, v12, v13, v14, v15, v16, v17, v18, v19, v20, v21, v22, v23, v24, v25, v26, v27, v28, v29, v30, v31] 0 = [.unk, v1, .unk, v3, .unk, .unk, .unk, .unk, .unk, .unk, .unk, .unk, .unk, .unk, .unk, .unk, .unk, .unk, .unk, .unk, .unk, .unk, .unk, .unk, .unk, .unk, .unk, .unk, .unk, .unk, .unk, .unk] := rfl
/-- spence/spenceref04.PrintContent -/
def bd38 : C :=
  (.seq (.reg [⟨some 1, none, .box 88 (.s 0), .none⟩,
      ⟨some 2, none, .mv (.c (.d (.str []))), .none⟩])
  (.seq (.seq (.reg [⟨some 4, none, .ld (.s 1) 4 true, .none⟩,
       ⟨some 5, none, .call 69 [.s 4] 2, .none⟩,
       ⟨some 6, none, .un .not (.s 5), .none⟩])
   (.cond (.s 6)
    (.seq (.reg [⟨some 2, none, .mv (.c (.d (.str []))), .none⟩])
    (.ret none))
    .skip))
  (.seq (.reg [⟨some 3, none, .mv (.c (.d (.str [98, 121, 116, 101, 115, 32, 42]))), .none⟩])
  (.seq (.seq (.reg [⟨some 7, none, .fa (.s 1) 0, .none⟩,
       ⟨some 8, none, .ld (.s 7) 1 false, .none⟩])
   (.cond (.s 8)
    (.drw [⟨some 9, none, .fa (.s 1) 1, .none⟩,
       ⟨some 10, none, .fa (.s 9) 0, .none⟩,
       ⟨some 11, none, .ld (.s 10) 1 false, .none⟩,
       ⟨some 12, none, .call 64 [.s 11] 2, .none⟩,
       ⟨some 13, none, .bin .add (.c (.d (.str [98, 121, 116, 101, 115, 32]))) (.s 12), .none⟩,
       ⟨some 14, none, .bin .add (.s 13) (.c (.d (.str [45]))), .none⟩,
       ⟨some 15, none, .fa (.s 1) 1, .none⟩,
       ⟨some 16, none, .fa (.s 15) 1, .none⟩,
       ⟨some 17, none, .ld (.s 16) 1 false, .none⟩,
       ⟨some 18, none, .bin .sub (.s 17) (.c (.d (.int .i64 1))), .none⟩,
       ⟨some 19, none, .call 64 [.s 18] 2, .none⟩,
       ⟨some 20, none, .bin .add (.s 14) (.s 19), .none⟩,
       ⟨some 3, none, .mv (.s 20), .none⟩]
      [[], [0], [1], [2], [3], [4], [], [6], [7], [8], [9, 3], [5, 10], [11, 10, 0, 1, 2, 3, 4, 5, 6, 7, 8, 9, 10, 11]] [])
    .skip))
  (.ann [1, 3] (.seq (.seq (.reg [⟨some 21, none, .fa (.s 1) 3, .none⟩,
       ⟨some 22, none, .ld (.s 21) 1 false, .none⟩,
       ⟨some 23, none, .bin .lss (.s 22) (.c (.d (.int .i64 0))), .none⟩])
   (.cond (.s 23)
    (.seq (.reg [⟨some 24, none, .mv (.s 3), .none⟩,
        ⟨some 25, none, .bin .add (.s 24) (.c (.d (.str [47, 42]))), .none⟩,
        ⟨some 2, none, .mv (.s 25), .none⟩])
    (.ret none))
    .skip))
  (.seq (.reg [⟨some 26, none, .mv (.s 3), .none⟩,
      ⟨some 27, none, .bin .add (.s 26) (.c (.d (.str [47]))), .none⟩,
      ⟨some 28, none, .fa (.s 1) 3, .none⟩,
      ⟨some 29, none, .ld (.s 28) 1 false, .none⟩,
      ⟨some 30, none, .call 64 [.s 29] 2, .none⟩,
      ⟨some 31, none, .bin .add (.s 27) (.s 30), .none⟩,
      ⟨some 2, none, .mv (.s 31), .none⟩])
  (.ret none))))))))
def ir38 : F := { n := 32, res := [.tmp 2], body := bd38 }
@[go_sem] theorem n38 : ir38.n = 32 := rfl
@[go_sem] theorem r38 : ir38.res = [.tmp 2] := rfl
@[go_sem] theorem b38 : ir38.body = bd38 := rfl
/-- spence/span.Right -/
def bd39 : C :=
  (.seq (.reg [⟨some 1, none, .box 52 (.s 0), .none⟩,
      ⟨some 2, none, .mv (.c (.d (.bool false))), .none⟩])
  (.seq (.reg [⟨some 3, none, .fa (.s 1) 0, .none⟩,
      ⟨some 4, none, .ld (.s 3) 1 false, .none⟩,
      ⟨some 5, none, .bin .geq (.s 4) (.c (.d (.int .i64 0))), .none⟩,
      ⟨some 6, none, .mv (.s 5), .none⟩,
      ⟨some 7, some (6, true), .fa (.s 1) 0, .none⟩,
      ⟨some 8, some (6, true), .ld (.s 7) 1 false, .none⟩,
      ⟨some 9, some (6, true), .fa (.s 1) 1, .none⟩,
      ⟨some 10, some (6, true), .ld (.s 9) 1 false, .none⟩,
      ⟨some 11, some (6, true), .bin .lss (.s 8) (.s 10), .none⟩,
      ⟨some 12, none, .pick (.s 6) (.s 11) (.c (.d (.bool false))), .none⟩,
      ⟨some 13, none, .mv (.s 12), .none⟩,
      ⟨some 14, some (13, true), .fa (.s 1) 1, .none⟩,
      ⟨some 15, some (13, true), .ld (.s 14) 1 false, .none⟩,
      ⟨some 16, some (13, true), .bin .leq (.s 15) (.c (.d (.int .i64 4611686018427387903))), .none⟩,
      ⟨some 17, none, .pick (.s 13) (.s 16) (.c (.d (.bool false))), .none⟩,
      ⟨some 2, none, .mv (.s 17), .none⟩])
  (.ret none)))
def ir39 : F := { n := 18, res := [.tmp 2], body := bd39 }
@[go_sem] theorem n39 : ir39.n = 18 := rfl
@[go_sem] theorem r39 : ir39.res = [.tmp 2] := rfl
@[go_sem] theorem b39 : ir39.body = bd39 := rfl
/-- spence/span.Len -/
def bd40 : C :=
  (.seq (.reg [⟨some 1, none, .box 52 (.s 0), .none⟩,
      ⟨some 2, none, .mv (.c (.d (.int .i64 0))), .none⟩])
  (.seq (.seq (.reg [⟨some 3, none, .ld (.s 1) 2 true, .none⟩,
       ⟨some 4, none, .call 39 [.s 3] 2, .none⟩,
       ⟨some 5, none, .un .not (.s 4), .none⟩])
   (.cond (.s 5)
    (.seq (.reg [⟨some 2, none, .mv (.c (.d (.int .i64 0))), .none⟩])
    (.ret none))
    .skip))
  (.seq (.reg [⟨some 6, none, .fa (.s 1) 1, .none⟩,
      ⟨some 7, none, .ld (.s 6) 1 false, .none⟩,
      ⟨some 8, none, .fa (.s 1) 0, .none⟩,
      ⟨some 9, none, .ld (.s 8) 1 false, .none⟩,
      ⟨some 10, none, .bin .sub (.s 7) (.s 9), .none⟩,
      ⟨some 2, none, .mv (.s 10), .none⟩])
  (.ret none))))
def ir40 : F := { n := 11, res := [.tmp 2], body := bd40 }
@[go_sem] theorem n40 : ir40.n = 11 := rfl
@[go_sem] theorem r40 : ir40.res = [.tmp 2] := rfl
@[go_sem] theorem b40 : ir40.body = bd40 := rfl
/-- spence/spenceref04.Right -/
def bd41 : C :=
  (.seq (.reg [⟨some 1, none, .box 52 (.s 0), .none⟩,
      ⟨some 2, none, .mv (.c (.d (.bool false))), .none⟩])
  (.seq (.reg [⟨some 3, none, .fa (.s 1) 0, .none⟩,
      ⟨some 4, none, .ld (.s 3) 1 false, .none⟩,
      ⟨some 5, none, .bin .geq (.s 4) (.c (.d (.int .i64 0))), .none⟩,
      ⟨some 6, none, .mv (.s 5), .none⟩,
      ⟨some 7, some (6, true), .fa (.s 1) 1, .none⟩,
      ⟨some 8, some (6, true), .ld (.s 7) 1 false, .none⟩,
      ⟨some 9, some (6, true), .fa (.s 1) 0, .none⟩,
      ⟨some 10, some (6, true), .ld (.s 9) 1 false, .none⟩,
      ⟨some 11, some (6, true), .bin .gtr (.s 8) (.s 10), .none⟩,
      ⟨some 12, none, .pick (.s 6) (.s 11) (.c (.d (.bool false))), .none⟩,
      ⟨some 13, none, .mv (.s 12), .none⟩,
      ⟨some 14, some (13, true), .fa (.s 1) 1, .none⟩,
      ⟨some 15, some (13, true), .ld (.s 14) 1 false, .none⟩,
      ⟨some 16, some (13, true), .bin .leq (.s 15) (.c (.d (.int .i64 4611686018427387903))), .none⟩,
      ⟨some 17, none, .pick (.s 13) (.s 16) (.c (.d (.bool false))), .none⟩,
      ⟨some 2, none, .mv (.s 17), .none⟩])
  (.ret none)))
def ir41 : F := { n := 18, res := [.tmp 2], body := bd41 }
@[go_sem] theorem n41 : ir41.n = 18 := rfl
@[go_sem] theorem r41 : ir41.res = [.tmp 2] := rfl
@[go_sem] theorem b41 : ir41.body = bd41 := rfl
/-- spence/spenceref01.Digit -/
def bd45 : C :=
  (.seq (.reg [⟨some 2, none, .mv (.c (.d (.bool false))), .none⟩])
  (.seq (.reg [⟨some 3, none, .mv (.s 0), .none⟩,
      ⟨some 4, none, .bin .geq (.s 3) (.c (.d (.int .u8 48))), .none⟩,
      ⟨some 5, none, .mv (.s 4), .none⟩,
      ⟨some 6, some (5, true), .mv (.s 0), .none⟩,
      ⟨some 7, some (5, true), .bin .leq (.s 6) (.c (.d (.int .u8 57))), .none⟩,
      ⟨some 8, none, .pick (.s 5) (.s 7) (.c (.d (.bool false))), .none⟩,
      ⟨some 2, none, .mv (.s 8), .none⟩])
  (.ret none)))
def ir45 : F := { n := 9, res := [.tmp 2], body := bd45 }
@[go_sem] theorem n45 : ir45.n = 9 := rfl
@[go_sem] theorem r45 : ir45.res = [.tmp 2] := rfl
@[go_sem] theorem b45 : ir45.body = bd45 := rfl
/-- spence/spenceref01.Print -/
def bd64 : C :=
  (.seq (.reg [⟨some 2, none, .mv (.c (.d (.str []))), .none⟩])
  (.seq (.seq (.reg [⟨some 4, none, .mv (.s 0), .none⟩,
       ⟨some 5, none, .bin .lss (.s 4) (.c (.d (.int .i64 0))), .none⟩])
   (.cond (.s 5)
    (.seq (.reg [⟨some 6, none, .mv (.s 0), .none⟩,
        ⟨some 7, none, .bin .add (.s 6) (.c (.d (.int .i64 1))), .none⟩,
        ⟨some 8, none, .un .neg (.s 7), .none⟩,
        ⟨some 9, none, .cvi .u64 (.s 8), .none⟩,
        ⟨some 10, none, .bin .add (.s 9) (.c (.d (.int .u64 1))), .none⟩,
        ⟨some 3, none, .mv (.s 10), .none⟩])
    (.seq (.reg [⟨some 11, none, .mv (.s 3), .none⟩,
        ⟨some 12, none, .call 93 [.s 11] 2, .none⟩,
        ⟨some 13, none, .bin .add (.c (.d (.str [45]))) (.s 12), .none⟩,
        ⟨some 2, none, .mv (.s 13), .none⟩])
    (.ret none)))
    .skip))
  (.seq (.reg [⟨some 14, none, .mv (.s 0), .none⟩,
      ⟨some 15, none, .cvi .u64 (.s 14), .none⟩,
      ⟨some 16, none, .call 93 [.s 15] 2, .none⟩,
      ⟨some 2, none, .mv (.s 16), .none⟩])
  (.ret none))))
def ir64 : F := { n := 17, res := [.tmp 2], body := bd64 }
@[go_sem] theorem n64 : ir64.n = 17 := rfl
@[go_sem] theorem r64 : ir64.res = [.tmp 2] := rfl
@[go_sem] theorem b64 : ir64.body = bd64 := rfl
def lb65_0 : C :=
  (.seq (.reg [⟨some 7, none, .bin .lss (.s 6) (.s 5), .none⟩])
  (.seq (.cond (.s 7)
    .skip
    (.exit 0 (some [0])))
  (.seq (.block 1 (.seq (.reg [⟨some 8, none, .mv (.s 6), .none⟩,
        ⟨some 3, none, .mv (.s 8), .none⟩])
    (.seq (.reg [⟨some 9, none, .mv (.s 0), .none⟩,
        ⟨some 10, none, .mv (.s 3), .none⟩,
        ⟨some 11, none, .sti (.s 9) (.s 10), .none⟩,
        ⟨some 12, none, .call 94 [.s 11] 2, .none⟩,
        ⟨some 13, none, .un .not (.s 12), .none⟩])
    (.cond (.s 13)
     (.seq (.reg [⟨some 2, none, .mv (.c (.d (.bool false))), .none⟩])
     (.ret (some [2])))
     .skip))))
  (.reg [⟨some 14, none, .bin .add (.s 6) (.c (.d (.int .i64 1))), .none⟩,
     ⟨some 6, none, .mv (.s 14), .none⟩]))))
def lp65_0 : C := lb65_0
theorem u65_0 (c : Ev.Callee) (l : Ev.Looper) (s : St) : evC c l lp65_0 s = evC c l lb65_0 s := rfl
abbrev st65_0 (m : Nat) (s0 s5 s6 : AV) (h : Heap) : St := ⟨m, [s0, .unk, .unk, .unk, .unk, s5, s6, .unk, .unk, .unk, .unk, .unk, .unk, .unk, .unk, .unk, .unk], h⟩
@[go_sem] theorem ks65_0 (v0 v1 v2 v3 v4 v5 v6 v7 v8 v9 v10 v11 v12 v13 v14 v15 v16 : AV) : keepS [0, 5, 6] [v0, v1, v2, v3, v4, v5, v6, v7, v8, v9, v10, v11, v12, v13, v14, v15, v16] 0 = [v0, .unk, .unk, .unk, .unk, v5, v6, .unk, .unk, .unk, .unk, .unk, .unk, .unk, .unk, .unk, .unk] := rfl
@[go_sem] theorem ks65_1 (v0 v1 v2 v3 v4 v5 v6 v7 v8 v9 v10 v11 v12 v13 v14 v15 v16 : AV) : keepS [0] [v0, v1, v2, v3, v4, v5, v6, v7, v8, v9, v10, v11, v12, v13, v14, v15, v16] 0 = [v0, .unk, .unk, .unk, .unk, .unk, .unk, .unk, .unk, .unk, .unk, .unk, .unk, .unk, .unk, .unk, .unk] := rfl
@[go_sem] theorem ks65_2 (v0 v1 v2 v3 v4 v5 v6 v7 v8 v9 v10 v11 v12 v13 v14 v15 v16 : AV) : keepS [2] [v0, v1, v2, v3, v4, v5, v6, v7, v8, v9, v10, v11, v12, v13, v14, v15, v16] 0 = [.unk, .unk, v2, .unk, .unk, .unk, .unk, .unk, .unk, .unk, .unk, .unk, .unk, .unk, .unk, .unk, .unk] := rfl
/-- spence/text.Token -/
def bd65 : C :=
  (.seq (.reg [⟨some 2, none, .mv (.c (.d (.bool false))), .none⟩])
  (.seq (.seq (.reg [⟨some 4, none, .mv (.s 0), .none⟩,
       ⟨some 5, none, .lens (.s 4), .none⟩,
       ⟨some 6, none, .mv (.c (.d (.int .i64 0))), .none⟩])
   (.block 0 (.loop [0, 5, 6] lp65_0)))
  (.seq (.reg [⟨some 15, none, .mv (.s 0), .none⟩,
      ⟨some 16, none, .bin .neq (.s 15) (.c (.d (.str []))), .none⟩,
      ⟨some 2, none, .mv (.s 16), .none⟩])
  (.ret none))))
def ir65 : F := { n := 17, res := [.tmp 2], body := bd65 }
@[go_sem] theorem n65 : ir65.n = 17 := rfl
@[go_sem] theorem r65 : ir65.res = [.tmp 2] := rfl
@[go_sem] theorem b65 : ir65.body = bd65 := rfl
@[go_sem] theorem ks68_0 (v0 v1 v2 v3 v4 v5 v6 v7 v8 v9 v10 v11 v12 v13 v14 v15 v16 v17 v18 v19 v20 v21 v22 v23 v24 v25 v26 v27 v28 v29 v30 v31 v32 v33 v34 : AV) : keepS [1, 3] [v0, v1, v2, v3, v4, v5, v6, v7, v8, v9, v10, v11, v12, v13, v14, v15, v16, v17, v18, v19, v20, v21, v22, v23, v24, v25, v26, v27, v28, v29, v30, v31, v32, v33, v34] 0 = [.unk, v1, .unk, v3, .unk, .unk, .unk, .unk, .unk, .unk, .unk, .unk, .unk, .unk, .unk, .unk, .unk, .unk, .unk, .unk, .unk, .unk, .unk, .unk, .unk, .unk, .unk, .unk, .unk, .unk, .unk, .unk, .unk, .unk, .unk] := rfl
/-- spence/crange.Print -/
def bd68 : C :=
  (.seq (.reg [⟨some 1, none, .box 88 (.s 0), .none⟩,
      ⟨some 2, none, .mv (.c (.d (.str []))), .none⟩])
  (.seq (.seq (.reg [⟨some 4, none, .ld (.s 1) 4 true, .none⟩,
       ⟨some 5, none, .call 98 [.s 4] 2, .none⟩,
       ⟨some 6, none, .un .not (.s 5), .none⟩])
   (.cond (.s 6)
    (.seq (.reg [⟨some 2, none, .mv (.c (.d (.str []))), .none⟩])
    (.ret none))
    .skip))
  (.seq (.reg [⟨some 3, none, .mv (.c (.d (.str [98, 121, 116, 101, 115, 32]))), .none⟩])
  (.seq (.seq (.reg [⟨some 7, none, .fa (.s 1) 0, .none⟩,
       ⟨some 8, none, .ld (.s 7) 1 false, .none⟩])
   (.cond (.s 8)
    (.drw [⟨some 9, none, .mv (.s 3), .none⟩,
       ⟨some 10, none, .fa (.s 1) 1, .none⟩,
       ⟨some 11, none, .fa (.s 10) 0, .none⟩,
       ⟨some 12, none, .ld (.s 11) 1 false, .none⟩,
       ⟨some 13, none, .call 99 [.s 12] 2, .none⟩,
       ⟨some 14, none, .bin .add (.s 13) (.c (.d (.str [45]))), .none⟩,
       ⟨some 15, none, .fa (.s 1) 1, .none⟩,
       ⟨some 16, none, .fa (.s 15) 1, .none⟩,
       ⟨some 17, none, .ld (.s 16) 1 false, .none⟩,
       ⟨some 18, none, .bin .sub (.s 17) (.c (.d (.int .i64 1))), .none⟩,
       ⟨some 19, none, .call 99 [.s 18] 2, .none⟩,
       ⟨some 20, none, .bin .add (.s 14) (.s 19), .none⟩,
       ⟨some 21, none, .bin .add (.s 9) (.s 20), .none⟩,
       ⟨some 3, none, .mv (.s 21), .none⟩]
      [[], [], [1], [2], [3], [4], [], [6], [7], [8], [9, 4], [5, 10], [0, 11], [12, 10, 0, 1, 2, 3, 4, 5, 6, 7, 8, 9, 10, 11, 12]] [])
    (.reg [⟨some 22, none, .mv (.s 3), .none⟩,
       ⟨some 23, none, .bin .add (.s 22) (.c (.d (.str [42]))), .none⟩,
       ⟨some 3, none, .mv (.s 23), .none⟩])))
  (.ann [1, 3] (.seq (.seq (.reg [⟨some 24, none, .fa (.s 1) 3, .none⟩,
       ⟨some 25, none, .ld (.s 24) 1 false, .none⟩,
       ⟨some 26, none, .bin .eql (.s 25) (.c (.d (.int .i64 (-1)))), .none⟩])
   (.cond (.s 26)
    (.seq (.reg [⟨some 27, none, .mv (.s 3), .none⟩,
        ⟨some 28, none, .bin .add (.s 27) (.c (.d (.str [47, 42]))), .none⟩,
        ⟨some 2, none, .mv (.s 28), .none⟩])
    (.ret none))
    .skip))
  (.seq (.reg [⟨some 29, none, .mv (.s 3), .none⟩,
      ⟨some 30, none, .bin .add (.s 29) (.c (.d (.str [47]))), .none⟩,
      ⟨some 31, none, .fa (.s 1) 3, .none⟩,
      ⟨some 32, none, .ld (.s 31) 1 false, .none⟩,
      ⟨some 33, none, .call 99 [.s 32] 2, .none⟩,
      ⟨some 34, none, .bin .add (.s 30) (.s 33), .none⟩,
      ⟨some 2, none, .mv (.s 34), .none⟩])
  (.ret none))))))))
def ir68 : F := { n := 35, res := [.tmp 2], body := bd68 }
@[go_sem] theorem n68 : ir68.n = 35 := rfl
@[go_sem] theorem r68 : ir68.res = [.tmp 2] := rfl
@[go_sem] theorem b68 : ir68.body = bd68 := rfl
/-- spence/spenceref04.RightContent -/
def bd69 : C :=
  (.seq (.reg [⟨some 1, none, .box 88 (.s 0), .none⟩,
      ⟨some 2, none, .mv (.c (.d (.bool false))), .none⟩])
  (.seq (.seq (.reg [⟨some 3, none, .fa (.s 1) 3, .none⟩,
       ⟨some 4, none, .ld (.s 3) 1 false, .none⟩,
       ⟨some 5, none, .bin .lss (.s 4) (.c (.d (.int .i64 (-1)))), .none⟩,
       ⟨some 6, none, .mv (.s 5), .none⟩,
       ⟨some 7, some (6, false), .fa (.s 1) 3, .none⟩,
       ⟨some 8, some (6, false), .ld (.s 7) 1 false, .none⟩,
       ⟨some 9, some (6, false), .bin .gtr (.s 8) (.c (.d (.int .i64 4611686018427387903))), .none⟩,
       ⟨some 10, none, .pick (.s 6) (.c (.d (.bool true))) (.s 9), .none⟩])
   (.cond (.s 10)
    (.seq (.reg [⟨some 2, none, .mv (.c (.d (.bool false))), .none⟩])
    (.ret none))
    .skip))
  (.seq (.seq (.reg [⟨some 11, none, .fa (.s 1) 0, .none⟩,
       ⟨some 12, none, .ld (.s 11) 1 false, .none⟩,
       ⟨some 13, none, .un .not (.s 12), .none⟩])
   (.cond (.s 13)
    (.seq (.reg [⟨some 14, none, .fa (.s 1) 1, .none⟩,
        ⟨some 15, none, .ld (.s 14) 2 true, .none⟩,
        ⟨some 16, none, .build [.int .i64 0, .int .i64 0] [], .none⟩,
        ⟨some 17, none, .eqs false [1, 1] (.s 15) (.s 16), .none⟩,
        ⟨some 18, none, .mv (.s 17), .none⟩,
        ⟨some 19, some (18, true), .fa (.s 1) 3, .none⟩,
        ⟨some 20, some (18, true), .ld (.s 19) 1 false, .none⟩,
        ⟨some 21, some (18, true), .bin .geq (.s 20) (.c (.d (.int .i64 0))), .none⟩,
        ⟨some 22, none, .pick (.s 18) (.s 21) (.c (.d (.bool false))), .none⟩,
        ⟨some 2, none, .mv (.s 22), .none⟩])
    (.ret none))
    .skip))
  (.seq (.reg [⟨some 23, none, .fa (.s 1) 1, .none⟩,
      ⟨some 24, none, .ld (.s 23) 2 true, .none⟩,
      ⟨some 25, none, .call 41 [.s 24] 2, .none⟩,
      ⟨some 26, none, .mv (.s 25), .none⟩,
      ⟨some 27, some (26, true), .fa (.s 1) 3, .none⟩,
      ⟨some 28, some (26, true), .ld (.s 27) 1 false, .none⟩,
      ⟨some 29, some (26, true), .bin .eql (.s 28) (.c (.d (.int .i64 (-1)))), .none⟩,
      ⟨some 30, some (26, true), .mv (.s 29), .none⟩,
      ⟨some 31, some (30, false), .fa (.s 1) 1, .none⟩,
      ⟨some 32, some (30, false), .fa (.s 31) 1, .none⟩,
      ⟨some 33, some (30, false), .ld (.s 32) 1 false, .none⟩,
      ⟨some 34, some (30, false), .fa (.s 1) 3, .none⟩,
      ⟨some 35, some (30, false), .ld (.s 34) 1 false, .none⟩,
      ⟨some 36, some (30, false), .bin .leq (.s 33) (.s 35), .none⟩,
      ⟨some 37, some (26, true), .pick (.s 30) (.c (.d (.bool true))) (.s 36), .none⟩,
      ⟨some 38, none, .pick (.s 26) (.s 37) (.c (.d (.bool false))), .none⟩,
      ⟨some 2, none, .mv (.s 38), .none⟩])
  (.ret none)))))
def ir69 : F := { n := 39, res := [.tmp 2], body := bd69 }
@[go_sem] theorem n69 : ir69.n = 39 := rfl
@[go_sem] theorem r69 : ir69.res = [.tmp 2] := rfl
@[go_sem] theorem b69 : ir69.body = bd69 := rfl
/-- spence/nums.Fits -/
def bd79 : C :=
  (.seq (.reg [⟨some 6, none, .mv (.c (.d (.bool false))), .none⟩])
  (.seq (.reg [⟨some 7, none, .mv (.s 0), .none⟩,
      ⟨some 8, none, .mv (.s 1), .none⟩,
      ⟨some 9, none, .bin .geq (.s 7) (.s 8), .none⟩,
      ⟨some 10, none, .mv (.s 9), .none⟩,
      ⟨some 11, some (10, true), .mv (.s 0), .none⟩,
      ⟨some 12, some (10, true), .mv (.s 2), .none⟩,
      ⟨some 13, some (10, true), .bin .leq (.s 11) (.s 12), .none⟩,
      ⟨some 14, none, .pick (.s 10) (.s 13) (.c (.d (.bool false))), .none⟩,
      ⟨some 6, none, .mv (.s 14), .none⟩])
  (.ret none)))
def ir79 : F := { n := 15, res := [.tmp 6], body := bd79 }
@[go_sem] theorem n79 : ir79.n = 15 := rfl
@[go_sem] theorem r79 : ir79.res = [.tmp 6] := rfl
@[go_sem] theorem b79 : ir79.body = bd79 := rfl
def lb93_0 : C :=
  (.seq (.seq (.reg [⟨some 10, none, .mv (.s 0), .none⟩,
       ⟨some 11, none, .bin .geq (.s 10) (.c (.d (.int .u64 10))), .none⟩])
   (.cond (.s 11)
    .skip
    (.exit 0 (some [3]))))
  (.block 1 (.seq (.reg [⟨some 12, none, .mv (.s 0), .none⟩,
       ⟨some 13, none, .bin .quo (.s 12) (.c (.d (.int .u64 10))), .none⟩,
       ⟨some 0, none, .mv (.s 13), .none⟩])
   (.reg [⟨some 14, none, .mv (.s 0), .none⟩,
      ⟨some 15, none, .bin .rem (.s 14) (.c (.d (.int .u64 10))), .none⟩,
      ⟨some 16, none, .bin .add (.c (.d (.int .u64 48))) (.s 15), .none⟩,
      ⟨some 17, none, .cvi .u8 (.s 16), .none⟩,
      ⟨some 18, none, .bsl 5 1 1 [.int .u8 0] [(0, (1, .s 17))], .none⟩,
      ⟨some 19, none, .b2s (.s 18), .none⟩,
      ⟨some 20, none, .mv (.s 3), .none⟩,
      ⟨some 21, none, .bin .add (.s 19) (.s 20), .none⟩,
      ⟨some 3, none, .mv (.s 21), .none⟩]))))
def lp93_0 : C := lb93_0
theorem u93_0 (c : Ev.Callee) (l : Ev.Looper) (s : St) : evC c l lp93_0 s = evC c l lb93_0 s := rfl
abbrev st93_0 (m : Nat) (s0 s3 : AV) (h : Heap) : St := ⟨m, [s0, .unk, .unk, s3, .unk, .unk, .unk, .unk, .unk, .unk, .unk, .unk, .unk, .unk, .unk, .unk, .unk, .unk, .unk, .unk, .unk, .unk, .unk], h⟩
@[go_sem] theorem ks93_0 (v0 v1 v2 v3 v4 v5 v6 v7 v8 v9 v10 v11 v12 v13 v14 v15 v16 v17 v18 v19 v20 v21 v22 : AV) : keepS [0, 3] [v0, v1, v2, v3, v4, v5, v6, v7, v8, v9, v10, v11, v12, v13, v14, v15, v16, v17, v18, v19, v20, v21, v22] 0 = [v0, .unk, .unk, v3, .unk, .unk, .unk, .unk, .unk, .unk, .unk, .unk, .unk, .unk, .unk, .unk, .unk, .unk, .unk, .unk, .unk, .unk, .unk] := rfl
@[go_sem] theorem ks93_1 (v0 v1 v2 v3 v4 v5 v6 v7 v8 v9 v10 v11 v12 v13 v14 v15 v16 v17 v18 v19 v20 v21 v22 : AV) : keepS [3] [v0, v1, v2, v3, v4, v5, v6, v7, v8, v9, v10, v11, v12, v13, v14, v15, v16, v17, v18, v19, v20, v21, v22] 0 = [.unk, .unk, .unk, v3, .unk, .unk, .unk, .unk, .unk, .unk, .unk, .unk, .unk, .unk, .unk, .unk, .unk, .unk, .unk, .unk, .unk, .unk, .unk] := rfl
/-- spence/spenceref01.digits -/
def bd93 : C :=
  (.seq (.reg [⟨some 2, none, .mv (.c (.d (.str []))), .none⟩])
  (.seq (.reg [⟨some 4, none, .mv (.s 0), .none⟩,
      ⟨some 5, none, .bin .rem (.s 4) (.c (.d (.int .u64 10))), .none⟩,
      ⟨some 6, none, .bin .add (.c (.d (.int .u64 48))) (.s 5), .none⟩,
      ⟨some 7, none, .cvi .u8 (.s 6), .none⟩,
      ⟨some 8, none, .bsl 5 1 1 [.int .u8 0] [(0, (1, .s 7))], .none⟩,
      ⟨some 9, none, .b2s (.s 8), .none⟩,
      ⟨some 3, none, .mv (.s 9), .none⟩])
  (.seq (.block 0 (.loop [0, 3] lp93_0))
  (.seq (.reg [⟨some 22, none, .mv (.s 3), .none⟩,
      ⟨some 2, none, .mv (.s 22), .none⟩])
  (.ret none)))))
def ir93 : F := { n := 23, res := [.tmp 2], body := bd93 }
@[go_sem] theorem n93 : ir93.n = 23 := rfl
@[go_sem] theorem r93 : ir93.res = [.tmp 2] := rfl
@[go_sem] theorem b93 : ir93.body = bd93 := rfl
@[go_sem] theorem ks94_0 (v0 v1 v2 v3 v4 v5 v6 v7 v8 v9 v10 v11 v12 v13 v14 v15 v16 v17 v18 v19 v20 v21 v22 : AV) : keepS [0, 3, 4] [v0, v1, v2, v3, v4, v5, v6, v7, v8, v9, v10, v11, v12, v13, v14, v15, v16, v17, v18, v19, v20, v21, v22] 0 = [v0, .unk, .unk, v3, v4, .unk, .unk, .unk, .unk, .unk, .unk, .unk, .unk, .unk, .unk, .unk, .unk, .unk, .unk, .unk, .unk, .unk, .unk] := rfl
@[go_sem] theorem ks94_1 (v0 v1 v2 v3 v4 v5 v6 v7 v8 v9 v10 v11 v12 v13 v14 v15 v16 v17 v18 v19 v20 v21 v22 : AV) : keepS [0, 11] [v0, v1, v2, v3, v4, v5, v6, v7, v8, v9, v10, v11, v12, v13, v14, v15, v16, v17, v18, v19, v20, v21, v22] 0 = [v0, .unk, .unk, .unk, .unk, .unk, .unk, .unk, .unk, .unk, .unk, v11, .unk, .unk, .unk, .unk, .unk, .unk, .unk, .unk, .unk, .unk, .unk] := rfl
/-- spence/text.part -/
def bd94 : C :=
  (.seq (.reg [⟨some 2, none, .mv (.c (.d (.bool false))), .none⟩])
  (.seq (.seq (.reg [⟨some 3, none, .mv (.s 0), .none⟩])
   (.block 0 (.seq (.block 2 (.block 1 (.seq (.seq (.seq (.seq (.reg [⟨some 5, none, .bin .eql (.s 3) (.c (.d (.int .u8 33))), .none⟩,
              ⟨some 4, none, .mv (.s 5), .none⟩])
          (.cond (.s 4)
           .skip
           (.seq (.reg [⟨some 6, none, .bin .eql (.s 3) (.c (.d (.int .u8 35))), .none⟩,
               ⟨some 4, none, .mv (.s 6), .none⟩])
           (.cond (.s 4)
            .skip
            (.seq (.reg [⟨some 7, none, .bin .eql (.s 3) (.c (.d (.int .u8 36))), .none⟩,
                ⟨some 4, none, .mv (.s 7), .none⟩])
            (.cond (.s 4)
             .skip
             (.seq (.reg [⟨some 8, none, .bin .eql (.s 3) (.c (.d (.int .u8 37))), .none⟩,
                 ⟨some 4, none, .mv (.s 8), .none⟩])
             (.cond (.s 4)
              .skip
              (.seq (.reg [⟨some 9, none, .bin .eql (.s 3) (.c (.d (.int .u8 38))), .none⟩,
                  ⟨some 4, none, .mv (.s 9), .none⟩])
              (.cond (.s 4)
               .skip
               (.reg [⟨some 10, none, .bin .eql (.s 3) (.c (.d (.int .u8 39))), .none⟩,
                  ⟨some 4, none, .mv (.s 10), .none⟩])))))))))))
         (.ann [0, 3, 4] (.cond (.s 4)
          (.exit 1 none)
          .skip)))
        (.seq (.seq (.reg [⟨some 12, none, .bin .eql (.s 3) (.c (.d (.int .u8 42))), .none⟩,
             ⟨some 11, none, .mv (.s 12), .none⟩])
         (.cond (.s 11)
          .skip
          (.seq (.reg [⟨some 13, none, .bin .eql (.s 3) (.c (.d (.int .u8 43))), .none⟩,
              ⟨some 11, none, .mv (.s 13), .none⟩])
          (.cond (.s 11)
           .skip
           (.seq (.reg [⟨some 14, none, .bin .eql (.s 3) (.c (.d (.int .u8 45))), .none⟩,
               ⟨some 11, none, .mv (.s 14), .none⟩])
           (.cond (.s 11)
            .skip
            (.seq (.reg [⟨some 15, none, .bin .eql (.s 3) (.c (.d (.int .u8 46))), .none⟩,
                ⟨some 11, none, .mv (.s 15), .none⟩])
            (.cond (.s 11)
             .skip
             (.seq (.reg [⟨some 16, none, .bin .eql (.s 3) (.c (.d (.int .u8 94))), .none⟩,
                 ⟨some 11, none, .mv (.s 16), .none⟩])
             (.cond (.s 11)
              .skip
              (.seq (.reg [⟨some 17, none, .bin .eql (.s 3) (.c (.d (.int .u8 95))), .none⟩,
                  ⟨some 11, none, .mv (.s 17), .none⟩])
              (.cond (.s 11)
               .skip
               (.seq (.reg [⟨some 18, none, .bin .eql (.s 3) (.c (.d (.int .u8 96))), .none⟩,
                   ⟨some 11, none, .mv (.s 18), .none⟩])
               (.cond (.s 11)
                .skip
                (.seq (.reg [⟨some 19, none, .bin .eql (.s 3) (.c (.d (.int .u8 124))), .none⟩,
                    ⟨some 11, none, .mv (.s 19), .none⟩])
                (.cond (.s 11)
                 .skip
                 (.reg [⟨some 20, none, .bin .eql (.s 3) (.c (.d (.int .u8 126))), .none⟩,
                    ⟨some 11, none, .mv (.s 20), .none⟩])))))))))))))))))
        (.ann [0, 11] (.cond (.s 11)
         (.exit 2 none)
         .skip))))
       (.exit 0 none))))
    (.seq (.seq (.reg [⟨some 2, none, .mv (.c (.d (.bool true))), .none⟩])
     (.ret none))
    (.exit 0 none)))))
  (.seq (.reg [⟨some 21, none, .mv (.s 0), .none⟩,
      ⟨some 22, none, .call 122 [.s 21] 2, .none⟩,
      ⟨some 2, none, .mv (.s 22), .none⟩])
  (.ret none))))
def ir94 : F := { n := 23, res := [.tmp 2], body := bd94 }
@[go_sem] theorem n94 : ir94.n = 23 := rfl
@[go_sem] theorem r94 : ir94.res = [.tmp 2] := rfl
@[go_sem] theorem b94 : ir94.body = bd94 := rfl
/-- spence/crange.Right -/
def bd98 : C :=
  (.seq (.reg [⟨some 1, none, .box 88 (.s 0), .none⟩,
      ⟨some 2, none, .mv (.c (.d (.bool false))), .none⟩])
  (.seq (.seq (.reg [⟨some 3, none, .fa (.s 1) 3, .none⟩,
       ⟨some 4, none, .ld (.s 3) 1 false, .none⟩,
       ⟨some 5, none, .bin .neq (.s 4) (.c (.d (.int .i64 (-1)))), .none⟩,
       ⟨some 6, none, .mv (.s 5), .none⟩,
       ⟨some 7, some (6, true), .fa (.s 1) 3, .none⟩,
       ⟨some 8, some (6, true), .ld (.s 7) 1 false, .none⟩,
       ⟨some 9, some (6, true), .call 79 [.s 8, .c (.d (.int .i64 0)), .c (.d (.int .i64 4611686018427387903))] 2, .none⟩,
       ⟨some 10, some (6, true), .un .not (.s 9), .none⟩,
       ⟨some 11, none, .pick (.s 6) (.s 10) (.c (.d (.bool false))), .none⟩])
   (.cond (.s 11)
    (.seq (.reg [⟨some 2, none, .mv (.c (.d (.bool false))), .none⟩])
    (.ret none))
    .skip))
  (.seq (.seq (.reg [⟨some 12, none, .fa (.s 1) 0, .none⟩,
       ⟨some 13, none, .ld (.s 12) 1 false, .none⟩,
       ⟨some 14, none, .un .not (.s 13), .none⟩])
   (.cond (.s 14)
    (.seq (.reg [⟨some 15, none, .fa (.s 1) 1, .none⟩,
        ⟨some 16, none, .ld (.s 15) 2 true, .none⟩,
        ⟨some 17, none, .build [.int .i64 0, .int .i64 0] [], .none⟩,
        ⟨some 18, none, .eqs false [1, 1] (.s 16) (.s 17), .none⟩,
        ⟨some 19, none, .mv (.s 18), .none⟩,
        ⟨some 20, some (19, true), .fa (.s 1) 3, .none⟩,
        ⟨some 21, some (19, true), .ld (.s 20) 1 false, .none⟩,
        ⟨some 22, some (19, true), .bin .neq (.s 21) (.c (.d (.int .i64 (-1)))), .none⟩,
        ⟨some 23, none, .pick (.s 19) (.s 22) (.c (.d (.bool false))), .none⟩,
        ⟨some 2, none, .mv (.s 23), .none⟩])
    (.ret none))
    .skip))
  (.seq (.reg [⟨some 24, none, .fa (.s 1) 1, .none⟩,
      ⟨some 25, none, .ld (.s 24) 2 true, .none⟩,
      ⟨some 26, none, .call 39 [.s 25] 2, .none⟩,
      ⟨some 27, none, .mv (.s 26), .none⟩,
      ⟨some 28, some (27, true), .fa (.s 1) 3, .none⟩,
      ⟨some 29, some (27, true), .ld (.s 28) 1 false, .none⟩,
      ⟨some 30, some (27, true), .bin .eql (.s 29) (.c (.d (.int .i64 (-1)))), .none⟩,
      ⟨some 31, some (27, true), .mv (.s 30), .none⟩,
      ⟨some 32, some (31, false), .fa (.s 1) 1, .none⟩,
      ⟨some 33, some (31, false), .fa (.s 32) 1, .none⟩,
      ⟨some 34, some (31, false), .ld (.s 33) 1 false, .none⟩,
      ⟨some 35, some (31, false), .fa (.s 1) 3, .none⟩,
      ⟨some 36, some (31, false), .ld (.s 35) 1 false, .none⟩,
      ⟨some 37, some (31, false), .bin .leq (.s 34) (.s 36), .none⟩,
      ⟨some 38, some (27, true), .pick (.s 31) (.c (.d (.bool true))) (.s 37), .none⟩,
      ⟨some 39, none, .pick (.s 27) (.s 38) (.c (.d (.bool false))), .none⟩,
      ⟨some 2, none, .mv (.s 39), .none⟩])
  (.ret none)))))
def ir98 : F := { n := 40, res := [.tmp 2], body := bd98 }
@[go_sem] theorem n98 : ir98.n = 40 := rfl
@[go_sem] theorem r98 : ir98.res = [.tmp 2] := rfl
@[go_sem] theorem b98 : ir98.body = bd98 := rfl
def lb99_0 : C :=
  (.block 1 (.seq (.reg [⟨some 12, none, .mv (.s 5), .none⟩,
       ⟨some 13, none, .mv (.s 3), .none⟩,
       ⟨some 14, none, .bin .rem (.s 13) (.c (.d (.int .u64 10))), .none⟩,
       ⟨some 15, none, .bin .add (.c (.d (.int .u64 48))) (.s 14), .none⟩,
       ⟨some 16, none, .cvi .u8 (.s 15), .none⟩,
       ⟨some 17, none, .bsl 5 1 1 [.int .u8 0] [(0, (1, .s 16))], .none⟩,
       ⟨some 18, none, .app 5 1 1 (.s 12) (.s 17), .none⟩,
       ⟨some 5, none, .mv (.s 18), .none⟩])
   (.seq (.reg [⟨some 19, none, .mv (.s 3), .none⟩,
       ⟨some 20, none, .bin .quo (.s 19) (.c (.d (.int .u64 10))), .none⟩,
       ⟨some 3, none, .mv (.s 20), .none⟩])
   (.seq (.reg [⟨some 21, none, .mv (.s 3), .none⟩,
       ⟨some 22, none, .bin .eql (.s 21) (.c (.d (.int .u64 0))), .none⟩])
   (.cond (.s 22)
    (.exit 0 (some [4, 5]))
    .skip)))))
def lp99_0 : C := lb99_0
theorem u99_0 (c : Ev.Callee) (l : Ev.Looper) (s : St) : evC c l lp99_0 s = evC c l lb99_0 s := rfl
abbrev st99_0 (m : Nat) (s3 s4 s5 : AV) (h : Heap) : St := ⟨m, [.unk, .unk, .unk, s3, s4, s5, .unk, .unk, .unk, .unk, .unk, .unk, .unk, .unk, .unk, .unk, .unk, .unk, .unk, .unk, .unk, .unk, .unk, .unk, .unk, .unk, .unk, .unk, .unk], h⟩
@[go_sem] theorem ks99_0 (v0 v1 v2 v3 v4 v5 v6 v7 v8 v9 v10 v11 v12 v13 v14 v15 v16 v17 v18 v19 v20 v21 v22 v23 v24 v25 v26 v27 v28 : AV) : keepS [3, 4] [v0, v1, v2, v3, v4, v5, v6, v7, v8, v9, v10, v11, v12, v13, v14, v15, v16, v17, v18, v19, v20, v21, v22, v23, v24, v25, v26, v27, v28] 0 = [.unk, .unk, .unk, v3, v4, .unk, .unk, .unk, .unk, .unk, .unk, .unk, .unk, .unk, .unk, .unk, .unk, .unk, .unk, .unk, .unk, .unk, .unk, .unk, .unk, .unk, .unk, .unk, .unk] := rfl
@[go_sem] theorem ks99_1 (v0 v1 v2 v3 v4 v5 v6 v7 v8 v9 v10 v11 v12 v13 v14 v15 v16 v17 v18 v19 v20 v21 v22 v23 v24 v25 v26 v27 v28 : AV) : keepS [3, 4, 5] [v0, v1, v2, v3, v4, v5, v6, v7, v8, v9, v10, v11, v12, v13, v14, v15, v16, v17, v18, v19, v20, v21, v22, v23, v24, v25, v26, v27, v28] 0 = [.unk, .unk, .unk, v3, v4, v5, .unk, .unk, .unk, .unk, .unk, .unk, .unk, .unk, .unk, .unk, .unk, .unk, .unk, .unk, .unk, .unk, .unk, .unk, .unk, .unk, .unk, .unk, .unk] := rfl
@[go_sem] theorem ks99_2 (v0 v1 v2 v3 v4 v5 v6 v7 v8 v9 v10 v11 v12 v13 v14 v15 v16 v17 v18 v19 v20 v21 v22 v23 v24 v25 v26 v27 v28 : AV) : keepS [4, 5] [v0, v1, v2, v3, v4, v5, v6, v7, v8, v9, v10, v11, v12, v13, v14, v15, v16, v17, v18, v19, v20, v21, v22, v23, v24, v25, v26, v27, v28] 0 = [.unk, .unk, .unk, .unk, v4, v5, .unk, .unk, .unk, .unk, .unk, .unk, .unk, .unk, .unk, .unk, .unk, .unk, .unk, .unk, .unk, .unk, .unk, .unk, .unk, .unk, .unk, .unk, .unk] := rfl
/-- spence/nums.Print -/
def bd99 : C :=
  (.seq (.reg [⟨some 2, none, .mv (.c (.d (.str []))), .none⟩])
  (.seq (.reg [⟨some 6, none, .mv (.s 0), .none⟩,
      ⟨some 7, none, .cvi .u64 (.s 6), .none⟩,
      ⟨some 3, none, .mv (.s 7), .none⟩,
      ⟨some 4, none, .mv (.c (.d (.str []))), .none⟩])
  (.seq (.seq (.reg [⟨some 8, none, .mv (.s 0), .none⟩,
       ⟨some 9, none, .bin .lss (.s 8) (.c (.d (.int .i64 0))), .none⟩])
   (.cond (.s 9)
    (.reg [⟨some 10, none, .mv (.s 3), .none⟩,
       ⟨some 11, none, .un .neg (.s 10), .none⟩,
       ⟨some 3, none, .mv (.s 11), .none⟩,
       ⟨some 4, none, .mv (.c (.d (.str [45]))), .none⟩])
    .skip))
  (.ann [3, 4] (.seq (.reg [⟨some 5, none, .mv (.c (.d .nils)), .one 1 true⟩])
  (.seq (.block 0 (.loop [3, 4, 5] lp99_0))
  (.seq (.reg [⟨some 23, none, .mv (.s 5), .none⟩,
      ⟨some 24, none, .call 124 [.s 23] 1, .none⟩])
  (.seq (.reg [⟨some 25, none, .mv (.s 4), .none⟩,
      ⟨some 26, none, .mv (.s 5), .none⟩,
      ⟨some 27, none, .b2s (.s 26), .none⟩,
      ⟨some 28, none, .bin .add (.s 25) (.s 27), .none⟩,
      ⟨some 2, none, .mv (.s 28), .none⟩])
  (.ret none)))))))))
def ir99 : F := { n := 29, res := [.tmp 2], body := bd99 }
@[go_sem] theorem n99 : ir99.n = 29 := rfl
@[go_sem] theorem r99 : ir99.res = [.tmp 2] := rfl
@[go_sem] theorem b99 : ir99.body = bd99 := rfl
/-- spence/text.letter -/
def bd122 : C :=
  (.seq (.reg [⟨some 2, none, .mv (.c (.d (.bool false))), .none⟩])
  (.seq (.reg [⟨some 3, none, .mv (.s 0), .none⟩,
      ⟨some 4, none, .bin .geq (.s 3) (.c (.d (.int .u8 97))), .none⟩,
      ⟨some 5, none, .mv (.s 4), .none⟩,
      ⟨some 6, some (5, true), .mv (.s 0), .none⟩,
      ⟨some 7, some (5, true), .bin .leq (.s 6) (.c (.d (.int .u8 122))), .none⟩,
      ⟨some 8, none, .pick (.s 5) (.s 7) (.c (.d (.bool false))), .none⟩,
      ⟨some 9, none, .mv (.s 8), .none⟩,
      ⟨some 10, some (9, false), .mv (.s 0), .none⟩,
      ⟨some 11, some (9, false), .bin .geq (.s 10) (.c (.d (.int .u8 65))), .none⟩,
      ⟨some 12, some (9, false), .mv (.s 11), .none⟩,
      ⟨some 13, some (12, true), .mv (.s 0), .none⟩,
      ⟨some 14, some (12, true), .bin .leq (.s 13) (.c (.d (.int .u8 90))), .none⟩,
      ⟨some 15, some (9, false), .pick (.s 12) (.s 14) (.c (.d (.bool false))), .none⟩,
      ⟨some 16, none, .pick (.s 9) (.c (.d (.bool true))) (.s 15), .none⟩,
      ⟨some 17, none, .mv (.s 16), .none⟩,
      ⟨some 18, some (17, false), .mv (.s 0), .none⟩,
      ⟨some 19, some (17, false), .bin .geq (.s 18) (.c (.d (.int .u8 48))), .none⟩,
      ⟨some 20, some (17, false), .mv (.s 19), .none⟩,
      ⟨some 21, some (20, true), .mv (.s 0), .none⟩,
      ⟨some 22, some (20, true), .bin .leq (.s 21) (.c (.d (.int .u8 57))), .none⟩,
      ⟨some 23, some (17, false), .pick (.s 20) (.s 22) (.c (.d (.bool false))), .none⟩,
      ⟨some 24, none, .pick (.s 17) (.c (.d (.bool true))) (.s 23), .none⟩,
      ⟨some 2, none, .mv (.s 24), .none⟩])
  (.ret none)))
def ir122 : F := { n := 25, res := [.tmp 2], body := bd122 }
@[go_sem] theorem n122 : ir122.n = 25 := rfl
@[go_sem] theorem r122 : ir122.res = [.tmp 2] := rfl
@[go_sem] theorem b122 : ir122.body = bd122 := rfl
def lb124_0 : C :=
  (.seq (.seq (.reg [⟨some 7, none, .mv (.s 2), .none⟩,
       ⟨some 8, none, .mv (.s 3), .none⟩,
       ⟨some 9, none, .bin .lss (.s 7) (.s 8), .none⟩])
   (.cond (.s 9)
    .skip
    (.exit 0 (some []))))
  (.seq (.block 1 (.drw [⟨some 14, none, .mv (.s 0), .none⟩,
       ⟨some 15, none, .mv (.s 2), .none⟩,
       ⟨some 16, none, .mv (.s 0), .none⟩,
       ⟨some 17, none, .mv (.s 3), .none⟩,
       ⟨some 18, none, .mv (.s 0), .none⟩,
       ⟨some 19, none, .mv (.s 3), .none⟩,
       ⟨some 20, none, .is (.s 18) (.s 19) 1, .none⟩,
       ⟨some 21, none, .ld (.s 20) 1 false, .none⟩,
       ⟨some 22, none, .mv (.s 0), .none⟩,
       ⟨some 23, none, .mv (.s 2), .none⟩,
       ⟨some 24, none, .is (.s 22) (.s 23) 1, .none⟩,
       ⟨some 25, none, .ld (.s 24) 1 false, .none⟩,
       ⟨some 26, none, .is (.s 14) (.s 15) 1, .none⟩,
       ⟨none, none, .st (.s 26) (.s 21) 1, .none⟩,
       ⟨some 27, none, .is (.s 16) (.s 17) 1, .none⟩,
       ⟨none, none, .st (.s 27) (.s 25) 1, .none⟩]
      [[], [], [], [], [], [], [4, 5], [6], [], [], [8, 9], [10], [0, 1, 0, 1, 4, 5, 6, 7, 11], [12, 7, 0, 1, 4, 5, 6, 7, 11], [2, 3, 0, 1, 2, 3, 4, 5, 6, 7, 8, 9, 10, 11, 12, 13], [14, 11, 13, 0, 1, 2, 3, 4, 5, 6, 7, 8, 9, 10, 11, 12, 13]] []))
  (.reg [⟨some 10, none, .mv (.s 2), .none⟩,
     ⟨some 11, none, .bin .add (.s 10) (.c (.d (.int .i64 1))), .none⟩,
     ⟨some 12, none, .mv (.s 3), .none⟩,
     ⟨some 13, none, .bin .sub (.s 12) (.c (.d (.int .i64 1))), .none⟩,
     ⟨some 2, none, .mv (.s 11), .none⟩,
     ⟨some 3, none, .mv (.s 13), .none⟩])))
def lp124_0 : C := lb124_0
theorem u124_0 (c : Ev.Callee) (l : Ev.Looper) (s : St) : evC c l lp124_0 s = evC c l lb124_0 s := rfl
abbrev st124_0 (m : Nat) (s0 s2 s3 : AV) (h : Heap) : St := ⟨m, [s0, .unk, s2, s3, .unk, .unk, .unk, .unk, .unk, .unk, .unk, .unk, .unk, .unk, .unk, .unk, .unk, .unk, .unk, .unk, .unk, .unk, .unk, .unk, .unk, .unk, .unk, .unk], h⟩
@[go_sem] theorem ks124_0 (v0 v1 v2 v3 v4 v5 v6 v7 v8 v9 v10 v11 v12 v13 v14 v15 v16 v17 v18 v19 v20 v21 v22 v23 v24 v25 v26 v27 : AV) : keepS [0, 2, 3] [v0, v1, v2, v3, v4, v5, v6, v7, v8, v9, v10, v11, v12, v13, v14, v15, v16, v17, v18, v19, v20, v21, v22, v23, v24, v25, v26, v27] 0 = [v0, .unk, v2, v3, .unk, .unk, .unk, .unk, .unk, .unk, .unk, .unk, .unk, .unk, .unk, .unk, .unk, .unk, .unk, .unk, .unk, .unk, .unk, .unk, .unk, .unk, .unk, .unk] := rfl
@[go_sem] theorem ks124_1 (v0 v1 v2 v3 v4 v5 v6 v7 v8 v9 v10 v11 v12 v13 v14 v15 v16 v17 v18 v19 v20 v21 v22 v23 v24 v25 v26 v27 : AV) : keepS [] [v0, v1, v2, v3, v4, v5, v6, v7, v8, v9, v10, v11, v12, v13, v14, v15, v16, v17, v18, v19, v20, v21, v22, v23, v24, v25, v26, v27] 0 = [.unk, .unk, .unk, .unk, .unk, .unk, .unk, .unk, .unk, .unk, .unk, .unk, .unk, .unk, .unk, .unk, .unk, .unk, .unk, .unk, .unk, .unk, .unk, .unk, .unk, .unk, .unk, .unk] := rfl
/-- slices.Reverse[[]byte,byte] -/
def bd124 : C :=
  (.seq (.reg [⟨some 4, none, .mv (.s 0), .none⟩,
      ⟨some 5, none, .len (.s 4), .none⟩,
      ⟨some 6, none, .bin .sub (.s 5) (.c (.d (.int .i64 1))), .none⟩,
      ⟨some 2, none, .mv (.c (.d (.int .i64 0))), .none⟩,
      ⟨some 3, none, .mv (.s 6), .none⟩])
  (.block 0 (.loop [0, 2, 3] lp124_0)))
def ir124 : F := { n := 28, res := [], body := bd124 }
@[go_sem] theorem n124 : ir124.n = 28 := rfl
@[go_sem] theorem r124 : ir124.res = [] := rfl
@[go_sem] theorem b124 : ir124.body = bd124 := rfl

def irf : FuncId → Option F
  | 3 => some ir3
  | 9 => some ir9
  | 10 => some ir10
  | 12 => some ir12
  | 13 => some ir13
  | 14 => some ir14
  | 15 => some ir15
  | 16 => some ir16
  | 19 => some ir19
  | 32 => some ir32
  | 33 => some ir33
  | 35 => some ir35
  | 38 => some ir38
  | 39 => some ir39
  | 40 => some ir40
  | 41 => some ir41
  | 45 => some ir45
  | 64 => some ir64
  | 65 => some ir65
  | 68 => some ir68
  | 69 => some ir69
  | 79 => some ir79
  | 93 => some ir93
  | 94 => some ir94
  | 98 => some ir98
  | 99 => some ir99
  | 122 => some ir122
  | 124 => some ir124
  | _ => none
def ir : IR := ⟨irf, fun _ _ _ => none⟩
theorem c3 : cF Tryd.prog 3 = some ir3.strip := by kernel_rfl
theorem k3 : ir3.body.okD = true := by kernel_rfl
theorem c9 : cF Tryd.prog 9 = some ir9.strip := by kernel_rfl
theorem k9 : ir9.body.okD = true := by kernel_rfl
theorem c10 : cF Tryd.prog 10 = some ir10.strip := by kernel_rfl
theorem k10 : ir10.body.okD = true := by kernel_rfl
theorem c12 : cF Tryd.prog 12 = some ir12.strip := by kernel_rfl
theorem k12 : ir12.body.okD = true := by kernel_rfl
theorem c13 : cF Tryd.prog 13 = some ir13.strip := by kernel_rfl
theorem k13 : ir13.body.okD = true := by kernel_rfl
theorem c14 : cF Tryd.prog 14 = some ir14.strip := by kernel_rfl
theorem k14 : ir14.body.okD = true := by kernel_rfl
theorem c15 : cF Tryd.prog 15 = some ir15.strip := by kernel_rfl
theorem k15 : ir15.body.okD = true := by kernel_rfl
theorem c16 : cF Tryd.prog 16 = some ir16.strip := by kernel_rfl
theorem k16 : ir16.body.okD = true := by kernel_rfl
theorem c19 : cF Tryd.prog 19 = some ir19.strip := by kernel_rfl
theorem k19 : ir19.body.okD = true := by kernel_rfl
theorem c32 : cF Tryd.prog 32 = some ir32.strip := by kernel_rfl
theorem k32 : ir32.body.okD = true := by kernel_rfl
theorem c33 : cF Tryd.prog 33 = some ir33.strip := by kernel_rfl
theorem k33 : ir33.body.okD = true := by kernel_rfl
theorem c35 : cF Tryd.prog 35 = some ir35.strip := by kernel_rfl
theorem k35 : ir35.body.okD = true := by kernel_rfl
theorem c38 : cF Tryd.prog 38 = some ir38.strip := by kernel_rfl
theorem k38 : ir38.body.okD = true := by kernel_rfl
theorem c39 : cF Tryd.prog 39 = some ir39.strip := by kernel_rfl
theorem k39 : ir39.body.okD = true := by kernel_rfl
theorem c40 : cF Tryd.prog 40 = some ir40.strip := by kernel_rfl
theorem k40 : ir40.body.okD = true := by kernel_rfl
theorem c41 : cF Tryd.prog 41 = some ir41.strip := by kernel_rfl
theorem k41 : ir41.body.okD = true := by kernel_rfl
theorem c45 : cF Tryd.prog 45 = some ir45.strip := by kernel_rfl
theorem k45 : ir45.body.okD = true := by kernel_rfl
theorem c64 : cF Tryd.prog 64 = some ir64.strip := by kernel_rfl
theorem k64 : ir64.body.okD = true := by kernel_rfl
theorem c65 : cF Tryd.prog 65 = some ir65.strip := by kernel_rfl
theorem k65 : ir65.body.okD = true := by kernel_rfl
theorem c68 : cF Tryd.prog 68 = some ir68.strip := by kernel_rfl
theorem k68 : ir68.body.okD = true := by kernel_rfl
theorem c69 : cF Tryd.prog 69 = some ir69.strip := by kernel_rfl
theorem k69 : ir69.body.okD = true := by kernel_rfl
theorem c79 : cF Tryd.prog 79 = some ir79.strip := by kernel_rfl
theorem k79 : ir79.body.okD = true := by kernel_rfl
theorem c93 : cF Tryd.prog 93 = some ir93.strip := by kernel_rfl
theorem k93 : ir93.body.okD = true := by kernel_rfl
theorem c94 : cF Tryd.prog 94 = some ir94.strip := by kernel_rfl
theorem k94 : ir94.body.okD = true := by kernel_rfl
theorem c98 : cF Tryd.prog 98 = some ir98.strip := by kernel_rfl
theorem k98 : ir98.body.okD = true := by kernel_rfl
theorem c99 : cF Tryd.prog 99 = some ir99.strip := by kernel_rfl
theorem k99 : ir99.body.okD = true := by kernel_rfl
theorem c122 : cF Tryd.prog 122 = some ir122.strip := by kernel_rfl
theorem k122 : ir122.body.okD = true := by kernel_rfl
theorem c124 : cF Tryd.prog 124 = some ir124.strip := by kernel_rfl
theorem k124 : ir124.body.okD = true := by kernel_rfl
theorem tab : Tab Tryd.prog ir := by
  refine ⟨by kernel_rfl, fun f fn h => ?_, fun f args H r H2 h => by simp [ir] at h⟩
  change irf f = some fn at h
  unfold irf at h
  split at h
  · cases h; exact ⟨c3, k3⟩
  · cases h; exact ⟨c9, k9⟩
  · cases h; exact ⟨c10, k10⟩
  · cases h; exact ⟨c12, k12⟩
  · cases h; exact ⟨c13, k13⟩
  · cases h; exact ⟨c14, k14⟩
  · cases h; exact ⟨c15, k15⟩
  · cases h; exact ⟨c16, k16⟩
  · cases h; exact ⟨c19, k19⟩
  · cases h; exact ⟨c32, k32⟩
  · cases h; exact ⟨c33, k33⟩
  · cases h; exact ⟨c35, k35⟩
  · cases h; exact ⟨c38, k38⟩
  · cases h; exact ⟨c39, k39⟩
  · cases h; exact ⟨c40, k40⟩
  · cases h; exact ⟨c41, k41⟩
  · cases h; exact ⟨c45, k45⟩
  · cases h; exact ⟨c64, k64⟩
  · cases h; exact ⟨c65, k65⟩
  · cases h; exact ⟨c68, k68⟩
  · cases h; exact ⟨c69, k69⟩
  · cases h; exact ⟨c79, k79⟩
  · cases h; exact ⟨c93, k93⟩
  · cases h; exact ⟨c94, k94⟩
  · cases h; exact ⟨c98, k98⟩
  · cases h; exact ⟨c99, k99⟩
  · cases h; exact ⟨c122, k122⟩
  · cases h; exact ⟨c124, k124⟩
  · cases h
end Go.Proofs.YtpibecljdooilaaDoor.Ir
