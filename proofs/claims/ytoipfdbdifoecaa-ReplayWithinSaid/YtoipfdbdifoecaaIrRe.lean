/- The texts of the functions in the small language. Printed by a program of my own (irgen.py). -/
import Derived.Test.YtoipfdbdifoecaaEvSim
import Derived.Test.YtoipfdbdifoecaaProg
import Derived.Test.YtoipfdbdifoecaaEvNatM
import Derived.Test.YtoipfdbdifoecaaEvNatS
import Derived.Test.YtoipfdbdifoecaaShMap
import Derived.Test.YtoipfdbdifoecaaShSort
namespace Go.Proofs.Ytoipfdbdifoecaa.Ir
open Go Go.Ev
set_option maxRecDepth 10000

def lb3_0 : C :=
  (.seq (.reg [⟨some 18, none, .bin .lss (.s 17) (.s 16), .none⟩])
  (.seq (.cond (.s 18)
    .skip
    (.exit 0 (some [0, 1, 5, 6])))
  (.seq (.block 1 (.seq (.reg [⟨some 19, none, .is (.s 15) (.s 17) 6, .none⟩,
        ⟨some 20, none, .ld (.s 19) 6 true, .none⟩,
        ⟨some 8, none, .alloc 30 [.int .i64 0, .int .i64 0, .int .u64 0, .int .i64 0, .int .u8 0, .nils], .cells [(5, 1, false)]⟩,
        ⟨none, none, .st (.s 8) (.s 20) 6, .none⟩])
    (.seq (.reg [⟨some 21, none, .fa (.s 8) 4, .none⟩,
        ⟨some 22, none, .ld (.s 21) 1 false, .none⟩,
        ⟨some 23, none, .bin .eql (.s 22) (.c (.d (.int .u8 3))), .none⟩])
    (.cond (.s 23)
     (.reg [⟨some 24, none, .mv (.s 5), .none⟩,
        ⟨some 25, none, .ld (.s 8) 6 true, .none⟩,
        ⟨some 26, none, .bsl 30 6 1 [.int .i64 0, .int .i64 0, .int .u64 0, .int .i64 0, .int .u8 0, .nils] [(0, (6, .s 25))], .none⟩,
        ⟨some 27, none, .app 30 6 64 (.s 24) (.s 26), .none⟩,
        ⟨some 5, none, .mv (.s 27), .none⟩])
     (.reg [⟨some 28, none, .mv (.s 6), .none⟩,
        ⟨some 29, none, .ld (.s 8) 6 true, .none⟩,
        ⟨some 30, none, .bsl 30 6 1 [.int .i64 0, .int .i64 0, .int .u64 0, .int .i64 0, .int .u8 0, .nils] [(0, (6, .s 29))], .none⟩,
        ⟨some 31, none, .app 30 6 64 (.s 28) (.s 30), .none⟩,
        ⟨some 6, none, .mv (.s 31), .none⟩])))))
  (.reg [⟨some 32, none, .bin .add (.s 17) (.c (.d (.int .i64 1))), .none⟩,
     ⟨some 17, none, .mv (.s 32), .none⟩]))))
def lp3_0 : C := lb3_0
theorem u3_0 (c : Ev.Callee) (l : Ev.Looper) (s : St) : evC c l lp3_0 s = evC c l lb3_0 s := rfl
abbrev st3_0 (m : Nat) (s0 s1 s5 s6 s15 s16 s17 : AV) (h : Heap) : St := ⟨m, [s0, s1, .unk, .unk, .unk, s5, s6, .unk, .unk, .unk, .unk, .unk, .unk, .unk, .unk, s15, s16, s17, .unk, .unk, .unk, .unk, .unk, .unk, .unk, .unk, .unk, .unk, .unk, .unk, .unk, .unk, .unk, .unk, .unk, .unk, .unk, .unk, .unk, .unk, .unk, .unk, .unk, .unk, .unk, .unk, .unk], h⟩
@[go_sem] theorem ks3_0 (v0 v1 v2 v3 v4 v5 v6 v7 v8 v9 v10 v11 v12 v13 v14 v15 v16 v17 v18 v19 v20 v21 v22 v23 v24 v25 v26 v27 v28 v29 v30 v31 v32 v33 v34 v35 v36 v37 v38 v39 v40 v41 v42 v43 v44 v45 v46 : AV) : keepS [0, 1, 5, 6, 15, 16, 17] [v0, v1, v2, v3, v4, v5, v6, v7, v8, v9, v10, v11, v12, v13, v14, v15, v16, v17, v18, v19, v20, v21, v22, v23, v24, v25, v26, v27, v28, v29, v30, v31, v32, v33, v34, v35, v36, v37, v38, v39, v40, v41, v42, v43, v44, v45, v46] 0 = [v0, v1, .unk, .unk, .unk, v5, v6, .unk, .unk, .unk, .unk, .unk, .unk, .unk, .unk, v15, v16, v17, .unk, .unk, .unk, .unk, .unk, .unk, .unk, .unk, .unk, .unk, .unk, .unk, .unk, .unk, .unk, .unk, .unk, .unk, .unk, .unk, .unk, .unk, .unk, .unk, .unk, .unk, .unk, .unk, .unk] := rfl
@[go_sem] theorem ks3_1 (v0 v1 v2 v3 v4 v5 v6 v7 v8 v9 v10 v11 v12 v13 v14 v15 v16 v17 v18 v19 v20 v21 v22 v23 v24 v25 v26 v27 v28 v29 v30 v31 v32 v33 v34 v35 v36 v37 v38 v39 v40 v41 v42 v43 v44 v45 v46 : AV) : keepS [0, 1, 5, 6] [v0, v1, v2, v3, v4, v5, v6, v7, v8, v9, v10, v11, v12, v13, v14, v15, v16, v17, v18, v19, v20, v21, v22, v23, v24, v25, v26, v27, v28, v29, v30, v31, v32, v33, v34, v35, v36, v37, v38, v39, v40, v41, v42, v43, v44, v45, v46] 0 = [v0, v1, .unk, .unk, .unk, v5, v6, .unk, .unk, .unk, .unk, .unk, .unk, .unk, .unk, .unk, .unk, .unk, .unk, .unk, .unk, .unk, .unk, .unk, .unk, .unk, .unk, .unk, .unk, .unk, .unk, .unk, .unk, .unk, .unk, .unk, .unk, .unk, .unk, .unk, .unk, .unk, .unk, .unk, .unk, .unk, .unk] := rfl
@[go_sem] theorem ks3_2 (v0 v1 v2 v3 v4 v5 v6 v7 v8 v9 v10 v11 v12 v13 v14 v15 v16 v17 v18 v19 v20 v21 v22 v23 v24 v25 v26 v27 v28 v29 v30 v31 v32 v33 v34 v35 v36 v37 v38 v39 v40 v41 v42 v43 v44 v45 v46 : AV) : keepS [0, 9] [v0, v1, v2, v3, v4, v5, v6, v7, v8, v9, v10, v11, v12, v13, v14, v15, v16, v17, v18, v19, v20, v21, v22, v23, v24, v25, v26, v27, v28, v29, v30, v31, v32, v33, v34, v35, v36, v37, v38, v39, v40, v41, v42, v43, v44, v45, v46] 0 = [v0, .unk, .unk, .unk, .unk, .unk, .unk, .unk, .unk, v9, .unk, .unk, .unk, .unk, .unk, .unk, .unk, .unk, .unk, .unk, .unk, .unk, .unk, .unk, .unk, .unk, .unk, .unk, .unk, .unk, .unk, .unk, .unk, .unk, .unk, .unk, .unk, .unk, .unk, .unk, .unk, .unk, .unk, .unk, .unk, .unk, .unk] := rfl
/-- spence/spencelaw20.ReplayOrder -/
def bd3 : C :=
  (.seq (.reg [⟨some 4, none, .mv (.c (.d (.bool false))), .none⟩])
  (.seq (.seq (.reg [⟨some 10, none, .call 7 [] 2, .none⟩,
       ⟨some 11, none, .un .not (.s 10), .none⟩])
   (.cond (.s 11)
    (.seq (.reg [⟨some 4, none, .mv (.c (.d (.bool false))), .none⟩])
    (.ret none))
    .skip))
  (.seq (.seq (.reg [⟨some 12, none, .mv (.s 0), .none⟩,
       ⟨some 13, none, .call 8 [.s 12] 2, .none⟩,
       ⟨some 14, none, .un .not (.s 13), .none⟩])
   (.cond (.s 14)
    (.seq (.reg [⟨some 4, none, .mv (.c (.d (.bool true))), .none⟩])
    (.ret none))
    .skip))
  (.seq (.reg [⟨some 5, none, .mv (.c (.d .nils)), .one 6 true⟩,
      ⟨some 6, none, .mv (.c (.d .nils)), .one 6 true⟩])
  (.seq (.seq (.reg [⟨some 15, none, .mv (.s 0), .none⟩,
       ⟨some 16, none, .len (.s 15), .none⟩,
       ⟨some 17, none, .mv (.c (.d (.int .i64 0))), .none⟩])
   (.block 0 (.loop [0, 1, 5, 6, 15, 16, 17] lp3_0)))
  (.seq (.reg [⟨some 33, none, .mv (.s 6), .none⟩,
      ⟨some 34, none, .app 30 6 64 (.c (.d .nils)) (.s 33), .none⟩,
      ⟨some 35, none, .mv (.s 5), .none⟩,
      ⟨some 36, none, .app 30 6 64 (.s 34) (.s 35), .none⟩,
      ⟨some 9, none, .mv (.s 36), .none⟩])
  (.seq (.seq (.reg [⟨some 37, none, .mv (.s 1), .none⟩])
   (.cond (.s 37)
    (.reg [⟨some 38, none, .mv (.s 5), .none⟩,
       ⟨some 39, none, .app 30 6 64 (.c (.d .nils)) (.s 38), .none⟩,
       ⟨some 40, none, .mv (.s 6), .none⟩,
       ⟨some 41, none, .app 30 6 64 (.s 39) (.s 40), .none⟩,
       ⟨some 9, none, .mv (.s 41), .none⟩])
    .skip))
  (.ann [0, 9] (.seq (.reg [⟨some 42, none, .mv (.s 0), .none⟩,
      ⟨some 43, none, .call 10 [.s 42] 2, .none⟩,
      ⟨some 44, none, .mv (.s 9), .none⟩,
      ⟨some 45, none, .call 10 [.s 44] 0, .none⟩,
      ⟨some 46, none, .call 9 [.s 43, .s 45] 2, .none⟩,
      ⟨some 4, none, .mv (.s 46), .none⟩])
  (.ret none))))))))))
def ir3 : F := { n := 47, res := [.tmp 4], body := bd3 }
@[go_sem] theorem n3 : ir3.n = 47 := rfl
@[go_sem] theorem r3 : ir3.res = [.tmp 4] := rfl
@[go_sem] theorem b3 : ir3.body = bd3 := rfl
def lb4_1 : C :=
  (.seq (.reg [⟨some 36, none, .bin .lss (.s 35) (.s 34), .none⟩])
  (.seq (.cond (.s 36)
    .skip
    (.exit 2 (some [3, 7])))
  (.seq (.block 3 (.seq (.reg [⟨some 37, none, .is (.s 33) (.s 35) 6, .none⟩,
        ⟨some 38, none, .ld (.s 37) 6 true, .none⟩,
        ⟨some 9, none, .alloc 30 [.int .i64 0, .int .i64 0, .int .u64 0, .int .i64 0, .int .u8 0, .nils], .cells [(5, 1, false)]⟩,
        ⟨none, none, .st (.s 9) (.s 38) 6, .none⟩])
    (.seq (.reg [⟨some 39, none, .ld (.s 7) 192 true, .none⟩,
        ⟨some 40, none, .ld (.s 9) 6 true, .none⟩,
        ⟨some 41, none, .call 11 [.s 39, .s 40] 2, .none⟩,
        ⟨some 42, none, .un .not (.s 41), .none⟩])
    (.cond (.s 42)
     (.seq (.reg [⟨some 2, none, .mv (.c (.d (.bool false))), .none⟩])
     (.ret (some [2])))
     .skip))))
  (.reg [⟨some 43, none, .bin .add (.s 35) (.c (.d (.int .i64 1))), .none⟩,
     ⟨some 35, none, .mv (.s 43), .none⟩]))))
def lp4_1 : C := lb4_1
theorem u4_1 (c : Ev.Callee) (l : Ev.Looper) (s : St) : evC c l lp4_1 s = evC c l lb4_1 s := rfl
abbrev st4_1 (m : Nat) (s3 s7 s33 s34 s35 : AV) (h : Heap) : St := ⟨m, [.unk, .unk, .unk, s3, .unk, .unk, .unk, s7, .unk, .unk, .unk, .unk, .unk, .unk, .unk, .unk, .unk, .unk, .unk, .unk, .unk, .unk, .unk, .unk, .unk, .unk, .unk, .unk, .unk, .unk, .unk, .unk, .unk, s33, s34, s35, .unk, .unk, .unk, .unk, .unk, .unk, .unk, .unk, .unk, .unk, .unk], h⟩
def lb4_0 : C :=
  (.seq (.reg [⟨some 20, none, .bin .lss (.s 19) (.s 18), .none⟩])
  (.seq (.cond (.s 20)
    .skip
    (.exit 0 (some [3, 4])))
  (.seq (.block 1 (.seq (.reg [⟨some 21, none, .is (.s 17) (.s 19) 6, .none⟩,
        ⟨some 22, none, .ld (.s 21) 6 true, .none⟩,
        ⟨some 6, none, .alloc 30 [.int .i64 0, .int .i64 0, .int .u64 0, .int .i64 0, .int .u8 0, .nils], .cells [(5, 1, false)]⟩,
        ⟨none, none, .st (.s 6) (.s 22) 6, .none⟩])
    (.seq (.reg [⟨some 23, none, .ld (.s 3) 192 true, .none⟩,
        ⟨some 24, none, .ld (.s 6) 6 true, .none⟩,
        ⟨some 25, none, .call 11 [.s 23, .s 24] 2, .none⟩])
    (.cond (.s 25)
     (.reg [⟨some 26, none, .mv (.s 4), .none⟩,
        ⟨some 27, none, .ld (.s 6) 6 true, .none⟩,
        ⟨some 28, none, .bsl 30 6 1 [.int .i64 0, .int .i64 0, .int .u64 0, .int .i64 0, .int .u8 0, .nils] [(0, (6, .s 27))], .none⟩,
        ⟨some 29, none, .app 30 6 64 (.s 26) (.s 28), .none⟩,
        ⟨some 4, none, .mv (.s 29), .none⟩])
     .skip))))
  (.reg [⟨some 30, none, .bin .add (.s 19) (.c (.d (.int .i64 1))), .none⟩,
     ⟨some 19, none, .mv (.s 30), .none⟩]))))
def lp4_0 : C := lb4_0
theorem u4_0 (c : Ev.Callee) (l : Ev.Looper) (s : St) : evC c l lp4_0 s = evC c l lb4_0 s := rfl
abbrev st4_0 (m : Nat) (s3 s4 s17 s18 s19 : AV) (h : Heap) : St := ⟨m, [.unk, .unk, .unk, s3, s4, .unk, .unk, .unk, .unk, .unk, .unk, .unk, .unk, .unk, .unk, .unk, .unk, s17, s18, s19, .unk, .unk, .unk, .unk, .unk, .unk, .unk, .unk, .unk, .unk, .unk, .unk, .unk, .unk, .unk, .unk, .unk, .unk, .unk, .unk, .unk, .unk, .unk, .unk, .unk, .unk, .unk], h⟩
@[go_sem] theorem ks4_0 (v0 v1 v2 v3 v4 v5 v6 v7 v8 v9 v10 v11 v12 v13 v14 v15 v16 v17 v18 v19 v20 v21 v22 v23 v24 v25 v26 v27 v28 v29 v30 v31 v32 v33 v34 v35 v36 v37 v38 v39 v40 v41 v42 v43 v44 v45 v46 : AV) : keepS [3, 4, 17, 18, 19] [v0, v1, v2, v3, v4, v5, v6, v7, v8, v9, v10, v11, v12, v13, v14, v15, v16, v17, v18, v19, v20, v21, v22, v23, v24, v25, v26, v27, v28, v29, v30, v31, v32, v33, v34, v35, v36, v37, v38, v39, v40, v41, v42, v43, v44, v45, v46] 0 = [.unk, .unk, .unk, v3, v4, .unk, .unk, .unk, .unk, .unk, .unk, .unk, .unk, .unk, .unk, .unk, .unk, v17, v18, v19, .unk, .unk, .unk, .unk, .unk, .unk, .unk, .unk, .unk, .unk, .unk, .unk, .unk, .unk, .unk, .unk, .unk, .unk, .unk, .unk, .unk, .unk, .unk, .unk, .unk, .unk, .unk] := rfl
@[go_sem] theorem ks4_1 (v0 v1 v2 v3 v4 v5 v6 v7 v8 v9 v10 v11 v12 v13 v14 v15 v16 v17 v18 v19 v20 v21 v22 v23 v24 v25 v26 v27 v28 v29 v30 v31 v32 v33 v34 v35 v36 v37 v38 v39 v40 v41 v42 v43 v44 v45 v46 : AV) : keepS [3, 4] [v0, v1, v2, v3, v4, v5, v6, v7, v8, v9, v10, v11, v12, v13, v14, v15, v16, v17, v18, v19, v20, v21, v22, v23, v24, v25, v26, v27, v28, v29, v30, v31, v32, v33, v34, v35, v36, v37, v38, v39, v40, v41, v42, v43, v44, v45, v46] 0 = [.unk, .unk, .unk, v3, v4, .unk, .unk, .unk, .unk, .unk, .unk, .unk, .unk, .unk, .unk, .unk, .unk, .unk, .unk, .unk, .unk, .unk, .unk, .unk, .unk, .unk, .unk, .unk, .unk, .unk, .unk, .unk, .unk, .unk, .unk, .unk, .unk, .unk, .unk, .unk, .unk, .unk, .unk, .unk, .unk, .unk, .unk] := rfl
@[go_sem] theorem ks4_2 (v0 v1 v2 v3 v4 v5 v6 v7 v8 v9 v10 v11 v12 v13 v14 v15 v16 v17 v18 v19 v20 v21 v22 v23 v24 v25 v26 v27 v28 v29 v30 v31 v32 v33 v34 v35 v36 v37 v38 v39 v40 v41 v42 v43 v44 v45 v46 : AV) : keepS [3, 7, 33, 34, 35] [v0, v1, v2, v3, v4, v5, v6, v7, v8, v9, v10, v11, v12, v13, v14, v15, v16, v17, v18, v19, v20, v21, v22, v23, v24, v25, v26, v27, v28, v29, v30, v31, v32, v33, v34, v35, v36, v37, v38, v39, v40, v41, v42, v43, v44, v45, v46] 0 = [.unk, .unk, .unk, v3, .unk, .unk, .unk, v7, .unk, .unk, .unk, .unk, .unk, .unk, .unk, .unk, .unk, .unk, .unk, .unk, .unk, .unk, .unk, .unk, .unk, .unk, .unk, .unk, .unk, .unk, .unk, .unk, .unk, v33, v34, v35, .unk, .unk, .unk, .unk, .unk, .unk, .unk, .unk, .unk, .unk, .unk] := rfl
@[go_sem] theorem ks4_3 (v0 v1 v2 v3 v4 v5 v6 v7 v8 v9 v10 v11 v12 v13 v14 v15 v16 v17 v18 v19 v20 v21 v22 v23 v24 v25 v26 v27 v28 v29 v30 v31 v32 v33 v34 v35 v36 v37 v38 v39 v40 v41 v42 v43 v44 v45 v46 : AV) : keepS [3, 7] [v0, v1, v2, v3, v4, v5, v6, v7, v8, v9, v10, v11, v12, v13, v14, v15, v16, v17, v18, v19, v20, v21, v22, v23, v24, v25, v26, v27, v28, v29, v30, v31, v32, v33, v34, v35, v36, v37, v38, v39, v40, v41, v42, v43, v44, v45, v46] 0 = [.unk, .unk, .unk, v3, .unk, .unk, .unk, v7, .unk, .unk, .unk, .unk, .unk, .unk, .unk, .unk, .unk, .unk, .unk, .unk, .unk, .unk, .unk, .unk, .unk, .unk, .unk, .unk, .unk, .unk, .unk, .unk, .unk, .unk, .unk, .unk, .unk, .unk, .unk, .unk, .unk, .unk, .unk, .unk, .unk, .unk, .unk] := rfl
@[go_sem] theorem ks4_4 (v0 v1 v2 v3 v4 v5 v6 v7 v8 v9 v10 v11 v12 v13 v14 v15 v16 v17 v18 v19 v20 v21 v22 v23 v24 v25 v26 v27 v28 v29 v30 v31 v32 v33 v34 v35 v36 v37 v38 v39 v40 v41 v42 v43 v44 v45 v46 : AV) : keepS [2] [v0, v1, v2, v3, v4, v5, v6, v7, v8, v9, v10, v11, v12, v13, v14, v15, v16, v17, v18, v19, v20, v21, v22, v23, v24, v25, v26, v27, v28, v29, v30, v31, v32, v33, v34, v35, v36, v37, v38, v39, v40, v41, v42, v43, v44, v45, v46] 0 = [.unk, .unk, v2, .unk, .unk, .unk, .unk, .unk, .unk, .unk, .unk, .unk, .unk, .unk, .unk, .unk, .unk, .unk, .unk, .unk, .unk, .unk, .unk, .unk, .unk, .unk, .unk, .unk, .unk, .unk, .unk, .unk, .unk, .unk, .unk, .unk, .unk, .unk, .unk, .unk, .unk, .unk, .unk, .unk, .unk, .unk, .unk] := rfl
/-- spence/spencelaw20.ReplayLive -/
def bd4 : C :=
  (.seq (.reg [⟨some 2, none, .mv (.c (.d (.bool false))), .none⟩])
  (.seq (.seq (.reg [⟨some 10, none, .call 7 [] 2, .none⟩,
       ⟨some 11, none, .un .not (.s 10), .none⟩])
   (.cond (.s 11)
    (.seq (.reg [⟨some 2, none, .mv (.c (.d (.bool false))), .none⟩])
    (.ret none))
    .skip))
  (.seq (.seq (.reg [⟨some 12, none, .mv (.s 0), .none⟩,
       ⟨some 13, none, .call 8 [.s 12] 2, .none⟩,
       ⟨some 14, none, .un .not (.s 13), .none⟩])
   (.cond (.s 14)
    (.seq (.reg [⟨some 2, none, .mv (.c (.d (.bool true))), .none⟩])
    (.ret none))
    .skip))
  (.seq (.reg [⟨some 15, none, .mv (.s 0), .none⟩,
      ⟨some 16, none, .call 10 [.s 15] 2, .none⟩,
      ⟨some 3, none, .alloc 39 [.bool false, .int .i64 0, .int .i64 0, .str [], .int .i64 0, .int .i64 0, .int .i64 0, .int .i64 0, .nilm, .int .i64 0, .int .i64 0, .int .i64 0, .bool false, .int .i64 0, .int .i64 0, .str [], .int .i64 0, .int .i64 0, .int .i64 0, .int .i64 0, .nilm, .int .i64 0, .int .i64 0, .int .i64 0, .bool false, .int .i64 0, .int .i64 0, .str [], .int .i64 0, .int .i64 0, .int .i64 0, .int .i64 0, .nilm, .int .i64 0, .int .i64 0, .int .i64 0, .bool false, .int .i64 0, .int .i64 0, .str [], .int .i64 0, .int .i64 0, .int .i64 0, .int .i64 0, .nilm, .int .i64 0, .int .i64 0, .int .i64 0, .bool false, .int .i64 0, .int .i64 0, .str [], .int .i64 0, .int .i64 0, .int .i64 0, .int .i64 0, .nilm, .int .i64 0, .int .i64 0, .int .i64 0, .bool false, .int .i64 0, .int .i64 0, .str [], .int .i64 0, .int .i64 0, .int .i64 0, .int .i64 0, .nilm, .int .i64 0, .int .i64 0, .int .i64 0, .bool false, .int .i64 0, .int .i64 0, .str [], .int .i64 0, .int .i64 0, .int .i64 0, .int .i64 0, .nilm, .int .i64 0, .int .i64 0, .int .i64 0, .bool false, .int .i64 0, .int .i64 0, .str [], .int .i64 0, .int .i64 0, .int .i64 0, .int .i64 0, .nilm, .int .i64 0, .int .i64 0, .int .i64 0, .bool false, .int .i64 0, .int .i64 0, .str [], .int .i64 0, .int .i64 0, .int .i64 0, .int .i64 0, .nilm, .int .i64 0, .int .i64 0, .int .i64 0, .bool false, .int .i64 0, .int .i64 0, .str [], .int .i64 0, .int .i64 0, .int .i64 0, .int .i64 0, .nilm, .int .i64 0, .int .i64 0, .int .i64 0, .bool false, .int .i64 0, .int .i64 0, .str [], .int .i64 0, .int .i64 0, .int .i64 0, .int .i64 0, .nilm, .int .i64 0, .int .i64 0, .int .i64 0, .bool false, .int .i64 0, .int .i64 0, .str [], .int .i64 0, .int .i64 0, .int .i64 0, .int .i64 0, .nilm, .int .i64 0, .int .i64 0, .int .i64 0, .bool false, .int .i64 0, .int .i64 0, .str [], .int .i64 0, .int .i64 0, .int .i64 0, .int .i64 0, .nilm, .int .i64 0, .int .i64 0, .int .i64 0, .bool false, .int .i64 0, .int .i64 0, .str [], .int .i64 0, .int .i64 0, .int .i64 0, .int .i64 0, .nilm, .int .i64 0, .int .i64 0, .int .i64 0, .bool false, .int .i64 0, .int .i64 0, .str [], .int .i64 0, .int .i64 0, .int .i64 0, .int .i64 0, .nilm, .int .i64 0, .int .i64 0, .int .i64 0, .bool false, .int .i64 0, .int .i64 0, .str [], .int .i64 0, .int .i64 0, .int .i64 0, .int .i64 0, .nilm, .int .i64 0, .int .i64 0, .int .i64 0], .none⟩,
      ⟨none, none, .st (.s 3) (.s 16) 192, .none⟩])
  (.seq (.reg [⟨some 4, none, .mv (.c (.d .nils)), .one 6 true⟩])
  (.seq (.seq (.reg [⟨some 17, none, .mv (.s 0), .none⟩,
       ⟨some 18, none, .len (.s 17), .none⟩,
       ⟨some 19, none, .mv (.c (.d (.int .i64 0))), .none⟩])
   (.block 0 (.loop [3, 4, 17, 18, 19] lp4_0)))
  (.seq (.reg [⟨some 31, none, .mv (.s 4), .none⟩,
      ⟨some 32, none, .call 10 [.s 31] 0, .none⟩,
      ⟨some 7, none, .alloc 39 [.bool false, .int .i64 0, .int .i64 0, .str [], .int .i64 0, .int .i64 0, .int .i64 0, .int .i64 0, .nilm, .int .i64 0, .int .i64 0, .int .i64 0, .bool false, .int .i64 0, .int .i64 0, .str [], .int .i64 0, .int .i64 0, .int .i64 0, .int .i64 0, .nilm, .int .i64 0, .int .i64 0, .int .i64 0, .bool false, .int .i64 0, .int .i64 0, .str [], .int .i64 0, .int .i64 0, .int .i64 0, .int .i64 0, .nilm, .int .i64 0, .int .i64 0, .int .i64 0, .bool false, .int .i64 0, .int .i64 0, .str [], .int .i64 0, .int .i64 0, .int .i64 0, .int .i64 0, .nilm, .int .i64 0, .int .i64 0, .int .i64 0, .bool false, .int .i64 0, .int .i64 0, .str [], .int .i64 0, .int .i64 0, .int .i64 0, .int .i64 0, .nilm, .int .i64 0, .int .i64 0, .int .i64 0, .bool false, .int .i64 0, .int .i64 0, .str [], .int .i64 0, .int .i64 0, .int .i64 0, .int .i64 0, .nilm, .int .i64 0, .int .i64 0, .int .i64 0, .bool false, .int .i64 0, .int .i64 0, .str [], .int .i64 0, .int .i64 0, .int .i64 0, .int .i64 0, .nilm, .int .i64 0, .int .i64 0, .int .i64 0, .bool false, .int .i64 0, .int .i64 0, .str [], .int .i64 0, .int .i64 0, .int .i64 0, .int .i64 0, .nilm, .int .i64 0, .int .i64 0, .int .i64 0, .bool false, .int .i64 0, .int .i64 0, .str [], .int .i64 0, .int .i64 0, .int .i64 0, .int .i64 0, .nilm, .int .i64 0, .int .i64 0, .int .i64 0, .bool false, .int .i64 0, .int .i64 0, .str [], .int .i64 0, .int .i64 0, .int .i64 0, .int .i64 0, .nilm, .int .i64 0, .int .i64 0, .int .i64 0, .bool false, .int .i64 0, .int .i64 0, .str [], .int .i64 0, .int .i64 0, .int .i64 0, .int .i64 0, .nilm, .int .i64 0, .int .i64 0, .int .i64 0, .bool false, .int .i64 0, .int .i64 0, .str [], .int .i64 0, .int .i64 0, .int .i64 0, .int .i64 0, .nilm, .int .i64 0, .int .i64 0, .int .i64 0, .bool false, .int .i64 0, .int .i64 0, .str [], .int .i64 0, .int .i64 0, .int .i64 0, .int .i64 0, .nilm, .int .i64 0, .int .i64 0, .int .i64 0, .bool false, .int .i64 0, .int .i64 0, .str [], .int .i64 0, .int .i64 0, .int .i64 0, .int .i64 0, .nilm, .int .i64 0, .int .i64 0, .int .i64 0, .bool false, .int .i64 0, .int .i64 0, .str [], .int .i64 0, .int .i64 0, .int .i64 0, .int .i64 0, .nilm, .int .i64 0, .int .i64 0, .int .i64 0, .bool false, .int .i64 0, .int .i64 0, .str [], .int .i64 0, .int .i64 0, .int .i64 0, .int .i64 0, .nilm, .int .i64 0, .int .i64 0, .int .i64 0], .none⟩,
      ⟨none, none, .st (.s 7) (.s 32) 192, .none⟩])
  (.seq (.seq (.reg [⟨some 33, none, .mv (.s 4), .none⟩,
       ⟨some 34, none, .len (.s 33), .none⟩,
       ⟨some 35, none, .mv (.c (.d (.int .i64 0))), .none⟩])
   (.block 2 (.loop [3, 7, 33, 34, 35] lp4_1)))
  (.seq (.reg [⟨some 44, none, .ld (.s 3) 192 true, .none⟩,
      ⟨some 45, none, .ld (.s 7) 192 true, .none⟩,
      ⟨some 46, none, .call 9 [.s 44, .s 45] 2, .none⟩,
      ⟨some 2, none, .mv (.s 46), .none⟩])
  (.ret none))))))))))
def ir4 : F := { n := 47, res := [.tmp 2], body := bd4 }
@[go_sem] theorem n4 : ir4.n = 47 := rfl
@[go_sem] theorem r4 : ir4.res = [.tmp 2] := rfl
@[go_sem] theorem b4 : ir4.body = bd4 := rfl
def lb5_0 : C :=
  (.seq (.seq (.reg [⟨some 33, none, .mv (.s 9), .none⟩,
       ⟨some 34, none, .bin .lss (.s 33) (.c (.d (.int .i64 16))), .none⟩])
   (.cond (.s 34)
    .skip
    (.exit 0 (some []))))
  (.seq (.block 1 (.seq (.reg [⟨some 38, none, .ld (.s 7) 192 true, .none⟩,
        ⟨some 39, none, .mv (.s 9), .none⟩,
        ⟨some 40, none, .call 14 [.s 38, .s 39] 2, .none⟩,
        ⟨some 37, none, .mv (.s 40), .none⟩,
        ⟨some 41, none, .ext (.s 37) 0, .none⟩,
        ⟨some 42, none, .ext (.s 37) 1, .none⟩,
        ⟨some 10, none, .alloc 33 [.int .i64 0, .int .i64 0, .str [], .int .i64 0, .int .i64 0], .none⟩,
        ⟨none, none, .st (.s 10) (.s 41) 5, .none⟩,
        ⟨some 11, none, .mv (.s 42), .none⟩])
    (.seq (.seq (.drw [⟨some 43, none, .ld (.s 7) 192 true, .none⟩,
         ⟨some 44, none, .mv (.s 9), .none⟩,
         ⟨some 45, none, .call 15 [.s 43, .s 44] 2, .none⟩,
         ⟨some 46, none, .ld (.s 5) 192 true, .none⟩,
         ⟨some 47, none, .mv (.s 9), .none⟩,
         ⟨some 48, none, .call 15 [.s 46, .s 47] 2, .none⟩,
         ⟨some 49, none, .bin .lss (.s 45) (.s 48), .none⟩,
         ⟨some 50, none, .mv (.s 49), .none⟩,
         ⟨some 51, some (50, false), .mv (.s 11), .none⟩,
         ⟨some 52, some (50, false), .mv (.s 51), .none⟩,
         ⟨some 53, some (52, true), .fa (.s 10) 1, .none⟩,
         ⟨some 54, some (52, true), .ld (.s 53) 1 false, .none⟩,
         ⟨some 55, some (52, true), .ld (.s 7) 192 true, .none⟩,
         ⟨some 56, some (52, true), .mv (.s 9), .none⟩,
         ⟨some 57, some (52, true), .call 15 [.s 55, .s 56] 2, .none⟩,
         ⟨some 58, some (52, true), .bin .leq (.s 54) (.s 57), .none⟩,
         ⟨some 59, some (50, false), .pick (.s 52) (.s 58) (.c (.d (.bool false))), .none⟩,
         ⟨some 60, none, .pick (.s 50) (.c (.d (.bool true))) (.s 59), .none⟩]
        [[], [], [0, 1], [], [], [3, 4, 2], [2, 5], [6, 5], [7], [8, 7, 7], [9], [10, 9], [9], [9], [12, 13, 9, 9], [11, 14, 9], [9, 15, 7], [7, 16]] [])
     (.cond (.s 60)
      (.seq (.reg [⟨some 4, none, .mv (.c (.d (.bool false))), .none⟩])
      (.ret (some [4])))
      .skip))
    (.seq (.reg [⟨some 62, none, .ld (.s 5) 192 true, .none⟩,
        ⟨some 63, none, .mv (.s 9), .none⟩,
        ⟨some 64, none, .call 14 [.s 62, .s 63] 2, .none⟩,
        ⟨some 61, none, .mv (.s 64), .none⟩,
        ⟨some 65, none, .ext (.s 61) 0, .none⟩,
        ⟨some 66, none, .ext (.s 61) 1, .none⟩,
        ⟨some 12, none, .alloc 33 [.int .i64 0, .int .i64 0, .str [], .int .i64 0, .int .i64 0], .none⟩,
        ⟨none, none, .st (.s 12) (.s 65) 5, .none⟩,
        ⟨some 13, none, .mv (.s 66), .none⟩])
    (.seq (.reg [⟨some 67, none, .mv (.s 11), .none⟩,
        ⟨some 68, none, .mv (.s 67), .none⟩,
        ⟨some 69, some (68, true), .mv (.s 13), .none⟩,
        ⟨some 70, some (68, true), .un .not (.s 69), .none⟩,
        ⟨some 71, some (68, true), .mv (.s 70), .none⟩,
        ⟨some 72, some (71, false), .fa (.s 12) 1, .none⟩,
        ⟨some 73, some (71, false), .ld (.s 72) 1 false, .none⟩,
        ⟨some 74, some (71, false), .fa (.s 10) 1, .none⟩,
        ⟨some 75, some (71, false), .ld (.s 74) 1 false, .none⟩,
        ⟨some 76, some (71, false), .bin .neq (.s 73) (.s 75), .none⟩,
        ⟨some 77, some (68, true), .pick (.s 71) (.c (.d (.bool true))) (.s 76), .none⟩,
        ⟨some 78, none, .pick (.s 68) (.s 77) (.c (.d (.bool false))), .none⟩,
        ⟨some 79, none, .mv (.s 78), .none⟩,
        ⟨some 80, some (79, true), .ld (.s 7) 192 true, .none⟩,
        ⟨some 81, some (79, true), .mv (.s 9), .none⟩,
        ⟨some 82, some (79, true), .call 16 [.s 80, .s 81] 2, .none⟩,
        ⟨some 83, some (79, true), .call 17 [.s 82] 2, .none⟩,
        ⟨some 84, some (79, true), .bin .neq (.s 83) (.c (.d (.int .i64 0))), .none⟩,
        ⟨some 85, none, .pick (.s 79) (.s 84) (.c (.d (.bool false))), .none⟩])
    (.cond (.s 85)
     (.seq (.reg [⟨some 4, none, .mv (.c (.d (.bool false))), .none⟩])
     (.ret (some [4])))
     .skip))))))
  (.reg [⟨some 35, none, .mv (.s 9), .none⟩,
     ⟨some 36, none, .bin .add (.s 35) (.c (.d (.int .i64 1))), .none⟩,
     ⟨some 9, none, .mv (.s 36), .none⟩])))
def lp5_0 : C := lb5_0
theorem u5_0 (c : Ev.Callee) (l : Ev.Looper) (s : St) : evC c l lp5_0 s = evC c l lb5_0 s := rfl
abbrev st5_0 (m : Nat) (s5 s7 s9 : AV) (h : Heap) : St := ⟨m, [.unk, .unk, .unk, .unk, .unk, s5, .unk, s7, .unk, s9, .unk, .unk, .unk, .unk, .unk, .unk, .unk, .unk, .unk, .unk, .unk, .unk, .unk, .unk, .unk, .unk, .unk, .unk, .unk, .unk, .unk, .unk, .unk, .unk, .unk, .unk, .unk, .unk, .unk, .unk, .unk, .unk, .unk, .unk, .unk, .unk, .unk, .unk, .unk, .unk, .unk, .unk, .unk, .unk, .unk, .unk, .unk, .unk, .unk, .unk, .unk, .unk, .unk, .unk, .unk, .unk, .unk, .unk, .unk, .unk, .unk, .unk, .unk, .unk, .unk, .unk, .unk, .unk, .unk, .unk, .unk, .unk, .unk, .unk, .unk, .unk], h⟩
@[go_sem] theorem ks5_0 (v0 v1 v2 v3 v4 v5 v6 v7 v8 v9 v10 v11 v12 v13 v14 v15 v16 v17 v18 v19 v20 v21 v22 v23 v24 v25 v26 v27 v28 v29 v30 v31 v32 v33 v34 v35 v36 v37 v38 v39 v40 v41 v42 v43 v44 v45 v46 v47 v48 v49 v50 v51 v52 v53 v54 v55 v56 v57 v58 v59 v60 v61 v62 v63 v64 v65 v66 v67 v68 v69 v70 v71 v72 v73 v74 v75 v76 v77 v78 v79 v80 v81 v82 v83 v84 v85 : AV) : keepS [5, 7, 9] [v0, v1, v2, v3, v4, v5, v6, v7, v8, v9, v10, v11, v12, v13, v14, v15, v16, v17, v18, v19, v20, v21, v22, v23, v24, v25, v26, v27, v28, v29, v30, v31, v32, v33, v34, v35, v36, v37, v38, v39, v40, v41, v42, v43, v44, v45, v46, v47, v48, v49, v50, v51, v52, v53, v54, v55, v56, v57, v58, v59, v60, v61, v62, v63, v64, v65, v66, v67, v68, v69, v70, v71, v72, v73, v74, v75, v76, v77, v78, v79, v80, v81, v82, v83, v84, v85] 0 = [.unk, .unk, .unk, .unk, .unk, v5, .unk, v7, .unk, v9, .unk, .unk, .unk, .unk, .unk, .unk, .unk, .unk, .unk, .unk, .unk, .unk, .unk, .unk, .unk, .unk, .unk, .unk, .unk, .unk, .unk, .unk, .unk, .unk, .unk, .unk, .unk, .unk, .unk, .unk, .unk, .unk, .unk, .unk, .unk, .unk, .unk, .unk, .unk, .unk, .unk, .unk, .unk, .unk, .unk, .unk, .unk, .unk, .unk, .unk, .unk, .unk, .unk, .unk, .unk, .unk, .unk, .unk, .unk, .unk, .unk, .unk, .unk, .unk, .unk, .unk, .unk, .unk, .unk, .unk, .unk, .unk, .unk, .unk, .unk, .unk] := rfl
@[go_sem] theorem ks5_1 (v0 v1 v2 v3 v4 v5 v6 v7 v8 v9 v10 v11 v12 v13 v14 v15 v16 v17 v18 v19 v20 v21 v22 v23 v24 v25 v26 v27 v28 v29 v30 v31 v32 v33 v34 v35 v36 v37 v38 v39 v40 v41 v42 v43 v44 v45 v46 v47 v48 v49 v50 v51 v52 v53 v54 v55 v56 v57 v58 v59 v60 v61 v62 v63 v64 v65 v66 v67 v68 v69 v70 v71 v72 v73 v74 v75 v76 v77 v78 v79 v80 v81 v82 v83 v84 v85 : AV) : keepS [] [v0, v1, v2, v3, v4, v5, v6, v7, v8, v9, v10, v11, v12, v13, v14, v15, v16, v17, v18, v19, v20, v21, v22, v23, v24, v25, v26, v27, v28, v29, v30, v31, v32, v33, v34, v35, v36, v37, v38, v39, v40, v41, v42, v43, v44, v45, v46, v47, v48, v49, v50, v51, v52, v53, v54, v55, v56, v57, v58, v59, v60, v61, v62, v63, v64, v65, v66, v67, v68, v69, v70, v71, v72, v73, v74, v75, v76, v77, v78, v79, v80, v81, v82, v83, v84, v85] 0 = [.unk, .unk, .unk, .unk, .unk, .unk, .unk, .unk, .unk, .unk, .unk, .unk, .unk, .unk, .unk, .unk, .unk, .unk, .unk, .unk, .unk, .unk, .unk, .unk, .unk, .unk, .unk, .unk, .unk, .unk, .unk, .unk, .unk, .unk, .unk, .unk, .unk, .unk, .unk, .unk, .unk, .unk, .unk, .unk, .unk, .unk, .unk, .unk, .unk, .unk, .unk, .unk, .unk, .unk, .unk, .unk, .unk, .unk, .unk, .unk, .unk, .unk, .unk, .unk, .unk, .unk, .unk, .unk, .unk, .unk, .unk, .unk, .unk, .unk, .unk, .unk, .unk, .unk, .unk, .unk, .unk, .unk, .unk, .unk, .unk, .unk] := rfl
@[go_sem] theorem ks5_2 (v0 v1 v2 v3 v4 v5 v6 v7 v8 v9 v10 v11 v12 v13 v14 v15 v16 v17 v18 v19 v20 v21 v22 v23 v24 v25 v26 v27 v28 v29 v30 v31 v32 v33 v34 v35 v36 v37 v38 v39 v40 v41 v42 v43 v44 v45 v46 v47 v48 v49 v50 v51 v52 v53 v54 v55 v56 v57 v58 v59 v60 v61 v62 v63 v64 v65 v66 v67 v68 v69 v70 v71 v72 v73 v74 v75 v76 v77 v78 v79 v80 v81 v82 v83 v84 v85 : AV) : keepS [4] [v0, v1, v2, v3, v4, v5, v6, v7, v8, v9, v10, v11, v12, v13, v14, v15, v16, v17, v18, v19, v20, v21, v22, v23, v24, v25, v26, v27, v28, v29, v30, v31, v32, v33, v34, v35, v36, v37, v38, v39, v40, v41, v42, v43, v44, v45, v46, v47, v48, v49, v50, v51, v52, v53, v54, v55, v56, v57, v58, v59, v60, v61, v62, v63, v64, v65, v66, v67, v68, v69, v70, v71, v72, v73, v74, v75, v76, v77, v78, v79, v80, v81, v82, v83, v84, v85] 0 = [.unk, .unk, .unk, .unk, v4, .unk, .unk, .unk, .unk, .unk, .unk, .unk, .unk, .unk, .unk, .unk, .unk, .unk, .unk, .unk, .unk, .unk, .unk, .unk, .unk, .unk, .unk, .unk, .unk, .unk, .unk, .unk, .unk, .unk, .unk, .unk, .unk, .unk, .unk, .unk, .unk, .unk, .unk, .unk, .unk, .unk, .unk, .unk, .unk, .unk, .unk, .unk, .unk, .unk, .unk, .unk, .unk, .unk, .unk, .unk, .unk, .unk, .unk, .unk, .unk, .unk, .unk, .unk, .unk, .unk, .unk, .unk, .unk, .unk, .unk, .unk, .unk, .unk, .unk, .unk, .unk, .unk, .unk, .unk, .unk, .unk] := rfl
/-- spence/spencelaw19.IndexFloors -/
def bd5 : C :=
  (.seq (.reg [⟨some 3, none, .box 45 (.s 1), .none⟩,
      ⟨some 4, none, .mv (.c (.d (.bool false))), .none⟩])
  (.seq (.seq (.reg [⟨some 14, none, .call 12 [] 2, .none⟩,
       ⟨some 15, none, .un .not (.s 14), .none⟩])
   (.cond (.s 15)
    (.seq (.reg [⟨some 4, none, .mv (.c (.d (.bool false))), .none⟩])
    (.ret none))
    .skip))
  (.seq (.seq (.reg [⟨some 16, none, .mv (.s 0), .none⟩,
       ⟨some 17, none, .len (.s 16), .none⟩,
       ⟨some 18, none, .bin .gtr (.s 17) (.c (.d (.int .i64 40))), .none⟩])
   (.cond (.s 18)
    (.seq (.reg [⟨some 4, none, .mv (.c (.d (.bool true))), .none⟩])
    (.ret none))
    .skip))
  (.seq (.reg [⟨some 20, none, .mv (.s 0), .none⟩,
      ⟨some 21, none, .call 13 [.s 20] 0, .none⟩,
      ⟨some 19, none, .mv (.s 21), .none⟩,
      ⟨some 22, none, .ext (.s 19) 0, .none⟩,
      ⟨some 23, none, .ext (.s 19) 1, .none⟩,
      ⟨some 5, none, .alloc 39 [.bool false, .int .i64 0, .int .i64 0, .str [], .int .i64 0, .int .i64 0, .int .i64 0, .int .i64 0, .nilm, .int .i64 0, .int .i64 0, .int .i64 0, .bool false, .int .i64 0, .int .i64 0, .str [], .int .i64 0, .int .i64 0, .int .i64 0, .int .i64 0, .nilm, .int .i64 0, .int .i64 0, .int .i64 0, .bool false, .int .i64 0, .int .i64 0, .str [], .int .i64 0, .int .i64 0, .int .i64 0, .int .i64 0, .nilm, .int .i64 0, .int .i64 0, .int .i64 0, .bool false, .int .i64 0, .int .i64 0, .str [], .int .i64 0, .int .i64 0, .int .i64 0, .int .i64 0, .nilm, .int .i64 0, .int .i64 0, .int .i64 0, .bool false, .int .i64 0, .int .i64 0, .str [], .int .i64 0, .int .i64 0, .int .i64 0, .int .i64 0, .nilm, .int .i64 0, .int .i64 0, .int .i64 0, .bool false, .int .i64 0, .int .i64 0, .str [], .int .i64 0, .int .i64 0, .int .i64 0, .int .i64 0, .nilm, .int .i64 0, .int .i64 0, .int .i64 0, .bool false, .int .i64 0, .int .i64 0, .str [], .int .i64 0, .int .i64 0, .int .i64 0, .int .i64 0, .nilm, .int .i64 0, .int .i64 0, .int .i64 0, .bool false, .int .i64 0, .int .i64 0, .str [], .int .i64 0, .int .i64 0, .int .i64 0, .int .i64 0, .nilm, .int .i64 0, .int .i64 0, .int .i64 0, .bool false, .int .i64 0, .int .i64 0, .str [], .int .i64 0, .int .i64 0, .int .i64 0, .int .i64 0, .nilm, .int .i64 0, .int .i64 0, .int .i64 0, .bool false, .int .i64 0, .int .i64 0, .str [], .int .i64 0, .int .i64 0, .int .i64 0, .int .i64 0, .nilm, .int .i64 0, .int .i64 0, .int .i64 0, .bool false, .int .i64 0, .int .i64 0, .str [], .int .i64 0, .int .i64 0, .int .i64 0, .int .i64 0, .nilm, .int .i64 0, .int .i64 0, .int .i64 0, .bool false, .int .i64 0, .int .i64 0, .str [], .int .i64 0, .int .i64 0, .int .i64 0, .int .i64 0, .nilm, .int .i64 0, .int .i64 0, .int .i64 0, .bool false, .int .i64 0, .int .i64 0, .str [], .int .i64 0, .int .i64 0, .int .i64 0, .int .i64 0, .nilm, .int .i64 0, .int .i64 0, .int .i64 0, .bool false, .int .i64 0, .int .i64 0, .str [], .int .i64 0, .int .i64 0, .int .i64 0, .int .i64 0, .nilm, .int .i64 0, .int .i64 0, .int .i64 0, .bool false, .int .i64 0, .int .i64 0, .str [], .int .i64 0, .int .i64 0, .int .i64 0, .int .i64 0, .nilm, .int .i64 0, .int .i64 0, .int .i64 0, .bool false, .int .i64 0, .int .i64 0, .str [], .int .i64 0, .int .i64 0, .int .i64 0, .int .i64 0, .nilm, .int .i64 0, .int .i64 0, .int .i64 0], .none⟩,
      ⟨none, none, .st (.s 5) (.s 22) 192, .none⟩,
      ⟨some 6, none, .mv (.s 23), .none⟩])
  (.seq (.drr [⟨some 25, none, .mv (.s 0), .none⟩,
      ⟨some 26, none, .app 45 9 80 (.c (.d .nils)) (.s 25), .none⟩,
      ⟨some 27, none, .ld (.s 3) 9 true, .none⟩,
      ⟨some 28, none, .bsl 45 9 1 [.int .i64 0, .int .i64 0, .int .i64 0, .str [], .int .i64 0, .int .i64 0, .int .i64 0, .int .i64 0, .int .i64 0] [(0, (9, .s 27))], .dat⟩,
      ⟨some 29, none, .app 45 9 80 (.s 26) (.s 28), .none⟩,
      ⟨some 30, none, .call 13 [.s 29] 0, .none⟩,
      ⟨some 24, none, .mv (.s 30), .none⟩,
      ⟨some 31, none, .ext (.s 24) 0, .none⟩,
      ⟨some 32, none, .ext (.s 24) 1, .none⟩,
      ⟨some 7, none, .alloc 39 [.bool false, .int .i64 0, .int .i64 0, .str [], .int .i64 0, .int .i64 0, .int .i64 0, .int .i64 0, .nilm, .int .i64 0, .int .i64 0, .int .i64 0, .bool false, .int .i64 0, .int .i64 0, .str [], .int .i64 0, .int .i64 0, .int .i64 0, .int .i64 0, .nilm, .int .i64 0, .int .i64 0, .int .i64 0, .bool false, .int .i64 0, .int .i64 0, .str [], .int .i64 0, .int .i64 0, .int .i64 0, .int .i64 0, .nilm, .int .i64 0, .int .i64 0, .int .i64 0, .bool false, .int .i64 0, .int .i64 0, .str [], .int .i64 0, .int .i64 0, .int .i64 0, .int .i64 0, .nilm, .int .i64 0, .int .i64 0, .int .i64 0, .bool false, .int .i64 0, .int .i64 0, .str [], .int .i64 0, .int .i64 0, .int .i64 0, .int .i64 0, .nilm, .int .i64 0, .int .i64 0, .int .i64 0, .bool false, .int .i64 0, .int .i64 0, .str [], .int .i64 0, .int .i64 0, .int .i64 0, .int .i64 0, .nilm, .int .i64 0, .int .i64 0, .int .i64 0, .bool false, .int .i64 0, .int .i64 0, .str [], .int .i64 0, .int .i64 0, .int .i64 0, .int .i64 0, .nilm, .int .i64 0, .int .i64 0, .int .i64 0, .bool false, .int .i64 0, .int .i64 0, .str [], .int .i64 0, .int .i64 0, .int .i64 0, .int .i64 0, .nilm, .int .i64 0, .int .i64 0, .int .i64 0, .bool false, .int .i64 0, .int .i64 0, .str [], .int .i64 0, .int .i64 0, .int .i64 0, .int .i64 0, .nilm, .int .i64 0, .int .i64 0, .int .i64 0, .bool false, .int .i64 0, .int .i64 0, .str [], .int .i64 0, .int .i64 0, .int .i64 0, .int .i64 0, .nilm, .int .i64 0, .int .i64 0, .int .i64 0, .bool false, .int .i64 0, .int .i64 0, .str [], .int .i64 0, .int .i64 0, .int .i64 0, .int .i64 0, .nilm, .int .i64 0, .int .i64 0, .int .i64 0, .bool false, .int .i64 0, .int .i64 0, .str [], .int .i64 0, .int .i64 0, .int .i64 0, .int .i64 0, .nilm, .int .i64 0, .int .i64 0, .int .i64 0, .bool false, .int .i64 0, .int .i64 0, .str [], .int .i64 0, .int .i64 0, .int .i64 0, .int .i64 0, .nilm, .int .i64 0, .int .i64 0, .int .i64 0, .bool false, .int .i64 0, .int .i64 0, .str [], .int .i64 0, .int .i64 0, .int .i64 0, .int .i64 0, .nilm, .int .i64 0, .int .i64 0, .int .i64 0, .bool false, .int .i64 0, .int .i64 0, .str [], .int .i64 0, .int .i64 0, .int .i64 0, .int .i64 0, .nilm, .int .i64 0, .int .i64 0, .int .i64 0, .bool false, .int .i64 0, .int .i64 0, .str [], .int .i64 0, .int .i64 0, .int .i64 0, .int .i64 0, .nilm, .int .i64 0, .int .i64 0, .int .i64 0], .res []⟩,
      ⟨none, none, .st (.s 7) (.s 31) 192, .none⟩,
      ⟨some 8, none, .mv (.s 32), .none⟩]
     [[], [0], [], [2], [1, 3, 1], [4, 4], [5], [6], [6], [], [9, 7, 5, 0, 1, 2, 3, 4, 5, 6, 7, 9], [8, 10, 0, 1, 2, 3, 4, 5, 6, 7, 8, 9, 10]] [] [3] [25])
  (.seq (.seq (.reg [⟨some 9, none, .mv (.c (.d (.int .i64 0))), .none⟩])
   (.block 0 (.loop [5, 7, 9] lp5_0)))
  (.seq (.reg [⟨some 4, none, .mv (.c (.d (.bool true))), .none⟩])
  (.ret none))))))))
def ir5 : F := { n := 86, res := [.tmp 4], body := bd5 }
@[go_sem] theorem n5 : ir5.n = 86 := rfl
@[go_sem] theorem r5 : ir5.res = [.tmp 4] := rfl
@[go_sem] theorem b5 : ir5.body = bd5 := rfl
def lb6_2 : C :=
  (.seq (.reg [⟨some 114, none, .bin .lss (.s 113) (.s 112), .none⟩])
  (.seq (.cond (.s 114)
    .skip
    (.exit 4 (some [5, 6, 7, 8, 9, 12, 13, 16, 39, 104, 105, 106])))
  (.seq (.block 5 (.seq (.reg [⟨some 115, none, .is (.s 111) (.s 113) 3, .none⟩,
        ⟨some 116, none, .ld (.s 115) 3 true, .none⟩,
        ⟨some 18, none, .alloc 65 [.int .i64 0, .int .i64 0, .int .i64 0], .none⟩,
        ⟨none, none, .st (.s 18) (.s 116) 3, .none⟩])
    (.reg [⟨some 117, none, .mv (.s 16), .none⟩,
       ⟨some 118, none, .mv (.s 117), .none⟩,
       ⟨some 119, some (118, false), .fa (.s 18) 0, .none⟩,
       ⟨some 120, some (118, false), .ld (.s 119) 1 false, .none⟩,
       ⟨some 121, some (118, false), .fa (.s 15) 0, .none⟩,
       ⟨some 122, some (118, false), .ld (.s 121) 1 false, .none⟩,
       ⟨some 123, some (118, false), .bin .eql (.s 120) (.s 122), .none⟩,
       ⟨some 124, none, .pick (.s 118) (.c (.d (.bool true))) (.s 123), .none⟩,
       ⟨some 16, none, .mv (.s 124), .none⟩])))
  (.reg [⟨some 125, none, .bin .add (.s 113) (.c (.d (.int .i64 1))), .none⟩,
     ⟨some 113, none, .mv (.s 125), .none⟩]))))
def lp6_2 : C := lb6_2
theorem u6_2 (c : Ev.Callee) (l : Ev.Looper) (s : St) : evC c l lp6_2 s = evC c l lb6_2 s := rfl
abbrev st6_2 (m : Nat) (s5 s6 s7 s8 s9 s12 s13 s15 s16 s39 s104 s105 s106 s111 s112 s113 : AV) (h : Heap) : St := ⟨m, [.unk, .unk, .unk, .unk, .unk, s5, s6, s7, s8, s9, .unk, .unk, s12, s13, .unk, s15, s16, .unk, .unk, .unk, .unk, .unk, .unk, .unk, .unk, .unk, .unk, .unk, .unk, .unk, .unk, .unk, .unk, .unk, .unk, .unk, .unk, .unk, .unk, s39, .unk, .unk, .unk, .unk, .unk, .unk, .unk, .unk, .unk, .unk, .unk, .unk, .unk, .unk, .unk, .unk, .unk, .unk, .unk, .unk, .unk, .unk, .unk, .unk, .unk, .unk, .unk, .unk, .unk, .unk, .unk, .unk, .unk, .unk, .unk, .unk, .unk, .unk, .unk, .unk, .unk, .unk, .unk, .unk, .unk, .unk, .unk, .unk, .unk, .unk, .unk, .unk, .unk, .unk, .unk, .unk, .unk, .unk, .unk, .unk, .unk, .unk, .unk, .unk, s104, s105, s106, .unk, .unk, .unk, .unk, s111, s112, s113, .unk, .unk, .unk, .unk, .unk, .unk, .unk, .unk, .unk, .unk, .unk, .unk, .unk, .unk, .unk, .unk, .unk, .unk, .unk, .unk, .unk, .unk, .unk, .unk, .unk, .unk, .unk, .unk, .unk, .unk, .unk, .unk], h⟩
def lb6_1 : C :=
  (.seq (.reg [⟨some 107, none, .bin .lss (.s 106) (.s 105), .none⟩])
  (.seq (.cond (.s 107)
    .skip
    (.exit 2 (some [5, 6, 7, 8, 9, 13, 39])))
  (.seq (.block 3 (.seq (.reg [⟨some 108, none, .is (.s 104) (.s 106) 3, .none⟩,
        ⟨some 109, none, .ld (.s 108) 3 true, .none⟩,
        ⟨some 15, none, .alloc 65 [.int .i64 0, .int .i64 0, .int .i64 0], .none⟩,
        ⟨none, none, .st (.s 15) (.s 109) 3, .none⟩])
    (.seq (.reg [⟨some 16, none, .mv (.c (.d (.bool false))), .none⟩])
    (.seq (.seq (.reg [⟨some 110, none, .fa (.s 12) 8, .none⟩,
         ⟨some 111, none, .ld (.s 110) 1 false, .none⟩,
         ⟨some 112, none, .len (.s 111), .none⟩,
         ⟨some 113, none, .mv (.c (.d (.int .i64 0))), .none⟩])
     (.block 4 (.loop [5, 6, 7, 8, 9, 12, 13, 15, 16, 39, 104, 105, 106, 111, 112, 113] lp6_2)))
    (.reg [⟨some 126, none, .mv (.s 13), .none⟩,
       ⟨some 127, none, .mv (.s 126), .none⟩,
       ⟨some 128, some (127, true), .mv (.s 16), .none⟩,
       ⟨some 129, none, .pick (.s 127) (.s 128) (.c (.d (.bool false))), .none⟩,
       ⟨some 13, none, .mv (.s 129), .none⟩])))))
  (.reg [⟨some 130, none, .bin .add (.s 106) (.c (.d (.int .i64 1))), .none⟩,
     ⟨some 106, none, .mv (.s 130), .none⟩]))))
def lp6_1 : C := lb6_1
theorem u6_1 (c : Ev.Callee) (l : Ev.Looper) (s : St) : evC c l lp6_1 s = evC c l lb6_1 s := rfl
abbrev st6_1 (m : Nat) (s5 s6 s7 s8 s9 s12 s13 s39 s104 s105 s106 : AV) (h : Heap) : St := ⟨m, [.unk, .unk, .unk, .unk, .unk, s5, s6, s7, s8, s9, .unk, .unk, s12, s13, .unk, .unk, .unk, .unk, .unk, .unk, .unk, .unk, .unk, .unk, .unk, .unk, .unk, .unk, .unk, .unk, .unk, .unk, .unk, .unk, .unk, .unk, .unk, .unk, .unk, s39, .unk, .unk, .unk, .unk, .unk, .unk, .unk, .unk, .unk, .unk, .unk, .unk, .unk, .unk, .unk, .unk, .unk, .unk, .unk, .unk, .unk, .unk, .unk, .unk, .unk, .unk, .unk, .unk, .unk, .unk, .unk, .unk, .unk, .unk, .unk, .unk, .unk, .unk, .unk, .unk, .unk, .unk, .unk, .unk, .unk, .unk, .unk, .unk, .unk, .unk, .unk, .unk, .unk, .unk, .unk, .unk, .unk, .unk, .unk, .unk, .unk, .unk, .unk, .unk, s104, s105, s106, .unk, .unk, .unk, .unk, .unk, .unk, .unk, .unk, .unk, .unk, .unk, .unk, .unk, .unk, .unk, .unk, .unk, .unk, .unk, .unk, .unk, .unk, .unk, .unk, .unk, .unk, .unk, .unk, .unk, .unk, .unk, .unk, .unk, .unk, .unk, .unk, .unk, .unk, .unk], h⟩
def lb6_0 : C :=
  (.seq (.reg [⟨some 40, none, .bin .lss (.s 39) (.c (.d (.int .i64 16))), .none⟩])
  (.seq (.cond (.s 40)
    .skip
    (.exit 0 (some [5, 7, 9])))
  (.seq (.block 1 (.seq (.reg [⟨some 41, none, .mv (.s 39), .none⟩,
        ⟨some 10, none, .mv (.s 41), .none⟩])
    (.seq (.drr [⟨some 42, none, .mv (.s 6), .none⟩,
        ⟨some 43, none, .mv (.s 10), .none⟩,
        ⟨some 44, none, .nc (.s 42), .none⟩,
        ⟨some 45, none, .fa (.s 44) 0, .none⟩,
        ⟨some 46, none, .ia (.s 45) (.s 43) 16 12, .none⟩,
        ⟨some 47, none, .ld (.s 46) 12 true, .none⟩,
        ⟨some 48, none, .mv (.s 8), .none⟩,
        ⟨some 49, none, .mv (.s 10), .none⟩,
        ⟨some 50, none, .nc (.s 48), .none⟩,
        ⟨some 51, none, .fa (.s 50) 0, .none⟩,
        ⟨some 52, none, .ia (.s 51) (.s 49) 16 12, .none⟩,
        ⟨some 53, none, .ld (.s 52) 12 true, .none⟩,
        ⟨some 11, none, .alloc 60 [.bool false, .int .i64 0, .int .i64 0, .str [], .int .i64 0, .int .i64 0, .int .i64 0, .int .i64 0, .nils, .int .i64 0, .int .i64 0, .int .i64 0], .res [(8, 3, false)]⟩,
        ⟨some 12, none, .alloc 60 [.bool false, .int .i64 0, .int .i64 0, .str [], .int .i64 0, .int .i64 0, .int .i64 0, .int .i64 0, .nils, .int .i64 0, .int .i64 0, .int .i64 0], .res [(8, 3, false)]⟩,
        ⟨none, none, .st (.s 11) (.s 47) 12, .none⟩,
        ⟨none, none, .st (.s 12) (.s 53) 12, .none⟩]
       [[], [], [0], [2], [3, 1], [4], [], [], [6], [8], [9, 7], [10], [], [], [12, 5, 0, 1, 2, 3, 4, 5, 12, 13], [13, 11, 14, 0, 1, 2, 3, 4, 5, 6, 7, 8, 9, 10, 11, 12, 13, 14]] [(52, 11)] [] [])
    (.seq (.reg [⟨some 54, none, .mv (.s 9), .none⟩,
        ⟨some 55, none, .mv (.s 54), .none⟩,
        ⟨some 56, some (55, true), .fa (.s 11) 9, .none⟩,
        ⟨some 57, some (55, true), .ld (.s 56) 1 false, .none⟩,
        ⟨some 58, some (55, true), .fa (.s 12) 9, .none⟩,
        ⟨some 59, some (55, true), .ld (.s 58) 1 false, .none⟩,
        ⟨some 60, some (55, true), .bin .leq (.s 57) (.s 59), .none⟩,
        ⟨some 61, none, .pick (.s 55) (.s 60) (.c (.d (.bool false))), .none⟩,
        ⟨some 9, none, .mv (.s 61), .none⟩])
    (.seq (.seq (.reg [⟨some 62, none, .fa (.s 11) 0, .none⟩,
         ⟨some 63, none, .ld (.s 62) 1 false, .none⟩,
         ⟨some 64, none, .un .not (.s 63), .none⟩])
     (.cond (.s 64)
      (.exit 1 none)
      .skip))
    (.seq (.reg [⟨some 65, none, .fa (.s 12) 0, .none⟩,
        ⟨some 66, none, .ld (.s 65) 1 false, .none⟩,
        ⟨some 67, none, .mv (.s 66), .none⟩,
        ⟨some 68, some (67, true), .fa (.s 11) 1, .none⟩,
        ⟨some 69, some (67, true), .fa (.s 68) 1, .none⟩,
        ⟨some 70, some (67, true), .ld (.s 69) 1 false, .none⟩,
        ⟨some 71, some (67, true), .fa (.s 12) 1, .none⟩,
        ⟨some 72, some (67, true), .fa (.s 71) 1, .none⟩,
        ⟨some 73, some (67, true), .ld (.s 72) 1 false, .none⟩,
        ⟨some 74, some (67, true), .bin .eql (.s 70) (.s 73), .none⟩,
        ⟨some 75, none, .pick (.s 67) (.s 74) (.c (.d (.bool false))), .none⟩,
        ⟨some 76, none, .mv (.s 75), .none⟩,
        ⟨some 77, some (76, true), .fa (.s 11) 1, .none⟩,
        ⟨some 78, some (76, true), .fa (.s 77) 2, .none⟩,
        ⟨some 79, some (76, true), .ld (.s 78) 1 false, .none⟩,
        ⟨some 80, some (76, true), .fa (.s 12) 1, .none⟩,
        ⟨some 81, some (76, true), .fa (.s 80) 2, .none⟩,
        ⟨some 82, some (76, true), .ld (.s 81) 1 false, .none⟩,
        ⟨some 83, some (76, true), .bin .eql (.s 79) (.s 82), .none⟩,
        ⟨some 84, none, .pick (.s 76) (.s 83) (.c (.d (.bool false))), .none⟩,
        ⟨some 85, none, .mv (.s 84), .none⟩,
        ⟨some 86, some (85, true), .fa (.s 11) 1, .none⟩,
        ⟨some 87, some (85, true), .fa (.s 86) 3, .none⟩,
        ⟨some 88, some (85, true), .ld (.s 87) 1 false, .none⟩,
        ⟨some 89, some (85, true), .fa (.s 12) 1, .none⟩,
        ⟨some 90, some (85, true), .fa (.s 89) 3, .none⟩,
        ⟨some 91, some (85, true), .ld (.s 90) 1 false, .none⟩,
        ⟨some 92, some (85, true), .bin .eql (.s 88) (.s 91), .none⟩,
        ⟨some 93, none, .pick (.s 85) (.s 92) (.c (.d (.bool false))), .none⟩,
        ⟨some 94, none, .mv (.s 93), .none⟩,
        ⟨some 95, some (94, true), .fa (.s 11) 1, .none⟩,
        ⟨some 96, some (94, true), .fa (.s 95) 4, .none⟩,
        ⟨some 97, some (94, true), .ld (.s 96) 1 false, .none⟩,
        ⟨some 98, some (94, true), .fa (.s 12) 1, .none⟩,
        ⟨some 99, some (94, true), .fa (.s 98) 4, .none⟩,
        ⟨some 100, some (94, true), .ld (.s 99) 1 false, .none⟩,
        ⟨some 101, some (94, true), .bin .leq (.s 97) (.s 100), .none⟩,
        ⟨some 102, none, .pick (.s 94) (.s 101) (.c (.d (.bool false))), .none⟩,
        ⟨some 13, none, .mv (.s 102), .none⟩])
    (.seq (.seq (.reg [⟨some 103, none, .fa (.s 11) 8, .none⟩,
         ⟨some 104, none, .ld (.s 103) 1 false, .none⟩,
         ⟨some 105, none, .len (.s 104), .none⟩,
         ⟨some 106, none, .mv (.c (.d (.int .i64 0))), .none⟩])
     (.block 2 (.loop [5, 6, 7, 8, 9, 12, 13, 39, 104, 105, 106] lp6_1)))
    (.reg [⟨some 131, none, .mv (.s 9), .none⟩,
       ⟨some 132, none, .mv (.s 131), .none⟩,
       ⟨some 133, some (132, true), .mv (.s 13), .none⟩,
       ⟨some 134, none, .pick (.s 132) (.s 133) (.c (.d (.bool false))), .none⟩,
       ⟨some 9, none, .mv (.s 134), .none⟩]))))))))
  (.reg [⟨some 135, none, .bin .add (.s 39) (.c (.d (.int .i64 1))), .none⟩,
     ⟨some 39, none, .mv (.s 135), .none⟩]))))
def lp6_0 : C := lb6_0
theorem u6_0 (c : Ev.Callee) (l : Ev.Looper) (s : St) : evC c l lp6_0 s = evC c l lb6_0 s := rfl
abbrev st6_0 (m : Nat) (s5 s6 s7 s8 s9 s39 : AV) (h : Heap) : St := ⟨m, [.unk, .unk, .unk, .unk, .unk, s5, s6, s7, s8, s9, .unk, .unk, .unk, .unk, .unk, .unk, .unk, .unk, .unk, .unk, .unk, .unk, .unk, .unk, .unk, .unk, .unk, .unk, .unk, .unk, .unk, .unk, .unk, .unk, .unk, .unk, .unk, .unk, .unk, s39, .unk, .unk, .unk, .unk, .unk, .unk, .unk, .unk, .unk, .unk, .unk, .unk, .unk, .unk, .unk, .unk, .unk, .unk, .unk, .unk, .unk, .unk, .unk, .unk, .unk, .unk, .unk, .unk, .unk, .unk, .unk, .unk, .unk, .unk, .unk, .unk, .unk, .unk, .unk, .unk, .unk, .unk, .unk, .unk, .unk, .unk, .unk, .unk, .unk, .unk, .unk, .unk, .unk, .unk, .unk, .unk, .unk, .unk, .unk, .unk, .unk, .unk, .unk, .unk, .unk, .unk, .unk, .unk, .unk, .unk, .unk, .unk, .unk, .unk, .unk, .unk, .unk, .unk, .unk, .unk, .unk, .unk, .unk, .unk, .unk, .unk, .unk, .unk, .unk, .unk, .unk, .unk, .unk, .unk, .unk, .unk, .unk, .unk, .unk, .unk, .unk, .unk, .unk, .unk, .unk, .unk], h⟩
@[go_sem] theorem ks6_0 (v0 v1 v2 v3 v4 v5 v6 v7 v8 v9 v10 v11 v12 v13 v14 v15 v16 v17 v18 v19 v20 v21 v22 v23 v24 v25 v26 v27 v28 v29 v30 v31 v32 v33 v34 v35 v36 v37 v38 v39 v40 v41 v42 v43 v44 v45 v46 v47 v48 v49 v50 v51 v52 v53 v54 v55 v56 v57 v58 v59 v60 v61 v62 v63 v64 v65 v66 v67 v68 v69 v70 v71 v72 v73 v74 v75 v76 v77 v78 v79 v80 v81 v82 v83 v84 v85 v86 v87 v88 v89 v90 v91 v92 v93 v94 v95 v96 v97 v98 v99 v100 v101 v102 v103 v104 v105 v106 v107 v108 v109 v110 v111 v112 v113 v114 v115 v116 v117 v118 v119 v120 v121 v122 v123 v124 v125 v126 v127 v128 v129 v130 v131 v132 v133 v134 v135 v136 v137 v138 v139 v140 v141 v142 v143 v144 v145 : AV) : keepS [5, 6, 7, 8, 9, 39] [v0, v1, v2, v3, v4, v5, v6, v7, v8, v9, v10, v11, v12, v13, v14, v15, v16, v17, v18, v19, v20, v21, v22, v23, v24, v25, v26, v27, v28, v29, v30, v31, v32, v33, v34, v35, v36, v37, v38, v39, v40, v41, v42, v43, v44, v45, v46, v47, v48, v49, v50, v51, v52, v53, v54, v55, v56, v57, v58, v59, v60, v61, v62, v63, v64, v65, v66, v67, v68, v69, v70, v71, v72, v73, v74, v75, v76, v77, v78, v79, v80, v81, v82, v83, v84, v85, v86, v87, v88, v89, v90, v91, v92, v93, v94, v95, v96, v97, v98, v99, v100, v101, v102, v103, v104, v105, v106, v107, v108, v109, v110, v111, v112, v113, v114, v115, v116, v117, v118, v119, v120, v121, v122, v123, v124, v125, v126, v127, v128, v129, v130, v131, v132, v133, v134, v135, v136, v137, v138, v139, v140, v141, v142, v143, v144, v145] 0 = [.unk, .unk, .unk, .unk, .unk, v5, v6, v7, v8, v9, .unk, .unk, .unk, .unk, .unk, .unk, .unk, .unk, .unk, .unk, .unk, .unk, .unk, .unk, .unk, .unk, .unk, .unk, .unk, .unk, .unk, .unk, .unk, .unk, .unk, .unk, .unk, .unk, .unk, v39, .unk, .unk, .unk, .unk, .unk, .unk, .unk, .unk, .unk, .unk, .unk, .unk, .unk, .unk, .unk, .unk, .unk, .unk, .unk, .unk, .unk, .unk, .unk, .unk, .unk, .unk, .unk, .unk, .unk, .unk, .unk, .unk, .unk, .unk, .unk, .unk, .unk, .unk, .unk, .unk, .unk, .unk, .unk, .unk, .unk, .unk, .unk, .unk, .unk, .unk, .unk, .unk, .unk, .unk, .unk, .unk, .unk, .unk, .unk, .unk, .unk, .unk, .unk, .unk, .unk, .unk, .unk, .unk, .unk, .unk, .unk, .unk, .unk, .unk, .unk, .unk, .unk, .unk, .unk, .unk, .unk, .unk, .unk, .unk, .unk, .unk, .unk, .unk, .unk, .unk, .unk, .unk, .unk, .unk, .unk, .unk, .unk, .unk, .unk, .unk, .unk, .unk, .unk, .unk, .unk, .unk] := rfl
@[go_sem] theorem ks6_1 (v0 v1 v2 v3 v4 v5 v6 v7 v8 v9 v10 v11 v12 v13 v14 v15 v16 v17 v18 v19 v20 v21 v22 v23 v24 v25 v26 v27 v28 v29 v30 v31 v32 v33 v34 v35 v36 v37 v38 v39 v40 v41 v42 v43 v44 v45 v46 v47 v48 v49 v50 v51 v52 v53 v54 v55 v56 v57 v58 v59 v60 v61 v62 v63 v64 v65 v66 v67 v68 v69 v70 v71 v72 v73 v74 v75 v76 v77 v78 v79 v80 v81 v82 v83 v84 v85 v86 v87 v88 v89 v90 v91 v92 v93 v94 v95 v96 v97 v98 v99 v100 v101 v102 v103 v104 v105 v106 v107 v108 v109 v110 v111 v112 v113 v114 v115 v116 v117 v118 v119 v120 v121 v122 v123 v124 v125 v126 v127 v128 v129 v130 v131 v132 v133 v134 v135 v136 v137 v138 v139 v140 v141 v142 v143 v144 v145 : AV) : keepS [5, 7, 9] [v0, v1, v2, v3, v4, v5, v6, v7, v8, v9, v10, v11, v12, v13, v14, v15, v16, v17, v18, v19, v20, v21, v22, v23, v24, v25, v26, v27, v28, v29, v30, v31, v32, v33, v34, v35, v36, v37, v38, v39, v40, v41, v42, v43, v44, v45, v46, v47, v48, v49, v50, v51, v52, v53, v54, v55, v56, v57, v58, v59, v60, v61, v62, v63, v64, v65, v66, v67, v68, v69, v70, v71, v72, v73, v74, v75, v76, v77, v78, v79, v80, v81, v82, v83, v84, v85, v86, v87, v88, v89, v90, v91, v92, v93, v94, v95, v96, v97, v98, v99, v100, v101, v102, v103, v104, v105, v106, v107, v108, v109, v110, v111, v112, v113, v114, v115, v116, v117, v118, v119, v120, v121, v122, v123, v124, v125, v126, v127, v128, v129, v130, v131, v132, v133, v134, v135, v136, v137, v138, v139, v140, v141, v142, v143, v144, v145] 0 = [.unk, .unk, .unk, .unk, .unk, v5, .unk, v7, .unk, v9, .unk, .unk, .unk, .unk, .unk, .unk, .unk, .unk, .unk, .unk, .unk, .unk, .unk, .unk, .unk, .unk, .unk, .unk, .unk, .unk, .unk, .unk, .unk, .unk, .unk, .unk, .unk, .unk, .unk, .unk, .unk, .unk, .unk, .unk, .unk, .unk, .unk, .unk, .unk, .unk, .unk, .unk, .unk, .unk, .unk, .unk, .unk, .unk, .unk, .unk, .unk, .unk, .unk, .unk, .unk, .unk, .unk, .unk, .unk, .unk, .unk, .unk, .unk, .unk, .unk, .unk, .unk, .unk, .unk, .unk, .unk, .unk, .unk, .unk, .unk, .unk, .unk, .unk, .unk, .unk, .unk, .unk, .unk, .unk, .unk, .unk, .unk, .unk, .unk, .unk, .unk, .unk, .unk, .unk, .unk, .unk, .unk, .unk, .unk, .unk, .unk, .unk, .unk, .unk, .unk, .unk, .unk, .unk, .unk, .unk, .unk, .unk, .unk, .unk, .unk, .unk, .unk, .unk, .unk, .unk, .unk, .unk, .unk, .unk, .unk, .unk, .unk, .unk, .unk, .unk, .unk, .unk, .unk, .unk, .unk, .unk] := rfl
@[go_sem] theorem ks6_2 (v0 v1 v2 v3 v4 v5 v6 v7 v8 v9 v10 v11 v12 v13 v14 v15 v16 v17 v18 v19 v20 v21 v22 v23 v24 v25 v26 v27 v28 v29 v30 v31 v32 v33 v34 v35 v36 v37 v38 v39 v40 v41 v42 v43 v44 v45 v46 v47 v48 v49 v50 v51 v52 v53 v54 v55 v56 v57 v58 v59 v60 v61 v62 v63 v64 v65 v66 v67 v68 v69 v70 v71 v72 v73 v74 v75 v76 v77 v78 v79 v80 v81 v82 v83 v84 v85 v86 v87 v88 v89 v90 v91 v92 v93 v94 v95 v96 v97 v98 v99 v100 v101 v102 v103 v104 v105 v106 v107 v108 v109 v110 v111 v112 v113 v114 v115 v116 v117 v118 v119 v120 v121 v122 v123 v124 v125 v126 v127 v128 v129 v130 v131 v132 v133 v134 v135 v136 v137 v138 v139 v140 v141 v142 v143 v144 v145 : AV) : keepS [5, 6, 7, 8, 9, 12, 13, 39, 104, 105, 106] [v0, v1, v2, v3, v4, v5, v6, v7, v8, v9, v10, v11, v12, v13, v14, v15, v16, v17, v18, v19, v20, v21, v22, v23, v24, v25, v26, v27, v28, v29, v30, v31, v32, v33, v34, v35, v36, v37, v38, v39, v40, v41, v42, v43, v44, v45, v46, v47, v48, v49, v50, v51, v52, v53, v54, v55, v56, v57, v58, v59, v60, v61, v62, v63, v64, v65, v66, v67, v68, v69, v70, v71, v72, v73, v74, v75, v76, v77, v78, v79, v80, v81, v82, v83, v84, v85, v86, v87, v88, v89, v90, v91, v92, v93, v94, v95, v96, v97, v98, v99, v100, v101, v102, v103, v104, v105, v106, v107, v108, v109, v110, v111, v112, v113, v114, v115, v116, v117, v118, v119, v120, v121, v122, v123, v124, v125, v126, v127, v128, v129, v130, v131, v132, v133, v134, v135, v136, v137, v138, v139, v140, v141, v142, v143, v144, v145] 0 = [.unk, .unk, .unk, .unk, .unk, v5, v6, v7, v8, v9, .unk, .unk, v12, v13, .unk, .unk, .unk, .unk, .unk, .unk, .unk, .unk, .unk, .unk, .unk, .unk, .unk, .unk, .unk, .unk, .unk, .unk, .unk, .unk, .unk, .unk, .unk, .unk, .unk, v39, .unk, .unk, .unk, .unk, .unk, .unk, .unk, .unk, .unk, .unk, .unk, .unk, .unk, .unk, .unk, .unk, .unk, .unk, .unk, .unk, .unk, .unk, .unk, .unk, .unk, .unk, .unk, .unk, .unk, .unk, .unk, .unk, .unk, .unk, .unk, .unk, .unk, .unk, .unk, .unk, .unk, .unk, .unk, .unk, .unk, .unk, .unk, .unk, .unk, .unk, .unk, .unk, .unk, .unk, .unk, .unk, .unk, .unk, .unk, .unk, .unk, .unk, .unk, .unk, v104, v105, v106, .unk, .unk, .unk, .unk, .unk, .unk, .unk, .unk, .unk, .unk, .unk, .unk, .unk, .unk, .unk, .unk, .unk, .unk, .unk, .unk, .unk, .unk, .unk, .unk, .unk, .unk, .unk, .unk, .unk, .unk, .unk, .unk, .unk, .unk, .unk, .unk, .unk, .unk, .unk] := rfl
@[go_sem] theorem ks6_3 (v0 v1 v2 v3 v4 v5 v6 v7 v8 v9 v10 v11 v12 v13 v14 v15 v16 v17 v18 v19 v20 v21 v22 v23 v24 v25 v26 v27 v28 v29 v30 v31 v32 v33 v34 v35 v36 v37 v38 v39 v40 v41 v42 v43 v44 v45 v46 v47 v48 v49 v50 v51 v52 v53 v54 v55 v56 v57 v58 v59 v60 v61 v62 v63 v64 v65 v66 v67 v68 v69 v70 v71 v72 v73 v74 v75 v76 v77 v78 v79 v80 v81 v82 v83 v84 v85 v86 v87 v88 v89 v90 v91 v92 v93 v94 v95 v96 v97 v98 v99 v100 v101 v102 v103 v104 v105 v106 v107 v108 v109 v110 v111 v112 v113 v114 v115 v116 v117 v118 v119 v120 v121 v122 v123 v124 v125 v126 v127 v128 v129 v130 v131 v132 v133 v134 v135 v136 v137 v138 v139 v140 v141 v142 v143 v144 v145 : AV) : keepS [5, 6, 7, 8, 9, 13, 39] [v0, v1, v2, v3, v4, v5, v6, v7, v8, v9, v10, v11, v12, v13, v14, v15, v16, v17, v18, v19, v20, v21, v22, v23, v24, v25, v26, v27, v28, v29, v30, v31, v32, v33, v34, v35, v36, v37, v38, v39, v40, v41, v42, v43, v44, v45, v46, v47, v48, v49, v50, v51, v52, v53, v54, v55, v56, v57, v58, v59, v60, v61, v62, v63, v64, v65, v66, v67, v68, v69, v70, v71, v72, v73, v74, v75, v76, v77, v78, v79, v80, v81, v82, v83, v84, v85, v86, v87, v88, v89, v90, v91, v92, v93, v94, v95, v96, v97, v98, v99, v100, v101, v102, v103, v104, v105, v106, v107, v108, v109, v110, v111, v112, v113, v114, v115, v116, v117, v118, v119, v120, v121, v122, v123, v124, v125, v126, v127, v128, v129, v130, v131, v132, v133, v134, v135, v136, v137, v138, v139, v140, v141, v142, v143, v144, v145] 0 = [.unk, .unk, .unk, .unk, .unk, v5, v6, v7, v8, v9, .unk, .unk, .unk, v13, .unk, .unk, .unk, .unk, .unk, .unk, .unk, .unk, .unk, .unk, .unk, .unk, .unk, .unk, .unk, .unk, .unk, .unk, .unk, .unk, .unk, .unk, .unk, .unk, .unk, v39, .unk, .unk, .unk, .unk, .unk, .unk, .unk, .unk, .unk, .unk, .unk, .unk, .unk, .unk, .unk, .unk, .unk, .unk, .unk, .unk, .unk, .unk, .unk, .unk, .unk, .unk, .unk, .unk, .unk, .unk, .unk, .unk, .unk, .unk, .unk, .unk, .unk, .unk, .unk, .unk, .unk, .unk, .unk, .unk, .unk, .unk, .unk, .unk, .unk, .unk, .unk, .unk, .unk, .unk, .unk, .unk, .unk, .unk, .unk, .unk, .unk, .unk, .unk, .unk, .unk, .unk, .unk, .unk, .unk, .unk, .unk, .unk, .unk, .unk, .unk, .unk, .unk, .unk, .unk, .unk, .unk, .unk, .unk, .unk, .unk, .unk, .unk, .unk, .unk, .unk, .unk, .unk, .unk, .unk, .unk, .unk, .unk, .unk, .unk, .unk, .unk, .unk, .unk, .unk, .unk, .unk] := rfl
@[go_sem] theorem ks6_4 (v0 v1 v2 v3 v4 v5 v6 v7 v8 v9 v10 v11 v12 v13 v14 v15 v16 v17 v18 v19 v20 v21 v22 v23 v24 v25 v26 v27 v28 v29 v30 v31 v32 v33 v34 v35 v36 v37 v38 v39 v40 v41 v42 v43 v44 v45 v46 v47 v48 v49 v50 v51 v52 v53 v54 v55 v56 v57 v58 v59 v60 v61 v62 v63 v64 v65 v66 v67 v68 v69 v70 v71 v72 v73 v74 v75 v76 v77 v78 v79 v80 v81 v82 v83 v84 v85 v86 v87 v88 v89 v90 v91 v92 v93 v94 v95 v96 v97 v98 v99 v100 v101 v102 v103 v104 v105 v106 v107 v108 v109 v110 v111 v112 v113 v114 v115 v116 v117 v118 v119 v120 v121 v122 v123 v124 v125 v126 v127 v128 v129 v130 v131 v132 v133 v134 v135 v136 v137 v138 v139 v140 v141 v142 v143 v144 v145 : AV) : keepS [5, 6, 7, 8, 9, 12, 13, 15, 16, 39, 104, 105, 106, 111, 112, 113] [v0, v1, v2, v3, v4, v5, v6, v7, v8, v9, v10, v11, v12, v13, v14, v15, v16, v17, v18, v19, v20, v21, v22, v23, v24, v25, v26, v27, v28, v29, v30, v31, v32, v33, v34, v35, v36, v37, v38, v39, v40, v41, v42, v43, v44, v45, v46, v47, v48, v49, v50, v51, v52, v53, v54, v55, v56, v57, v58, v59, v60, v61, v62, v63, v64, v65, v66, v67, v68, v69, v70, v71, v72, v73, v74, v75, v76, v77, v78, v79, v80, v81, v82, v83, v84, v85, v86, v87, v88, v89, v90, v91, v92, v93, v94, v95, v96, v97, v98, v99, v100, v101, v102, v103, v104, v105, v106, v107, v108, v109, v110, v111, v112, v113, v114, v115, v116, v117, v118, v119, v120, v121, v122, v123, v124, v125, v126, v127, v128, v129, v130, v131, v132, v133, v134, v135, v136, v137, v138, v139, v140, v141, v142, v143, v144, v145] 0 = [.unk, .unk, .unk, .unk, .unk, v5, v6, v7, v8, v9, .unk, .unk, v12, v13, .unk, v15, v16, .unk, .unk, .unk, .unk, .unk, .unk, .unk, .unk, .unk, .unk, .unk, .unk, .unk, .unk, .unk, .unk, .unk, .unk, .unk, .unk, .unk, .unk, v39, .unk, .unk, .unk, .unk, .unk, .unk, .unk, .unk, .unk, .unk, .unk, .unk, .unk, .unk, .unk, .unk, .unk, .unk, .unk, .unk, .unk, .unk, .unk, .unk, .unk, .unk, .unk, .unk, .unk, .unk, .unk, .unk, .unk, .unk, .unk, .unk, .unk, .unk, .unk, .unk, .unk, .unk, .unk, .unk, .unk, .unk, .unk, .unk, .unk, .unk, .unk, .unk, .unk, .unk, .unk, .unk, .unk, .unk, .unk, .unk, .unk, .unk, .unk, .unk, v104, v105, v106, .unk, .unk, .unk, .unk, v111, v112, v113, .unk, .unk, .unk, .unk, .unk, .unk, .unk, .unk, .unk, .unk, .unk, .unk, .unk, .unk, .unk, .unk, .unk, .unk, .unk, .unk, .unk, .unk, .unk, .unk, .unk, .unk, .unk, .unk, .unk, .unk, .unk, .unk] := rfl
@[go_sem] theorem ks6_5 (v0 v1 v2 v3 v4 v5 v6 v7 v8 v9 v10 v11 v12 v13 v14 v15 v16 v17 v18 v19 v20 v21 v22 v23 v24 v25 v26 v27 v28 v29 v30 v31 v32 v33 v34 v35 v36 v37 v38 v39 v40 v41 v42 v43 v44 v45 v46 v47 v48 v49 v50 v51 v52 v53 v54 v55 v56 v57 v58 v59 v60 v61 v62 v63 v64 v65 v66 v67 v68 v69 v70 v71 v72 v73 v74 v75 v76 v77 v78 v79 v80 v81 v82 v83 v84 v85 v86 v87 v88 v89 v90 v91 v92 v93 v94 v95 v96 v97 v98 v99 v100 v101 v102 v103 v104 v105 v106 v107 v108 v109 v110 v111 v112 v113 v114 v115 v116 v117 v118 v119 v120 v121 v122 v123 v124 v125 v126 v127 v128 v129 v130 v131 v132 v133 v134 v135 v136 v137 v138 v139 v140 v141 v142 v143 v144 v145 : AV) : keepS [5, 6, 7, 8, 9, 12, 13, 16, 39, 104, 105, 106] [v0, v1, v2, v3, v4, v5, v6, v7, v8, v9, v10, v11, v12, v13, v14, v15, v16, v17, v18, v19, v20, v21, v22, v23, v24, v25, v26, v27, v28, v29, v30, v31, v32, v33, v34, v35, v36, v37, v38, v39, v40, v41, v42, v43, v44, v45, v46, v47, v48, v49, v50, v51, v52, v53, v54, v55, v56, v57, v58, v59, v60, v61, v62, v63, v64, v65, v66, v67, v68, v69, v70, v71, v72, v73, v74, v75, v76, v77, v78, v79, v80, v81, v82, v83, v84, v85, v86, v87, v88, v89, v90, v91, v92, v93, v94, v95, v96, v97, v98, v99, v100, v101, v102, v103, v104, v105, v106, v107, v108, v109, v110, v111, v112, v113, v114, v115, v116, v117, v118, v119, v120, v121, v122, v123, v124, v125, v126, v127, v128, v129, v130, v131, v132, v133, v134, v135, v136, v137, v138, v139, v140, v141, v142, v143, v144, v145] 0 = [.unk, .unk, .unk, .unk, .unk, v5, v6, v7, v8, v9, .unk, .unk, v12, v13, .unk, .unk, v16, .unk, .unk, .unk, .unk, .unk, .unk, .unk, .unk, .unk, .unk, .unk, .unk, .unk, .unk, .unk, .unk, .unk, .unk, .unk, .unk, .unk, .unk, v39, .unk, .unk, .unk, .unk, .unk, .unk, .unk, .unk, .unk, .unk, .unk, .unk, .unk, .unk, .unk, .unk, .unk, .unk, .unk, .unk, .unk, .unk, .unk, .unk, .unk, .unk, .unk, .unk, .unk, .unk, .unk, .unk, .unk, .unk, .unk, .unk, .unk, .unk, .unk, .unk, .unk, .unk, .unk, .unk, .unk, .unk, .unk, .unk, .unk, .unk, .unk, .unk, .unk, .unk, .unk, .unk, .unk, .unk, .unk, .unk, .unk, .unk, .unk, .unk, v104, v105, v106, .unk, .unk, .unk, .unk, .unk, .unk, .unk, .unk, .unk, .unk, .unk, .unk, .unk, .unk, .unk, .unk, .unk, .unk, .unk, .unk, .unk, .unk, .unk, .unk, .unk, .unk, .unk, .unk, .unk, .unk, .unk, .unk, .unk, .unk, .unk, .unk, .unk, .unk, .unk] := rfl
/-- spence/spencelaw20.ReplayWithin -/
def bd6 : C :=
  (.seq (.reg [⟨some 4, none, .mv (.c (.d (.bool false))), .none⟩])
  (.seq (.seq (.reg [⟨some 19, none, .call 7 [] 2, .none⟩,
       ⟨some 20, none, .un .not (.s 19), .none⟩])
   (.cond (.s 20)
    (.seq (.reg [⟨some 4, none, .mv (.c (.d (.bool false))), .none⟩])
    (.ret none))
    .skip))
  (.seq (.seq (.reg [⟨some 21, none, .mv (.s 0), .none⟩,
       ⟨some 22, none, .len (.s 21), .none⟩,
       ⟨some 23, none, .bin .gtr (.s 22) (.c (.d (.int .i64 40))), .none⟩,
       ⟨some 24, none, .mv (.s 23), .none⟩,
       ⟨some 25, some (24, false), .mv (.s 1), .none⟩,
       ⟨some 26, some (24, false), .len (.s 25), .none⟩,
       ⟨some 27, some (24, false), .bin .gtr (.s 26) (.c (.d (.int .i64 40))), .none⟩,
       ⟨some 28, none, .pick (.s 24) (.c (.d (.bool true))) (.s 27), .none⟩])
   (.cond (.s 28)
    (.seq (.reg [⟨some 4, none, .mv (.c (.d (.bool true))), .none⟩])
    (.ret none))
    .skip))
  (.seq (.reg [⟨some 30, none, .mv (.s 0), .none⟩,
      ⟨some 31, none, .call 13 [.s 30] 0, .none⟩,
      ⟨some 29, none, .mv (.s 31), .none⟩,
      ⟨some 32, none, .ext (.s 29) 0, .none⟩,
      ⟨some 33, none, .ext (.s 29) 1, .none⟩,
      ⟨some 5, none, .alloc 39 [.bool false, .int .i64 0, .int .i64 0, .str [], .int .i64 0, .int .i64 0, .int .i64 0, .int .i64 0, .nilm, .int .i64 0, .int .i64 0, .int .i64 0, .bool false, .int .i64 0, .int .i64 0, .str [], .int .i64 0, .int .i64 0, .int .i64 0, .int .i64 0, .nilm, .int .i64 0, .int .i64 0, .int .i64 0, .bool false, .int .i64 0, .int .i64 0, .str [], .int .i64 0, .int .i64 0, .int .i64 0, .int .i64 0, .nilm, .int .i64 0, .int .i64 0, .int .i64 0, .bool false, .int .i64 0, .int .i64 0, .str [], .int .i64 0, .int .i64 0, .int .i64 0, .int .i64 0, .nilm, .int .i64 0, .int .i64 0, .int .i64 0, .bool false, .int .i64 0, .int .i64 0, .str [], .int .i64 0, .int .i64 0, .int .i64 0, .int .i64 0, .nilm, .int .i64 0, .int .i64 0, .int .i64 0, .bool false, .int .i64 0, .int .i64 0, .str [], .int .i64 0, .int .i64 0, .int .i64 0, .int .i64 0, .nilm, .int .i64 0, .int .i64 0, .int .i64 0, .bool false, .int .i64 0, .int .i64 0, .str [], .int .i64 0, .int .i64 0, .int .i64 0, .int .i64 0, .nilm, .int .i64 0, .int .i64 0, .int .i64 0, .bool false, .int .i64 0, .int .i64 0, .str [], .int .i64 0, .int .i64 0, .int .i64 0, .int .i64 0, .nilm, .int .i64 0, .int .i64 0, .int .i64 0, .bool false, .int .i64 0, .int .i64 0, .str [], .int .i64 0, .int .i64 0, .int .i64 0, .int .i64 0, .nilm, .int .i64 0, .int .i64 0, .int .i64 0, .bool false, .int .i64 0, .int .i64 0, .str [], .int .i64 0, .int .i64 0, .int .i64 0, .int .i64 0, .nilm, .int .i64 0, .int .i64 0, .int .i64 0, .bool false, .int .i64 0, .int .i64 0, .str [], .int .i64 0, .int .i64 0, .int .i64 0, .int .i64 0, .nilm, .int .i64 0, .int .i64 0, .int .i64 0, .bool false, .int .i64 0, .int .i64 0, .str [], .int .i64 0, .int .i64 0, .int .i64 0, .int .i64 0, .nilm, .int .i64 0, .int .i64 0, .int .i64 0, .bool false, .int .i64 0, .int .i64 0, .str [], .int .i64 0, .int .i64 0, .int .i64 0, .int .i64 0, .nilm, .int .i64 0, .int .i64 0, .int .i64 0, .bool false, .int .i64 0, .int .i64 0, .str [], .int .i64 0, .int .i64 0, .int .i64 0, .int .i64 0, .nilm, .int .i64 0, .int .i64 0, .int .i64 0, .bool false, .int .i64 0, .int .i64 0, .str [], .int .i64 0, .int .i64 0, .int .i64 0, .int .i64 0, .nilm, .int .i64 0, .int .i64 0, .int .i64 0, .bool false, .int .i64 0, .int .i64 0, .str [], .int .i64 0, .int .i64 0, .int .i64 0, .int .i64 0, .nilm, .int .i64 0, .int .i64 0, .int .i64 0], .none⟩,
      ⟨none, none, .st (.s 5) (.s 32) 192, .none⟩,
      ⟨some 6, none, .mv (.s 33), .none⟩])
  (.seq (.reg [⟨some 35, none, .mv (.s 1), .none⟩,
      ⟨some 36, none, .call 13 [.s 35] 0, .none⟩,
      ⟨some 34, none, .mv (.s 36), .none⟩,
      ⟨some 37, none, .ext (.s 34) 0, .none⟩,
      ⟨some 38, none, .ext (.s 34) 1, .none⟩,
      ⟨some 7, none, .alloc 39 [.bool false, .int .i64 0, .int .i64 0, .str [], .int .i64 0, .int .i64 0, .int .i64 0, .int .i64 0, .nilm, .int .i64 0, .int .i64 0, .int .i64 0, .bool false, .int .i64 0, .int .i64 0, .str [], .int .i64 0, .int .i64 0, .int .i64 0, .int .i64 0, .nilm, .int .i64 0, .int .i64 0, .int .i64 0, .bool false, .int .i64 0, .int .i64 0, .str [], .int .i64 0, .int .i64 0, .int .i64 0, .int .i64 0, .nilm, .int .i64 0, .int .i64 0, .int .i64 0, .bool false, .int .i64 0, .int .i64 0, .str [], .int .i64 0, .int .i64 0, .int .i64 0, .int .i64 0, .nilm, .int .i64 0, .int .i64 0, .int .i64 0, .bool false, .int .i64 0, .int .i64 0, .str [], .int .i64 0, .int .i64 0, .int .i64 0, .int .i64 0, .nilm, .int .i64 0, .int .i64 0, .int .i64 0, .bool false, .int .i64 0, .int .i64 0, .str [], .int .i64 0, .int .i64 0, .int .i64 0, .int .i64 0, .nilm, .int .i64 0, .int .i64 0, .int .i64 0, .bool false, .int .i64 0, .int .i64 0, .str [], .int .i64 0, .int .i64 0, .int .i64 0, .int .i64 0, .nilm, .int .i64 0, .int .i64 0, .int .i64 0, .bool false, .int .i64 0, .int .i64 0, .str [], .int .i64 0, .int .i64 0, .int .i64 0, .int .i64 0, .nilm, .int .i64 0, .int .i64 0, .int .i64 0, .bool false, .int .i64 0, .int .i64 0, .str [], .int .i64 0, .int .i64 0, .int .i64 0, .int .i64 0, .nilm, .int .i64 0, .int .i64 0, .int .i64 0, .bool false, .int .i64 0, .int .i64 0, .str [], .int .i64 0, .int .i64 0, .int .i64 0, .int .i64 0, .nilm, .int .i64 0, .int .i64 0, .int .i64 0, .bool false, .int .i64 0, .int .i64 0, .str [], .int .i64 0, .int .i64 0, .int .i64 0, .int .i64 0, .nilm, .int .i64 0, .int .i64 0, .int .i64 0, .bool false, .int .i64 0, .int .i64 0, .str [], .int .i64 0, .int .i64 0, .int .i64 0, .int .i64 0, .nilm, .int .i64 0, .int .i64 0, .int .i64 0, .bool false, .int .i64 0, .int .i64 0, .str [], .int .i64 0, .int .i64 0, .int .i64 0, .int .i64 0, .nilm, .int .i64 0, .int .i64 0, .int .i64 0, .bool false, .int .i64 0, .int .i64 0, .str [], .int .i64 0, .int .i64 0, .int .i64 0, .int .i64 0, .nilm, .int .i64 0, .int .i64 0, .int .i64 0, .bool false, .int .i64 0, .int .i64 0, .str [], .int .i64 0, .int .i64 0, .int .i64 0, .int .i64 0, .nilm, .int .i64 0, .int .i64 0, .int .i64 0, .bool false, .int .i64 0, .int .i64 0, .str [], .int .i64 0, .int .i64 0, .int .i64 0, .int .i64 0, .nilm, .int .i64 0, .int .i64 0, .int .i64 0], .none⟩,
      ⟨none, none, .st (.s 7) (.s 37) 192, .none⟩,
      ⟨some 8, none, .mv (.s 38), .none⟩])
  (.seq (.reg [⟨some 9, none, .mv (.c (.d (.bool true))), .none⟩])
  (.seq (.seq (.reg [⟨some 39, none, .mv (.c (.d (.int .i64 0))), .none⟩])
   (.block 0 (.loop [5, 6, 7, 8, 9, 39] lp6_0)))
  (.seq (.reg [⟨some 136, none, .ld (.s 5) 192 true, .none⟩,
      ⟨some 137, none, .ld (.s 7) 192 true, .none⟩,
      ⟨some 138, none, .call 18 [.s 136, .s 137] 2, .none⟩,
      ⟨some 139, none, .mv (.s 9), .none⟩,
      ⟨some 140, none, .beq false (.s 138) (.s 139), .none⟩,
      ⟨some 141, none, .mv (.s 140), .none⟩,
      ⟨some 142, some (141, true), .ld (.s 5) 192 true, .none⟩,
      ⟨some 143, some (141, true), .ld (.s 5) 192 true, .none⟩,
      ⟨some 144, some (141, true), .call 18 [.s 142, .s 143] 2, .none⟩,
      ⟨some 145, none, .pick (.s 141) (.s 144) (.c (.d (.bool false))), .none⟩,
      ⟨some 4, none, .mv (.s 145), .none⟩])
  (.ret none)))))))))
def ir6 : F := { n := 146, res := [.tmp 4], body := bd6 }
@[go_sem] theorem n6 : ir6.n = 146 := rfl
@[go_sem] theorem r6 : ir6.res = [.tmp 4] := rfl
@[go_sem] theorem b6 : ir6.body = bd6 := rfl
/-- spence/spencelaw20.awake -/
def bd7 : C :=
  (.seq (.reg [⟨some 0, none, .mv (.c (.d (.bool false))), .none⟩])
  (.seq (.reg [⟨some 6, none, .build [.int .i64 0, .int .i64 0, .str [], .int .i64 0, .int .i64 0] [(0, (1, .c (.d (.int .i64 1)))), (1, (1, .c (.d (.int .i64 1)))), (2, (1, .c (.d (.str [118]))))], .none⟩,
      ⟨some 7, none, .call 19 [.s 6] 2, .none⟩,
      ⟨some 8, none, .build [.int .i64 0, .int .i64 0, .int .u64 0, .int .i64 0, .int .u8 0, .nils] [(4, (1, .c (.d (.int .u8 2)))), (5, (1, .s 7))], .cells [(5, 1, false)]⟩,
      ⟨some 9, none, .build [.int .i64 0, .int .i64 0, .bool false] [(0, (1, .c (.d (.int .i64 1)))), (1, (1, .c (.d (.int .i64 1))))], .none⟩,
      ⟨some 10, none, .call 20 [.s 9] 2, .none⟩,
      ⟨some 11, none, .build [.int .i64 0, .int .i64 0, .int .u64 0, .int .i64 0, .int .u8 0, .nils] [(4, (1, .c (.d (.int .u8 4)))), (5, (1, .s 10))], .cells [(5, 1, false)]⟩,
      ⟨some 12, none, .bsl 30 6 2 [.int .i64 0, .int .i64 0, .int .u64 0, .int .i64 0, .int .u8 0, .nils] [(0, (6, .s 8)), (6, (6, .s 11))], .none⟩,
      ⟨some 1, none, .mv (.s 12), .none⟩])
  (.seq (.reg [⟨some 14, none, .mv (.s 1), .none⟩,
      ⟨some 15, none, .sl (.s 14) none (some (.c (.d (.int .i64 1)))) none 6, .none⟩,
      ⟨some 16, none, .call 10 [.s 15] 0, .none⟩,
      ⟨some 17, none, .call 14 [.s 16, .c (.d (.int .i64 1))] 2, .none⟩,
      ⟨some 13, none, .mv (.s 17), .none⟩,
      ⟨some 18, none, .ext (.s 13) 0, .none⟩,
      ⟨some 19, none, .ext (.s 13) 1, .none⟩,
      ⟨some 2, none, .alloc 33 [.int .i64 0, .int .i64 0, .str [], .int .i64 0, .int .i64 0], .none⟩,
      ⟨none, none, .st (.s 2) (.s 18) 5, .none⟩,
      ⟨some 3, none, .mv (.s 19), .none⟩])
  (.seq (.reg [⟨some 21, none, .mv (.s 1), .none⟩,
      ⟨some 22, none, .call 10 [.s 21] 0, .none⟩,
      ⟨some 23, none, .call 14 [.s 22, .c (.d (.int .i64 1))] 2, .none⟩,
      ⟨some 20, none, .mv (.s 23), .none⟩,
      ⟨some 24, none, .ext (.s 20) 0, .none⟩,
      ⟨some 25, none, .ext (.s 20) 1, .none⟩,
      ⟨some 4, none, .alloc 33 [.int .i64 0, .int .i64 0, .str [], .int .i64 0, .int .i64 0], .none⟩,
      ⟨none, none, .st (.s 4) (.s 24) 5, .none⟩,
      ⟨some 5, none, .mv (.s 25), .none⟩])
  (.seq (.reg [⟨some 26, none, .mv (.s 3), .none⟩,
      ⟨some 27, none, .mv (.s 26), .none⟩,
      ⟨some 28, some (27, true), .mv (.s 5), .none⟩,
      ⟨some 29, some (27, true), .un .not (.s 28), .none⟩,
      ⟨some 30, none, .pick (.s 27) (.s 29) (.c (.d (.bool false))), .none⟩,
      ⟨some 0, none, .mv (.s 30), .none⟩])
  (.ret none))))))
def ir7 : F := { n := 31, res := [.tmp 0], body := bd7 }
@[go_sem] theorem n7 : ir7.n = 31 := rfl
@[go_sem] theorem r7 : ir7.res = [.tmp 0] := rfl
@[go_sem] theorem b7 : ir7.body = bd7 := rfl
def lb8_1 : C :=
  (.seq (.seq (.reg [⟨some 17, none, .mv (.s 5), .none⟩,
       ⟨some 18, none, .mv (.s 3), .none⟩,
       ⟨some 19, none, .bin .lss (.s 17) (.s 18), .none⟩])
   (.cond (.s 19)
    .skip
    (.exit 2 (some [0, 6, 7, 8]))))
  (.seq (.block 3 (.seq (.drw [⟨some 22, none, .mv (.s 0), .none⟩,
        ⟨some 23, none, .mv (.s 5), .none⟩,
        ⟨some 24, none, .is (.s 22) (.s 23) 6, .none⟩,
        ⟨some 25, none, .fa (.s 24) 0, .none⟩,
        ⟨some 26, none, .ld (.s 25) 2 true, .none⟩,
        ⟨some 27, none, .fa (.s 4) 0, .none⟩,
        ⟨some 28, none, .ld (.s 27) 2 true, .none⟩,
        ⟨some 29, none, .eqs false [1, 1] (.s 26) (.s 28), .none⟩]
       [[], [], [0, 1], [2], [3], [], [5], [4, 6]] [])
    (.cond (.s 29)
     (.seq (.reg [⟨some 2, none, .mv (.c (.d (.bool false))), .none⟩])
     (.ret (some [2])))
     .skip)))
  (.reg [⟨some 20, none, .mv (.s 5), .none⟩,
     ⟨some 21, none, .bin .add (.s 20) (.c (.d (.int .i64 1))), .none⟩,
     ⟨some 5, none, .mv (.s 21), .none⟩])))
def lp8_1 : C := lb8_1
theorem u8_1 (c : Ev.Callee) (l : Ev.Looper) (s : St) : evC c l lp8_1 s = evC c l lb8_1 s := rfl
abbrev st8_1 (m : Nat) (s0 s3 s4 s5 s6 s7 s8 : AV) (h : Heap) : St := ⟨m, [s0, .unk, .unk, s3, s4, s5, s6, s7, s8, .unk, .unk, .unk, .unk, .unk, .unk, .unk, .unk, .unk, .unk, .unk, .unk, .unk, .unk, .unk, .unk, .unk, .unk, .unk, .unk, .unk, .unk, .unk, .unk, .unk], h⟩
def lb8_0 : C :=
  (.seq (.reg [⟨some 9, none, .bin .lss (.s 8) (.s 7), .none⟩])
  (.seq (.cond (.s 9)
    .skip
    (.exit 0 (some [0])))
  (.seq (.block 1 (.seq (.reg [⟨some 10, none, .mv (.s 8), .none⟩,
        ⟨some 11, none, .is (.s 6) (.s 8) 6, .none⟩,
        ⟨some 12, none, .ld (.s 11) 6 true, .none⟩,
        ⟨some 4, none, .alloc 30 [.int .i64 0, .int .i64 0, .int .u64 0, .int .i64 0, .int .u8 0, .nils], .cells [(5, 1, false)]⟩,
        ⟨some 3, none, .mv (.s 10), .none⟩,
        ⟨none, none, .st (.s 4) (.s 12) 6, .none⟩])
    (.seq (.seq (.reg [⟨some 13, none, .fa (.s 4) 5, .none⟩,
         ⟨some 14, none, .ld (.s 13) 1 false, .none⟩,
         ⟨some 15, none, .len (.s 14), .none⟩,
         ⟨some 16, none, .bin .gtr (.s 15) (.c (.d (.int .i64 200))), .none⟩])
     (.cond (.s 16)
      (.seq (.reg [⟨some 2, none, .mv (.c (.d (.bool false))), .none⟩])
      (.ret (some [2])))
      .skip))
    (.seq (.reg [⟨some 5, none, .mv (.c (.d (.int .i64 0))), .none⟩])
    (.block 2 (.loop [0, 3, 4, 5, 6, 7, 8] lp8_1))))))
  (.reg [⟨some 30, none, .bin .add (.s 8) (.c (.d (.int .i64 1))), .none⟩,
     ⟨some 8, none, .mv (.s 30), .none⟩]))))
def lp8_0 : C := lb8_0
theorem u8_0 (c : Ev.Callee) (l : Ev.Looper) (s : St) : evC c l lp8_0 s = evC c l lb8_0 s := rfl
abbrev st8_0 (m : Nat) (s0 s6 s7 s8 : AV) (h : Heap) : St := ⟨m, [s0, .unk, .unk, .unk, .unk, .unk, s6, s7, s8, .unk, .unk, .unk, .unk, .unk, .unk, .unk, .unk, .unk, .unk, .unk, .unk, .unk, .unk, .unk, .unk, .unk, .unk, .unk, .unk, .unk, .unk, .unk, .unk, .unk], h⟩
@[go_sem] theorem ks8_0 (v0 v1 v2 v3 v4 v5 v6 v7 v8 v9 v10 v11 v12 v13 v14 v15 v16 v17 v18 v19 v20 v21 v22 v23 v24 v25 v26 v27 v28 v29 v30 v31 v32 v33 : AV) : keepS [0, 6, 7, 8] [v0, v1, v2, v3, v4, v5, v6, v7, v8, v9, v10, v11, v12, v13, v14, v15, v16, v17, v18, v19, v20, v21, v22, v23, v24, v25, v26, v27, v28, v29, v30, v31, v32, v33] 0 = [v0, .unk, .unk, .unk, .unk, .unk, v6, v7, v8, .unk, .unk, .unk, .unk, .unk, .unk, .unk, .unk, .unk, .unk, .unk, .unk, .unk, .unk, .unk, .unk, .unk, .unk, .unk, .unk, .unk, .unk, .unk, .unk, .unk] := rfl
@[go_sem] theorem ks8_1 (v0 v1 v2 v3 v4 v5 v6 v7 v8 v9 v10 v11 v12 v13 v14 v15 v16 v17 v18 v19 v20 v21 v22 v23 v24 v25 v26 v27 v28 v29 v30 v31 v32 v33 : AV) : keepS [0] [v0, v1, v2, v3, v4, v5, v6, v7, v8, v9, v10, v11, v12, v13, v14, v15, v16, v17, v18, v19, v20, v21, v22, v23, v24, v25, v26, v27, v28, v29, v30, v31, v32, v33] 0 = [v0, .unk, .unk, .unk, .unk, .unk, .unk, .unk, .unk, .unk, .unk, .unk, .unk, .unk, .unk, .unk, .unk, .unk, .unk, .unk, .unk, .unk, .unk, .unk, .unk, .unk, .unk, .unk, .unk, .unk, .unk, .unk, .unk, .unk] := rfl
@[go_sem] theorem ks8_2 (v0 v1 v2 v3 v4 v5 v6 v7 v8 v9 v10 v11 v12 v13 v14 v15 v16 v17 v18 v19 v20 v21 v22 v23 v24 v25 v26 v27 v28 v29 v30 v31 v32 v33 : AV) : keepS [2] [v0, v1, v2, v3, v4, v5, v6, v7, v8, v9, v10, v11, v12, v13, v14, v15, v16, v17, v18, v19, v20, v21, v22, v23, v24, v25, v26, v27, v28, v29, v30, v31, v32, v33] 0 = [.unk, .unk, v2, .unk, .unk, .unk, .unk, .unk, .unk, .unk, .unk, .unk, .unk, .unk, .unk, .unk, .unk, .unk, .unk, .unk, .unk, .unk, .unk, .unk, .unk, .unk, .unk, .unk, .unk, .unk, .unk, .unk, .unk, .unk] := rfl
@[go_sem] theorem ks8_3 (v0 v1 v2 v3 v4 v5 v6 v7 v8 v9 v10 v11 v12 v13 v14 v15 v16 v17 v18 v19 v20 v21 v22 v23 v24 v25 v26 v27 v28 v29 v30 v31 v32 v33 : AV) : keepS [0, 3, 4, 5, 6, 7, 8] [v0, v1, v2, v3, v4, v5, v6, v7, v8, v9, v10, v11, v12, v13, v14, v15, v16, v17, v18, v19, v20, v21, v22, v23, v24, v25, v26, v27, v28, v29, v30, v31, v32, v33] 0 = [v0, .unk, .unk, v3, v4, v5, v6, v7, v8, .unk, .unk, .unk, .unk, .unk, .unk, .unk, .unk, .unk, .unk, .unk, .unk, .unk, .unk, .unk, .unk, .unk, .unk, .unk, .unk, .unk, .unk, .unk, .unk, .unk] := rfl
/-- spence/spencelaw20.Few -/
def bd8 : C :=
  (.seq (.reg [⟨some 2, none, .mv (.c (.d (.bool false))), .none⟩])
  (.seq (.seq (.reg [⟨some 6, none, .mv (.s 0), .none⟩,
       ⟨some 7, none, .len (.s 6), .none⟩,
       ⟨some 8, none, .mv (.c (.d (.int .i64 0))), .none⟩])
   (.block 0 (.loop [0, 6, 7, 8] lp8_0)))
  (.seq (.reg [⟨some 31, none, .mv (.s 0), .none⟩,
      ⟨some 32, none, .len (.s 31), .none⟩,
      ⟨some 33, none, .bin .leq (.s 32) (.c (.d (.int .i64 40))), .none⟩,
      ⟨some 2, none, .mv (.s 33), .none⟩])
  (.ret none))))
def ir8 : F := { n := 34, res := [.tmp 2], body := bd8 }
@[go_sem] theorem n8 : ir8.n = 34 := rfl
@[go_sem] theorem r8 : ir8.res = [.tmp 2] := rfl
@[go_sem] theorem b8 : ir8.body = bd8 := rfl
def lb9_0 : C :=
  (.seq (.reg [⟨some 9, none, .bin .lss (.s 8) (.c (.d (.int .i64 16))), .none⟩])
  (.seq (.cond (.s 9)
    .skip
    (.exit 0 (some [])))
  (.seq (.block 1 (.seq (.reg [⟨some 10, none, .mv (.s 8), .none⟩,
        ⟨some 5, none, .mv (.s 10), .none⟩])
    (.seq (.drr [⟨some 11, none, .mv (.s 5), .none⟩,
        ⟨some 12, none, .fa (.s 2) 0, .none⟩,
        ⟨some 13, none, .ia (.s 12) (.s 11) 16 12, .none⟩,
        ⟨some 14, none, .ld (.s 13) 12 true, .none⟩,
        ⟨some 15, none, .mv (.s 5), .none⟩,
        ⟨some 16, none, .fa (.s 3) 0, .none⟩,
        ⟨some 17, none, .ia (.s 16) (.s 15) 16 12, .none⟩,
        ⟨some 18, none, .ld (.s 17) 12 true, .none⟩,
        ⟨some 6, none, .alloc 36 [.bool false, .int .i64 0, .int .i64 0, .str [], .int .i64 0, .int .i64 0, .int .i64 0, .int .i64 0, .nilm, .int .i64 0, .int .i64 0, .int .i64 0], .res []⟩,
        ⟨some 7, none, .alloc 36 [.bool false, .int .i64 0, .int .i64 0, .str [], .int .i64 0, .int .i64 0, .int .i64 0, .int .i64 0, .nilm, .int .i64 0, .int .i64 0, .int .i64 0], .res []⟩,
        ⟨none, none, .st (.s 6) (.s 14) 12, .none⟩,
        ⟨none, none, .st (.s 7) (.s 18) 12, .none⟩]
       [[], [], [1, 0], [2], [], [], [5, 4], [6], [], [], [8, 3, 0, 1, 2, 3, 8, 9], [9, 7, 10, 0, 1, 2, 3, 4, 5, 6, 7, 8, 9, 10]] [(17, 6)] [] [])
    (.seq (.reg [⟨some 19, none, .fa (.s 6) 0, .none⟩,
        ⟨some 20, none, .ld (.s 19) 1 false, .none⟩,
        ⟨some 21, none, .fa (.s 7) 0, .none⟩,
        ⟨some 22, none, .ld (.s 21) 1 false, .none⟩,
        ⟨some 23, none, .beq true (.s 20) (.s 22), .none⟩,
        ⟨some 24, none, .mv (.s 23), .none⟩,
        ⟨some 25, some (24, false), .fa (.s 6) 1, .none⟩,
        ⟨some 26, some (24, false), .ld (.s 25) 5 true, .none⟩,
        ⟨some 27, some (24, false), .fa (.s 7) 1, .none⟩,
        ⟨some 28, some (24, false), .ld (.s 27) 5 true, .none⟩,
        ⟨some 29, some (24, false), .eqs true [1, 1, 2, 1, 1] (.s 26) (.s 28), .none⟩,
        ⟨some 30, none, .pick (.s 24) (.c (.d (.bool true))) (.s 29), .none⟩,
        ⟨some 31, none, .mv (.s 30), .none⟩,
        ⟨some 32, some (31, false), .fa (.s 6) 6, .none⟩,
        ⟨some 33, some (31, false), .ld (.s 32) 2 true, .none⟩,
        ⟨some 34, some (31, false), .fa (.s 7) 6, .none⟩,
        ⟨some 35, some (31, false), .ld (.s 34) 2 true, .none⟩,
        ⟨some 36, some (31, false), .eqs true [1, 1] (.s 33) (.s 35), .none⟩,
        ⟨some 37, none, .pick (.s 31) (.c (.d (.bool true))) (.s 36), .none⟩,
        ⟨some 38, none, .mv (.s 37), .none⟩,
        ⟨some 39, some (38, false), .fa (.s 6) 9, .none⟩,
        ⟨some 40, some (38, false), .ld (.s 39) 1 false, .none⟩,
        ⟨some 41, some (38, false), .fa (.s 7) 9, .none⟩,
        ⟨some 42, some (38, false), .ld (.s 41) 1 false, .none⟩,
        ⟨some 43, some (38, false), .bin .neq (.s 40) (.s 42), .none⟩,
        ⟨some 44, none, .pick (.s 38) (.c (.d (.bool true))) (.s 43), .none⟩,
        ⟨some 45, none, .mv (.s 44), .none⟩,
        ⟨some 46, some (45, false), .fa (.s 6) 10, .none⟩,
        ⟨some 47, some (45, false), .ld (.s 46) 2 true, .none⟩,
        ⟨some 48, some (45, false), .fa (.s 7) 10, .none⟩,
        ⟨some 49, some (45, false), .ld (.s 48) 2 true, .none⟩,
        ⟨some 50, some (45, false), .eqs true [1, 1] (.s 47) (.s 49), .none⟩,
        ⟨some 51, none, .pick (.s 45) (.c (.d (.bool true))) (.s 50), .none⟩,
        ⟨some 52, none, .mv (.s 51), .none⟩,
        ⟨some 53, some (52, false), .fa (.s 6) 8, .none⟩,
        ⟨some 54, some (52, false), .ld (.s 53) 1 false, .none⟩,
        ⟨some 55, some (52, false), .fa (.s 7) 8, .none⟩,
        ⟨some 56, some (52, false), .ld (.s 55) 1 false, .none⟩,
        ⟨some 57, some (52, false), .call 21 [.s 54, .s 56] 2, .none⟩,
        ⟨some 58, some (52, false), .un .not (.s 57), .none⟩,
        ⟨some 59, none, .pick (.s 52) (.c (.d (.bool true))) (.s 58), .none⟩])
    (.cond (.s 59)
     (.seq (.reg [⟨some 4, none, .mv (.c (.d (.bool false))), .none⟩])
     (.ret (some [4])))
     .skip)))))
  (.reg [⟨some 60, none, .bin .add (.s 8) (.c (.d (.int .i64 1))), .none⟩,
     ⟨some 8, none, .mv (.s 60), .none⟩]))))
def lp9_0 : C := lb9_0
theorem u9_0 (c : Ev.Callee) (l : Ev.Looper) (s : St) : evC c l lp9_0 s = evC c l lb9_0 s := rfl
abbrev st9_0 (m : Nat) (s2 s3 s8 : AV) (h : Heap) : St := ⟨m, [.unk, .unk, s2, s3, .unk, .unk, .unk, .unk, s8, .unk, .unk, .unk, .unk, .unk, .unk, .unk, .unk, .unk, .unk, .unk, .unk, .unk, .unk, .unk, .unk, .unk, .unk, .unk, .unk, .unk, .unk, .unk, .unk, .unk, .unk, .unk, .unk, .unk, .unk, .unk, .unk, .unk, .unk, .unk, .unk, .unk, .unk, .unk, .unk, .unk, .unk, .unk, .unk, .unk, .unk, .unk, .unk, .unk, .unk, .unk, .unk], h⟩
@[go_sem] theorem ks9_0 (v0 v1 v2 v3 v4 v5 v6 v7 v8 v9 v10 v11 v12 v13 v14 v15 v16 v17 v18 v19 v20 v21 v22 v23 v24 v25 v26 v27 v28 v29 v30 v31 v32 v33 v34 v35 v36 v37 v38 v39 v40 v41 v42 v43 v44 v45 v46 v47 v48 v49 v50 v51 v52 v53 v54 v55 v56 v57 v58 v59 v60 : AV) : keepS [2, 3, 8] [v0, v1, v2, v3, v4, v5, v6, v7, v8, v9, v10, v11, v12, v13, v14, v15, v16, v17, v18, v19, v20, v21, v22, v23, v24, v25, v26, v27, v28, v29, v30, v31, v32, v33, v34, v35, v36, v37, v38, v39, v40, v41, v42, v43, v44, v45, v46, v47, v48, v49, v50, v51, v52, v53, v54, v55, v56, v57, v58, v59, v60] 0 = [.unk, .unk, v2, v3, .unk, .unk, .unk, .unk, v8, .unk, .unk, .unk, .unk, .unk, .unk, .unk, .unk, .unk, .unk, .unk, .unk, .unk, .unk, .unk, .unk, .unk, .unk, .unk, .unk, .unk, .unk, .unk, .unk, .unk, .unk, .unk, .unk, .unk, .unk, .unk, .unk, .unk, .unk, .unk, .unk, .unk, .unk, .unk, .unk, .unk, .unk, .unk, .unk, .unk, .unk, .unk, .unk, .unk, .unk, .unk, .unk] := rfl
@[go_sem] theorem ks9_1 (v0 v1 v2 v3 v4 v5 v6 v7 v8 v9 v10 v11 v12 v13 v14 v15 v16 v17 v18 v19 v20 v21 v22 v23 v24 v25 v26 v27 v28 v29 v30 v31 v32 v33 v34 v35 v36 v37 v38 v39 v40 v41 v42 v43 v44 v45 v46 v47 v48 v49 v50 v51 v52 v53 v54 v55 v56 v57 v58 v59 v60 : AV) : keepS [] [v0, v1, v2, v3, v4, v5, v6, v7, v8, v9, v10, v11, v12, v13, v14, v15, v16, v17, v18, v19, v20, v21, v22, v23, v24, v25, v26, v27, v28, v29, v30, v31, v32, v33, v34, v35, v36, v37, v38, v39, v40, v41, v42, v43, v44, v45, v46, v47, v48, v49, v50, v51, v52, v53, v54, v55, v56, v57, v58, v59, v60] 0 = [.unk, .unk, .unk, .unk, .unk, .unk, .unk, .unk, .unk, .unk, .unk, .unk, .unk, .unk, .unk, .unk, .unk, .unk, .unk, .unk, .unk, .unk, .unk, .unk, .unk, .unk, .unk, .unk, .unk, .unk, .unk, .unk, .unk, .unk, .unk, .unk, .unk, .unk, .unk, .unk, .unk, .unk, .unk, .unk, .unk, .unk, .unk, .unk, .unk, .unk, .unk, .unk, .unk, .unk, .unk, .unk, .unk, .unk, .unk, .unk, .unk] := rfl
@[go_sem] theorem ks9_2 (v0 v1 v2 v3 v4 v5 v6 v7 v8 v9 v10 v11 v12 v13 v14 v15 v16 v17 v18 v19 v20 v21 v22 v23 v24 v25 v26 v27 v28 v29 v30 v31 v32 v33 v34 v35 v36 v37 v38 v39 v40 v41 v42 v43 v44 v45 v46 v47 v48 v49 v50 v51 v52 v53 v54 v55 v56 v57 v58 v59 v60 : AV) : keepS [4] [v0, v1, v2, v3, v4, v5, v6, v7, v8, v9, v10, v11, v12, v13, v14, v15, v16, v17, v18, v19, v20, v21, v22, v23, v24, v25, v26, v27, v28, v29, v30, v31, v32, v33, v34, v35, v36, v37, v38, v39, v40, v41, v42, v43, v44, v45, v46, v47, v48, v49, v50, v51, v52, v53, v54, v55, v56, v57, v58, v59, v60] 0 = [.unk, .unk, .unk, .unk, v4, .unk, .unk, .unk, .unk, .unk, .unk, .unk, .unk, .unk, .unk, .unk, .unk, .unk, .unk, .unk, .unk, .unk, .unk, .unk, .unk, .unk, .unk, .unk, .unk, .unk, .unk, .unk, .unk, .unk, .unk, .unk, .unk, .unk, .unk, .unk, .unk, .unk, .unk, .unk, .unk, .unk, .unk, .unk, .unk, .unk, .unk, .unk, .unk, .unk, .unk, .unk, .unk, .unk, .unk, .unk, .unk] := rfl
/-- spence/index.Same -/
def bd9 : C :=
  (.seq (.reg [⟨some 2, none, .box 39 (.s 0), .none⟩,
      ⟨some 3, none, .box 39 (.s 1), .none⟩,
      ⟨some 4, none, .mv (.c (.d (.bool false))), .none⟩])
  (.seq (.seq (.reg [⟨some 8, none, .mv (.c (.d (.int .i64 0))), .none⟩])
   (.block 0 (.loop [2, 3, 8] lp9_0)))
  (.seq (.reg [⟨some 4, none, .mv (.c (.d (.bool true))), .none⟩])
  (.ret none))))
def ir9 : F := { n := 61, res := [.tmp 4], body := bd9 }
@[go_sem] theorem n9 : ir9.n = 61 := rfl
@[go_sem] theorem r9 : ir9.res = [.tmp 4] := rfl
@[go_sem] theorem b9 : ir9.body = bd9 := rfl
def lb10_1 : C :=
  (.seq (.reg [⟨some 18, none, .bin .lss (.s 17) (.s 16), .none⟩])
  (.seq (.cond (.s 18)
    .skip
    (.exit 2 (some [0, 2, 3, 9, 10, 11])))
  (.seq (.block 3 (.seq (.reg [⟨some 19, none, .is (.s 15) (.s 17) 6, .none⟩,
        ⟨some 20, none, .ld (.s 19) 6 true, .none⟩,
        ⟨some 7, none, .alloc 30 [.int .i64 0, .int .i64 0, .int .u64 0, .int .i64 0, .int .u8 0, .nils], .cells [(5, 1, false)]⟩,
        ⟨none, none, .st (.s 7) (.s 20) 6, .none⟩])
    (.seq (.reg [⟨some 21, none, .fa (.s 7) 4, .none⟩,
        ⟨some 22, none, .ld (.s 21) 1 false, .none⟩,
        ⟨some 23, none, .bin .eql (.s 22) (.c (.d (.int .u8 3))), .none⟩,
        ⟨some 24, none, .mv (.s 5), .none⟩,
        ⟨some 25, none, .beq false (.s 23) (.s 24), .none⟩])
    (.cond (.s 25)
     (.reg [⟨some 26, none, .ld (.s 3) 192 true, .none⟩,
        ⟨some 27, none, .ld (.s 7) 6 true, .none⟩,
        ⟨some 28, none, .call 23 [.s 26, .s 27] 2, .none⟩,
        ⟨none, none, .st (.s 3) (.s 28) 192, .none⟩])
     .skip))))
  (.reg [⟨some 29, none, .bin .add (.s 17) (.c (.d (.int .i64 1))), .none⟩,
     ⟨some 17, none, .mv (.s 29), .none⟩]))))
def lp10_1 : C := lb10_1
theorem u10_1 (c : Ev.Callee) (l : Ev.Looper) (s : St) : evC c l lp10_1 s = evC c l lb10_1 s := rfl
abbrev st10_1 (m : Nat) (s0 s2 s3 s5 s9 s10 s11 s15 s16 s17 : AV) (h : Heap) : St := ⟨m, [s0, .unk, s2, s3, .unk, s5, .unk, .unk, .unk, s9, s10, s11, .unk, .unk, .unk, s15, s16, s17, .unk, .unk, .unk, .unk, .unk, .unk, .unk, .unk, .unk, .unk, .unk, .unk, .unk, .unk], h⟩
def lb10_0 : C :=
  (.seq (.reg [⟨some 12, none, .bin .lss (.s 11) (.s 10), .none⟩])
  (.seq (.cond (.s 12)
    .skip
    (.exit 0 (some [2, 3])))
  (.seq (.block 1 (.seq (.reg [⟨some 13, none, .is (.s 9) (.s 11) 1, .none⟩,
        ⟨some 14, none, .ld (.s 13) 1 false, .none⟩,
        ⟨some 5, none, .mv (.s 14), .none⟩])
    (.seq (.reg [⟨some 15, none, .mv (.s 0), .none⟩,
        ⟨some 16, none, .len (.s 15), .none⟩,
        ⟨some 17, none, .mv (.c (.d (.int .i64 0))), .none⟩])
    (.block 2 (.loop [0, 2, 3, 5, 9, 10, 11, 15, 16, 17] lp10_1)))))
  (.reg [⟨some 30, none, .bin .add (.s 11) (.c (.d (.int .i64 1))), .none⟩,
     ⟨some 11, none, .mv (.s 30), .none⟩]))))
def lp10_0 : C := lb10_0
theorem u10_0 (c : Ev.Callee) (l : Ev.Looper) (s : St) : evC c l lp10_0 s = evC c l lb10_0 s := rfl
abbrev st10_0 (m : Nat) (s0 s2 s3 s9 s10 s11 : AV) (h : Heap) : St := ⟨m, [s0, .unk, s2, s3, .unk, .unk, .unk, .unk, .unk, s9, s10, s11, .unk, .unk, .unk, .unk, .unk, .unk, .unk, .unk, .unk, .unk, .unk, .unk, .unk, .unk, .unk, .unk, .unk, .unk, .unk, .unk], h⟩
@[go_sem] theorem ks10_0 (v0 v1 v2 v3 v4 v5 v6 v7 v8 v9 v10 v11 v12 v13 v14 v15 v16 v17 v18 v19 v20 v21 v22 v23 v24 v25 v26 v27 v28 v29 v30 v31 : AV) : keepS [0, 2, 3, 9, 10, 11] [v0, v1, v2, v3, v4, v5, v6, v7, v8, v9, v10, v11, v12, v13, v14, v15, v16, v17, v18, v19, v20, v21, v22, v23, v24, v25, v26, v27, v28, v29, v30, v31] 0 = [v0, .unk, v2, v3, .unk, .unk, .unk, .unk, .unk, v9, v10, v11, .unk, .unk, .unk, .unk, .unk, .unk, .unk, .unk, .unk, .unk, .unk, .unk, .unk, .unk, .unk, .unk, .unk, .unk, .unk, .unk] := rfl
@[go_sem] theorem ks10_1 (v0 v1 v2 v3 v4 v5 v6 v7 v8 v9 v10 v11 v12 v13 v14 v15 v16 v17 v18 v19 v20 v21 v22 v23 v24 v25 v26 v27 v28 v29 v30 v31 : AV) : keepS [2, 3] [v0, v1, v2, v3, v4, v5, v6, v7, v8, v9, v10, v11, v12, v13, v14, v15, v16, v17, v18, v19, v20, v21, v22, v23, v24, v25, v26, v27, v28, v29, v30, v31] 0 = [.unk, .unk, v2, v3, .unk, .unk, .unk, .unk, .unk, .unk, .unk, .unk, .unk, .unk, .unk, .unk, .unk, .unk, .unk, .unk, .unk, .unk, .unk, .unk, .unk, .unk, .unk, .unk, .unk, .unk, .unk, .unk] := rfl
@[go_sem] theorem ks10_2 (v0 v1 v2 v3 v4 v5 v6 v7 v8 v9 v10 v11 v12 v13 v14 v15 v16 v17 v18 v19 v20 v21 v22 v23 v24 v25 v26 v27 v28 v29 v30 v31 : AV) : keepS [0, 2, 3, 5, 9, 10, 11, 15, 16, 17] [v0, v1, v2, v3, v4, v5, v6, v7, v8, v9, v10, v11, v12, v13, v14, v15, v16, v17, v18, v19, v20, v21, v22, v23, v24, v25, v26, v27, v28, v29, v30, v31] 0 = [v0, .unk, v2, v3, .unk, v5, .unk, .unk, .unk, v9, v10, v11, .unk, .unk, .unk, v15, v16, v17, .unk, .unk, .unk, .unk, .unk, .unk, .unk, .unk, .unk, .unk, .unk, .unk, .unk, .unk] := rfl
/-- spence/replay.All -/
def bd10 : C :=
  (.seq (.reg [⟨some 2, none, .alloc 39 [.bool false, .int .i64 0, .int .i64 0, .str [], .int .i64 0, .int .i64 0, .int .i64 0, .int .i64 0, .nilm, .int .i64 0, .int .i64 0, .int .i64 0, .bool false, .int .i64 0, .int .i64 0, .str [], .int .i64 0, .int .i64 0, .int .i64 0, .int .i64 0, .nilm, .int .i64 0, .int .i64 0, .int .i64 0, .bool false, .int .i64 0, .int .i64 0, .str [], .int .i64 0, .int .i64 0, .int .i64 0, .int .i64 0, .nilm, .int .i64 0, .int .i64 0, .int .i64 0, .bool false, .int .i64 0, .int .i64 0, .str [], .int .i64 0, .int .i64 0, .int .i64 0, .int .i64 0, .nilm, .int .i64 0, .int .i64 0, .int .i64 0, .bool false, .int .i64 0, .int .i64 0, .str [], .int .i64 0, .int .i64 0, .int .i64 0, .int .i64 0, .nilm, .int .i64 0, .int .i64 0, .int .i64 0, .bool false, .int .i64 0, .int .i64 0, .str [], .int .i64 0, .int .i64 0, .int .i64 0, .int .i64 0, .nilm, .int .i64 0, .int .i64 0, .int .i64 0, .bool false, .int .i64 0, .int .i64 0, .str [], .int .i64 0, .int .i64 0, .int .i64 0, .int .i64 0, .nilm, .int .i64 0, .int .i64 0, .int .i64 0, .bool false, .int .i64 0, .int .i64 0, .str [], .int .i64 0, .int .i64 0, .int .i64 0, .int .i64 0, .nilm, .int .i64 0, .int .i64 0, .int .i64 0, .bool false, .int .i64 0, .int .i64 0, .str [], .int .i64 0, .int .i64 0, .int .i64 0, .int .i64 0, .nilm, .int .i64 0, .int .i64 0, .int .i64 0, .bool false, .int .i64 0, .int .i64 0, .str [], .int .i64 0, .int .i64 0, .int .i64 0, .int .i64 0, .nilm, .int .i64 0, .int .i64 0, .int .i64 0, .bool false, .int .i64 0, .int .i64 0, .str [], .int .i64 0, .int .i64 0, .int .i64 0, .int .i64 0, .nilm, .int .i64 0, .int .i64 0, .int .i64 0, .bool false, .int .i64 0, .int .i64 0, .str [], .int .i64 0, .int .i64 0, .int .i64 0, .int .i64 0, .nilm, .int .i64 0, .int .i64 0, .int .i64 0, .bool false, .int .i64 0, .int .i64 0, .str [], .int .i64 0, .int .i64 0, .int .i64 0, .int .i64 0, .nilm, .int .i64 0, .int .i64 0, .int .i64 0, .bool false, .int .i64 0, .int .i64 0, .str [], .int .i64 0, .int .i64 0, .int .i64 0, .int .i64 0, .nilm, .int .i64 0, .int .i64 0, .int .i64 0, .bool false, .int .i64 0, .int .i64 0, .str [], .int .i64 0, .int .i64 0, .int .i64 0, .int .i64 0, .nilm, .int .i64 0, .int .i64 0, .int .i64 0, .bool false, .int .i64 0, .int .i64 0, .str [], .int .i64 0, .int .i64 0, .int .i64 0, .int .i64 0, .nilm, .int .i64 0, .int .i64 0, .int .i64 0], .none⟩])
  (.seq (.reg [⟨some 8, none, .call 22 [] 2, .none⟩,
      ⟨some 3, none, .alloc 39 [.bool false, .int .i64 0, .int .i64 0, .str [], .int .i64 0, .int .i64 0, .int .i64 0, .int .i64 0, .nilm, .int .i64 0, .int .i64 0, .int .i64 0, .bool false, .int .i64 0, .int .i64 0, .str [], .int .i64 0, .int .i64 0, .int .i64 0, .int .i64 0, .nilm, .int .i64 0, .int .i64 0, .int .i64 0, .bool false, .int .i64 0, .int .i64 0, .str [], .int .i64 0, .int .i64 0, .int .i64 0, .int .i64 0, .nilm, .int .i64 0, .int .i64 0, .int .i64 0, .bool false, .int .i64 0, .int .i64 0, .str [], .int .i64 0, .int .i64 0, .int .i64 0, .int .i64 0, .nilm, .int .i64 0, .int .i64 0, .int .i64 0, .bool false, .int .i64 0, .int .i64 0, .str [], .int .i64 0, .int .i64 0, .int .i64 0, .int .i64 0, .nilm, .int .i64 0, .int .i64 0, .int .i64 0, .bool false, .int .i64 0, .int .i64 0, .str [], .int .i64 0, .int .i64 0, .int .i64 0, .int .i64 0, .nilm, .int .i64 0, .int .i64 0, .int .i64 0, .bool false, .int .i64 0, .int .i64 0, .str [], .int .i64 0, .int .i64 0, .int .i64 0, .int .i64 0, .nilm, .int .i64 0, .int .i64 0, .int .i64 0, .bool false, .int .i64 0, .int .i64 0, .str [], .int .i64 0, .int .i64 0, .int .i64 0, .int .i64 0, .nilm, .int .i64 0, .int .i64 0, .int .i64 0, .bool false, .int .i64 0, .int .i64 0, .str [], .int .i64 0, .int .i64 0, .int .i64 0, .int .i64 0, .nilm, .int .i64 0, .int .i64 0, .int .i64 0, .bool false, .int .i64 0, .int .i64 0, .str [], .int .i64 0, .int .i64 0, .int .i64 0, .int .i64 0, .nilm, .int .i64 0, .int .i64 0, .int .i64 0, .bool false, .int .i64 0, .int .i64 0, .str [], .int .i64 0, .int .i64 0, .int .i64 0, .int .i64 0, .nilm, .int .i64 0, .int .i64 0, .int .i64 0, .bool false, .int .i64 0, .int .i64 0, .str [], .int .i64 0, .int .i64 0, .int .i64 0, .int .i64 0, .nilm, .int .i64 0, .int .i64 0, .int .i64 0, .bool false, .int .i64 0, .int .i64 0, .str [], .int .i64 0, .int .i64 0, .int .i64 0, .int .i64 0, .nilm, .int .i64 0, .int .i64 0, .int .i64 0, .bool false, .int .i64 0, .int .i64 0, .str [], .int .i64 0, .int .i64 0, .int .i64 0, .int .i64 0, .nilm, .int .i64 0, .int .i64 0, .int .i64 0, .bool false, .int .i64 0, .int .i64 0, .str [], .int .i64 0, .int .i64 0, .int .i64 0, .int .i64 0, .nilm, .int .i64 0, .int .i64 0, .int .i64 0, .bool false, .int .i64 0, .int .i64 0, .str [], .int .i64 0, .int .i64 0, .int .i64 0, .int .i64 0, .nilm, .int .i64 0, .int .i64 0, .int .i64 0], .none⟩,
      ⟨none, none, .st (.s 3) (.s 8) 192, .none⟩])
  (.seq (.seq (.reg [⟨some 9, none, .bsl 4 1 2 [.bool false] [(0, (1, .c (.d (.bool false)))), (1, (1, .c (.d (.bool true))))], .none⟩,
       ⟨some 10, none, .len (.s 9), .none⟩,
       ⟨some 11, none, .mv (.c (.d (.int .i64 0))), .none⟩])
   (.block 0 (.loop [0, 2, 3, 9, 10, 11] lp10_0)))
  (.seq (.reg [⟨some 31, none, .ld (.s 3) 192 true, .none⟩,
      ⟨none, none, .st (.s 2) (.s 31) 192, .none⟩])
  (.ret none)))))
def ir10 : F := { n := 32, res := [.cell 2 192 true], body := bd10 }
@[go_sem] theorem n10 : ir10.n = 32 := rfl
@[go_sem] theorem r10 : ir10.res = [.cell 2 192 true] := rfl
@[go_sem] theorem b10 : ir10.body = bd10 := rfl
/-- spence/replay.Live -/
def bd11 : C :=
  (.seq (.reg [⟨some 2, none, .box 39 (.s 0), .none⟩,
      ⟨some 3, none, .box 30 (.s 1), .none⟩,
      ⟨some 4, none, .mv (.c (.d (.bool false))), .none⟩])
  (.seq (.reg [⟨some 23, none, .fa (.s 3) 4, .none⟩,
      ⟨some 24, none, .ld (.s 23) 1 false, .none⟩,
      ⟨some 25, none, .fa (.s 3) 5, .none⟩,
      ⟨some 26, none, .ld (.s 25) 1 false, .none⟩,
      ⟨some 27, none, .call 24 [.s 24, .s 26] 2, .none⟩,
      ⟨some 22, none, .mv (.s 27), .none⟩,
      ⟨some 28, none, .ext (.s 22) 0, .none⟩,
      ⟨some 29, none, .ext (.s 22) 1, .none⟩,
      ⟨some 5, none, .mv (.s 28), .none⟩,
      ⟨some 6, none, .mv (.s 29), .none⟩])
  (.seq (.seq (.reg [⟨some 30, none, .mv (.s 6), .none⟩,
       ⟨some 31, none, .un .not (.s 30), .none⟩])
   (.cond (.s 31)
    (.seq (.reg [⟨some 4, none, .mv (.c (.d (.bool false))), .none⟩])
    (.ret none))
    .skip))
  (.seq (.seq (.reg [⟨some 32, none, .fa (.s 3) 4, .none⟩,
       ⟨some 33, none, .ld (.s 32) 1 false, .none⟩])
   (.block 0 (.seq (.reg [⟨some 35, none, .bin .eql (.s 33) (.c (.d (.int .u8 2))), .none⟩,
        ⟨some 34, none, .mv (.s 35), .none⟩])
    (.cond (.s 34)
     (.seq (.reg [⟨some 37, none, .fa (.s 3) 5, .none⟩,
         ⟨some 38, none, .ld (.s 37) 1 false, .none⟩,
         ⟨some 39, none, .call 25 [.s 38] 2, .none⟩,
         ⟨some 36, none, .mv (.s 39), .none⟩,
         ⟨some 40, none, .ext (.s 36) 0, .none⟩,
         ⟨some 41, none, .ext (.s 36) 1, .none⟩,
         ⟨some 7, none, .alloc 33 [.int .i64 0, .int .i64 0, .str [], .int .i64 0, .int .i64 0], .none⟩,
         ⟨none, none, .st (.s 7) (.s 40) 5, .none⟩,
         ⟨some 8, none, .mv (.s 41), .none⟩])
     (.seq (.reg [⟨some 43, none, .ld (.s 2) 192 true, .none⟩,
         ⟨some 44, none, .mv (.s 5), .none⟩,
         ⟨some 45, none, .call 26 [.s 43, .s 44] 2, .none⟩,
         ⟨some 42, none, .mv (.s 45), .none⟩,
         ⟨some 46, none, .ext (.s 42) 0, .none⟩,
         ⟨some 47, none, .ext (.s 42) 1, .none⟩,
         ⟨some 9, none, .alloc 26 [.int .i64 0, .int .i64 0], .none⟩,
         ⟨none, none, .st (.s 9) (.s 46) 2, .none⟩,
         ⟨some 10, none, .mv (.s 47), .none⟩])
     (.seq (.reg [⟨some 49, none, .ld (.s 2) 192 true, .none⟩,
         ⟨some 50, none, .mv (.s 5), .none⟩,
         ⟨some 51, none, .call 14 [.s 49, .s 50] 2, .none⟩,
         ⟨some 48, none, .mv (.s 51), .none⟩,
         ⟨some 52, none, .ext (.s 48) 0, .none⟩,
         ⟨some 53, none, .ext (.s 48) 1, .none⟩,
         ⟨some 11, none, .alloc 33 [.int .i64 0, .int .i64 0, .str [], .int .i64 0, .int .i64 0], .none⟩,
         ⟨none, none, .st (.s 11) (.s 52) 5, .none⟩,
         ⟨some 12, none, .mv (.s 53), .none⟩])
     (.seq (.reg [⟨some 54, none, .ld (.s 9) 2 true, .none⟩,
         ⟨some 55, none, .mv (.s 10), .none⟩,
         ⟨some 56, none, .ld (.s 3) 6 true, .none⟩,
         ⟨some 57, none, .call 27 [.s 54, .s 55, .s 56] 2, .none⟩,
         ⟨some 58, none, .mv (.s 57), .none⟩,
         ⟨some 59, some (58, true), .fa (.s 11) 1, .none⟩,
         ⟨some 60, some (58, true), .ld (.s 59) 1 false, .none⟩,
         ⟨some 61, some (58, true), .fa (.s 7) 1, .none⟩,
         ⟨some 62, some (58, true), .ld (.s 61) 1 false, .none⟩,
         ⟨some 63, some (58, true), .bin .eql (.s 60) (.s 62), .none⟩,
         ⟨some 64, none, .pick (.s 58) (.s 63) (.c (.d (.bool false))), .none⟩,
         ⟨some 4, none, .mv (.s 64), .none⟩])
     (.ret none)))))
     (.seq (.reg [⟨some 66, none, .bin .eql (.s 33) (.c (.d (.int .u8 3))), .none⟩,
         ⟨some 65, none, .mv (.s 66), .none⟩])
     (.cond (.s 65)
      (.seq (.reg [⟨some 68, none, .fa (.s 3) 5, .none⟩,
          ⟨some 69, none, .ld (.s 68) 1 false, .none⟩,
          ⟨some 70, none, .call 28 [.s 69] 2, .none⟩,
          ⟨some 67, none, .mv (.s 70), .none⟩,
          ⟨some 71, none, .ext (.s 67) 0, .none⟩,
          ⟨some 72, none, .ext (.s 67) 1, .none⟩,
          ⟨some 13, none, .alloc 84 [.int .i64 0, .int .i64 0, .int .i64 0, .nils], .cells [(3, 1, false)]⟩,
          ⟨none, none, .st (.s 13) (.s 71) 4, .none⟩,
          ⟨some 14, none, .mv (.s 72), .none⟩])
      (.seq (.reg [⟨some 74, none, .ld (.s 2) 192 true, .none⟩,
          ⟨some 75, none, .mv (.s 5), .none⟩,
          ⟨some 76, none, .fa (.s 13) 2, .none⟩,
          ⟨some 77, none, .ld (.s 76) 1 false, .none⟩,
          ⟨some 78, none, .call 29 [.s 74, .s 75, .s 77] 2, .none⟩,
          ⟨some 73, none, .mv (.s 78), .none⟩,
          ⟨some 79, none, .ext (.s 73) 0, .none⟩,
          ⟨some 80, none, .ext (.s 73) 1, .none⟩,
          ⟨some 15, none, .alloc 26 [.int .i64 0, .int .i64 0], .none⟩,
          ⟨none, none, .st (.s 15) (.s 79) 2, .none⟩,
          ⟨some 16, none, .mv (.s 80), .none⟩])
      (.seq (.reg [⟨some 82, none, .ld (.s 2) 192 true, .none⟩,
          ⟨some 83, none, .mv (.s 5), .none⟩,
          ⟨some 84, none, .call 14 [.s 82, .s 83] 2, .none⟩,
          ⟨some 81, none, .mv (.s 84), .none⟩,
          ⟨some 85, none, .ext (.s 81) 0, .none⟩,
          ⟨some 86, none, .ext (.s 81) 1, .none⟩,
          ⟨some 17, none, .alloc 33 [.int .i64 0, .int .i64 0, .str [], .int .i64 0, .int .i64 0], .none⟩,
          ⟨none, none, .st (.s 17) (.s 85) 5, .none⟩,
          ⟨some 18, none, .mv (.s 86), .none⟩])
      (.seq (.reg [⟨some 87, none, .ld (.s 15) 2 true, .none⟩,
          ⟨some 88, none, .mv (.s 16), .none⟩,
          ⟨some 89, none, .ld (.s 3) 6 true, .none⟩,
          ⟨some 90, none, .call 27 [.s 87, .s 88, .s 89] 2, .none⟩,
          ⟨some 91, none, .mv (.s 90), .none⟩,
          ⟨some 92, some (91, true), .fa (.s 17) 1, .none⟩,
          ⟨some 93, some (91, true), .ld (.s 92) 1 false, .none⟩,
          ⟨some 94, some (91, true), .fa (.s 13) 1, .none⟩,
          ⟨some 95, some (91, true), .ld (.s 94) 1 false, .none⟩,
          ⟨some 96, some (91, true), .bin .eql (.s 93) (.s 95), .none⟩,
          ⟨some 97, none, .pick (.s 91) (.s 96) (.c (.d (.bool false))), .none⟩,
          ⟨some 4, none, .mv (.s 97), .none⟩])
      (.ret none)))))
      .skip))))))
  (.seq (.reg [⟨some 99, none, .fa (.s 3) 4, .none⟩,
      ⟨some 100, none, .ld (.s 99) 1 false, .none⟩,
      ⟨some 101, none, .fa (.s 3) 5, .none⟩,
      ⟨some 102, none, .ld (.s 101) 1 false, .none⟩,
      ⟨some 103, none, .call 30 [.s 100, .s 102] 2, .none⟩,
      ⟨some 98, none, .mv (.s 103), .none⟩,
      ⟨some 104, none, .ext (.s 98) 0, .none⟩,
      ⟨some 105, none, .ext (.s 98) 1, .none⟩,
      ⟨some 19, none, .alloc 70 [.int .i64 0, .int .i64 0, .bool false], .none⟩,
      ⟨none, none, .st (.s 19) (.s 104) 3, .none⟩,
      ⟨some 20, none, .mv (.s 105), .none⟩])
  (.seq (.reg [⟨some 107, none, .ld (.s 2) 192 true, .none⟩,
      ⟨some 108, none, .mv (.s 5), .none⟩,
      ⟨some 109, none, .call 31 [.s 107, .s 108] 2, .none⟩,
      ⟨some 106, none, .mv (.s 109), .none⟩,
      ⟨some 110, none, .ext (.s 106) 0, .none⟩,
      ⟨some 111, none, .ext (.s 106) 1, .none⟩,
      ⟨some 21, none, .alloc 26 [.int .i64 0, .int .i64 0], .none⟩,
      ⟨none, none, .st (.s 21) (.s 110) 2, .none⟩,
      ⟨some 6, none, .mv (.s 111), .none⟩])
  (.seq (.drw [⟨some 112, none, .ld (.s 21) 2 true, .none⟩,
      ⟨some 113, none, .mv (.s 6), .none⟩,
      ⟨some 114, none, .ld (.s 3) 6 true, .none⟩,
      ⟨some 115, none, .call 27 [.s 112, .s 113, .s 114] 2, .none⟩,
      ⟨some 116, none, .mv (.s 115), .none⟩,
      ⟨some 117, some (116, true), .ld (.s 2) 192 true, .none⟩,
      ⟨some 118, some (116, true), .mv (.s 5), .none⟩,
      ⟨some 119, some (116, true), .call 15 [.s 117, .s 118] 2, .none⟩,
      ⟨some 120, some (116, true), .fa (.s 19) 1, .none⟩,
      ⟨some 121, some (116, true), .ld (.s 120) 1 false, .none⟩,
      ⟨some 122, some (116, true), .bin .eql (.s 119) (.s 121), .none⟩,
      ⟨some 123, none, .pick (.s 116) (.s 122) (.c (.d (.bool false))), .none⟩,
      ⟨some 4, none, .mv (.s 123), .none⟩]
     [[], [], [], [0, 1, 2], [3, 3], [4], [4], [5, 6, 4, 4], [4], [8, 4], [7, 9, 4], [4, 10], [11, 7, 0, 1, 2, 3, 4, 5, 6, 7, 8, 9, 10, 11]] [])
  (.ret none))))))))
def ir11 : F := { n := 124, res := [.tmp 4], body := bd11 }
@[go_sem] theorem n11 : ir11.n = 124 := rfl
@[go_sem] theorem r11 : ir11.res = [.tmp 4] := rfl
@[go_sem] theorem b11 : ir11.body = bd11 := rfl
/-- spence/spencelaw19.awake -/
def bd12 : C :=
  (.seq (.reg [⟨some 0, none, .mv (.c (.d (.bool false))), .none⟩])
  (.seq (.reg [⟨some 6, none, .call 22 [] 2, .none⟩,
      ⟨some 7, none, .build [.int .i64 0, .int .i64 0, .str [], .int .i64 0, .int .i64 0] [(0, (1, .c (.d (.int .i64 1)))), (1, (1, .c (.d (.int .i64 2))))], .none⟩,
      ⟨some 8, none, .call 32 [.s 6, .s 7] 2, .none⟩,
      ⟨some 1, none, .alloc 39 [.bool false, .int .i64 0, .int .i64 0, .str [], .int .i64 0, .int .i64 0, .int .i64 0, .int .i64 0, .nilm, .int .i64 0, .int .i64 0, .int .i64 0, .bool false, .int .i64 0, .int .i64 0, .str [], .int .i64 0, .int .i64 0, .int .i64 0, .int .i64 0, .nilm, .int .i64 0, .int .i64 0, .int .i64 0, .bool false, .int .i64 0, .int .i64 0, .str [], .int .i64 0, .int .i64 0, .int .i64 0, .int .i64 0, .nilm, .int .i64 0, .int .i64 0, .int .i64 0, .bool false, .int .i64 0, .int .i64 0, .str [], .int .i64 0, .int .i64 0, .int .i64 0, .int .i64 0, .nilm, .int .i64 0, .int .i64 0, .int .i64 0, .bool false, .int .i64 0, .int .i64 0, .str [], .int .i64 0, .int .i64 0, .int .i64 0, .int .i64 0, .nilm, .int .i64 0, .int .i64 0, .int .i64 0, .bool false, .int .i64 0, .int .i64 0, .str [], .int .i64 0, .int .i64 0, .int .i64 0, .int .i64 0, .nilm, .int .i64 0, .int .i64 0, .int .i64 0, .bool false, .int .i64 0, .int .i64 0, .str [], .int .i64 0, .int .i64 0, .int .i64 0, .int .i64 0, .nilm, .int .i64 0, .int .i64 0, .int .i64 0, .bool false, .int .i64 0, .int .i64 0, .str [], .int .i64 0, .int .i64 0, .int .i64 0, .int .i64 0, .nilm, .int .i64 0, .int .i64 0, .int .i64 0, .bool false, .int .i64 0, .int .i64 0, .str [], .int .i64 0, .int .i64 0, .int .i64 0, .int .i64 0, .nilm, .int .i64 0, .int .i64 0, .int .i64 0, .bool false, .int .i64 0, .int .i64 0, .str [], .int .i64 0, .int .i64 0, .int .i64 0, .int .i64 0, .nilm, .int .i64 0, .int .i64 0, .int .i64 0, .bool false, .int .i64 0, .int .i64 0, .str [], .int .i64 0, .int .i64 0, .int .i64 0, .int .i64 0, .nilm, .int .i64 0, .int .i64 0, .int .i64 0, .bool false, .int .i64 0, .int .i64 0, .str [], .int .i64 0, .int .i64 0, .int .i64 0, .int .i64 0, .nilm, .int .i64 0, .int .i64 0, .int .i64 0, .bool false, .int .i64 0, .int .i64 0, .str [], .int .i64 0, .int .i64 0, .int .i64 0, .int .i64 0, .nilm, .int .i64 0, .int .i64 0, .int .i64 0, .bool false, .int .i64 0, .int .i64 0, .str [], .int .i64 0, .int .i64 0, .int .i64 0, .int .i64 0, .nilm, .int .i64 0, .int .i64 0, .int .i64 0, .bool false, .int .i64 0, .int .i64 0, .str [], .int .i64 0, .int .i64 0, .int .i64 0, .int .i64 0, .nilm, .int .i64 0, .int .i64 0, .int .i64 0, .bool false, .int .i64 0, .int .i64 0, .str [], .int .i64 0, .int .i64 0, .int .i64 0, .int .i64 0, .nilm, .int .i64 0, .int .i64 0, .int .i64 0], .none⟩,
      ⟨none, none, .st (.s 1) (.s 8) 192, .none⟩])
  (.seq (.reg [⟨some 10, none, .ld (.s 1) 192 true, .none⟩,
      ⟨some 11, none, .call 14 [.s 10, .c (.d (.int .i64 1))] 2, .none⟩,
      ⟨some 9, none, .mv (.s 11), .none⟩,
      ⟨some 12, none, .ext (.s 9) 0, .none⟩,
      ⟨some 13, none, .ext (.s 9) 1, .none⟩,
      ⟨some 2, none, .alloc 33 [.int .i64 0, .int .i64 0, .str [], .int .i64 0, .int .i64 0], .none⟩,
      ⟨none, none, .st (.s 2) (.s 12) 5, .none⟩,
      ⟨some 3, none, .mv (.s 13), .none⟩])
  (.seq (.reg [⟨some 15, none, .ld (.s 1) 192 true, .none⟩,
      ⟨some 16, none, .call 33 [.s 15, .c (.d (.int .i64 1)), .c (.d (.int .i64 2))] 2, .none⟩,
      ⟨some 17, none, .call 14 [.s 16, .c (.d (.int .i64 1))] 2, .none⟩,
      ⟨some 14, none, .mv (.s 17), .none⟩,
      ⟨some 18, none, .ext (.s 14) 0, .none⟩,
      ⟨some 19, none, .ext (.s 14) 1, .none⟩,
      ⟨some 4, none, .alloc 33 [.int .i64 0, .int .i64 0, .str [], .int .i64 0, .int .i64 0], .none⟩,
      ⟨none, none, .st (.s 4) (.s 18) 5, .none⟩,
      ⟨some 5, none, .mv (.s 19), .none⟩])
  (.seq (.reg [⟨some 20, none, .mv (.s 3), .none⟩,
      ⟨some 21, none, .mv (.s 20), .none⟩,
      ⟨some 22, some (21, true), .mv (.s 5), .none⟩,
      ⟨some 23, some (21, true), .un .not (.s 22), .none⟩,
      ⟨some 24, none, .pick (.s 21) (.s 23) (.c (.d (.bool false))), .none⟩,
      ⟨some 25, none, .mv (.s 24), .none⟩,
      ⟨some 26, some (25, true), .ld (.s 1) 192 true, .none⟩,
      ⟨some 27, some (25, true), .call 33 [.s 26, .c (.d (.int .i64 1)), .c (.d (.int .i64 2))] 2, .none⟩,
      ⟨some 28, some (25, true), .call 15 [.s 27, .c (.d (.int .i64 1))] 2, .none⟩,
      ⟨some 29, some (25, true), .bin .eql (.s 28) (.c (.d (.int .i64 2))), .none⟩,
      ⟨some 30, none, .pick (.s 25) (.s 29) (.c (.d (.bool false))), .none⟩,
      ⟨some 0, none, .mv (.s 30), .none⟩])
  (.ret none))))))
def ir12 : F := { n := 31, res := [.tmp 0], body := bd12 }
@[go_sem] theorem n12 : ir12.n = 31 := rfl
@[go_sem] theorem r12 : ir12.res = [.tmp 0] := rfl
@[go_sem] theorem b12 : ir12.body = bd12 := rfl
def lb13_0 : C :=
  (.seq (.reg [⟨some 15, none, .bin .lss (.s 14) (.s 13), .none⟩])
  (.seq (.cond (.s 15)
    .skip
    (.exit 0 (some [2, 4, 5])))
  (.seq (.block 1 (.seq (.reg [⟨some 16, none, .is (.s 12) (.s 14) 9, .none⟩,
        ⟨some 17, none, .ld (.s 16) 9 true, .none⟩,
        ⟨some 7, none, .alloc 45 [.int .i64 0, .int .i64 0, .int .i64 0, .str [], .int .i64 0, .int .i64 0, .int .i64 0, .int .i64 0, .int .i64 0], .none⟩,
        ⟨none, none, .st (.s 7) (.s 17) 9, .none⟩])
    (.seq (.reg [⟨some 18, none, .fa (.s 7) 1, .none⟩,
        ⟨some 19, none, .ld (.s 18) 5 true, .none⟩,
        ⟨some 8, none, .alloc 33 [.int .i64 0, .int .i64 0, .str [], .int .i64 0, .int .i64 0], .none⟩,
        ⟨none, none, .st (.s 8) (.s 19) 5, .none⟩])
    (.seq (.reg [⟨some 20, none, .fa (.s 7) 0, .none⟩,
        ⟨some 21, none, .ld (.s 20) 1 false, .none⟩])
    (.block 2 (.seq (.reg [⟨some 33, none, .bin .eql (.s 21) (.c (.d (.int .i64 1))), .none⟩,
         ⟨some 32, none, .mv (.s 33), .none⟩])
     (.cond (.s 32)
      (.seq (.reg [⟨some 34, none, .ld (.s 4) 192 true, .none⟩,
          ⟨some 35, none, .fa (.s 8) 0, .none⟩,
          ⟨some 36, none, .ld (.s 35) 1 false, .none⟩,
          ⟨some 37, none, .fa (.s 8) 1, .none⟩,
          ⟨some 38, none, .ld (.s 37) 1 false, .none⟩,
          ⟨some 39, none, .fa (.s 7) 6, .none⟩,
          ⟨some 40, none, .ld (.s 39) 1 false, .none⟩,
          ⟨some 41, none, .fa (.s 7) 7, .none⟩,
          ⟨some 42, none, .ld (.s 41) 2 true, .none⟩,
          ⟨some 43, none, .call 34 [.s 34, .s 36, .s 38, .s 40, .s 42] 2, .none⟩,
          ⟨none, none, .st (.s 4) (.s 43) 192, .none⟩])
      (.reg [⟨some 44, none, .mv (.s 5), .none⟩,
         ⟨some 45, none, .fa (.s 8) 0, .none⟩,
         ⟨some 46, none, .ld (.s 45) 1 false, .none⟩,
         ⟨some 47, none, .fa (.s 8) 1, .none⟩,
         ⟨some 48, none, .ld (.s 47) 1 false, .none⟩,
         ⟨some 49, none, .fa (.s 7) 6, .none⟩,
         ⟨some 50, none, .ld (.s 49) 1 false, .none⟩,
         ⟨some 51, none, .fa (.s 7) 7, .none⟩,
         ⟨some 52, none, .ld (.s 51) 2 true, .none⟩,
         ⟨some 53, none, .call 35 [.s 44, .s 46, .s 48, .s 50, .s 52] 0, .none⟩]))
      (.seq (.reg [⟨some 55, none, .bin .eql (.s 21) (.c (.d (.int .i64 2))), .none⟩,
          ⟨some 54, none, .mv (.s 55), .none⟩])
      (.cond (.s 54)
       (.seq (.reg [⟨some 56, none, .ld (.s 4) 192 true, .none⟩,
           ⟨some 57, none, .fa (.s 8) 0, .none⟩,
           ⟨some 58, none, .ld (.s 57) 1 false, .none⟩,
           ⟨some 59, none, .fa (.s 8) 1, .none⟩,
           ⟨some 60, none, .ld (.s 59) 1 false, .none⟩,
           ⟨some 61, none, .fa (.s 7) 7, .none⟩,
           ⟨some 62, none, .ld (.s 61) 2 true, .none⟩,
           ⟨some 63, none, .call 36 [.s 56, .s 58, .s 60, .s 62] 2, .none⟩,
           ⟨none, none, .st (.s 4) (.s 63) 192, .none⟩])
       (.reg [⟨some 64, none, .mv (.s 5), .none⟩,
          ⟨some 65, none, .fa (.s 8) 0, .none⟩,
          ⟨some 66, none, .ld (.s 65) 1 false, .none⟩,
          ⟨some 67, none, .fa (.s 8) 1, .none⟩,
          ⟨some 68, none, .ld (.s 67) 1 false, .none⟩,
          ⟨some 69, none, .fa (.s 7) 7, .none⟩,
          ⟨some 70, none, .ld (.s 69) 2 true, .none⟩,
          ⟨some 71, none, .call 37 [.s 64, .s 66, .s 68, .s 70] 0, .none⟩]))
       (.seq (.reg [⟨some 22, none, .ld (.s 4) 192 true, .none⟩,
           ⟨some 23, none, .ld (.s 8) 5 true, .none⟩,
           ⟨some 24, none, .fa (.s 7) 7, .none⟩,
           ⟨some 25, none, .ld (.s 24) 2 true, .none⟩,
           ⟨some 26, none, .call 38 [.s 22, .s 23, .s 25] 2, .none⟩,
           ⟨none, none, .st (.s 4) (.s 26) 192, .none⟩])
       (.reg [⟨some 27, none, .mv (.s 5), .none⟩,
          ⟨some 28, none, .ld (.s 8) 5 true, .none⟩,
          ⟨some 29, none, .fa (.s 7) 7, .none⟩,
          ⟨some 30, none, .ld (.s 29) 2 true, .none⟩,
          ⟨some 31, none, .call 39 [.s 27, .s 28, .s 30] 0, .none⟩])))))))))))
  (.reg [⟨some 72, none, .bin .add (.s 14) (.c (.d (.int .i64 1))), .none⟩,
     ⟨some 14, none, .mv (.s 72), .none⟩]))))
def lp13_0 : C := lb13_0
theorem u13_0 (c : Ev.Callee) (l : Ev.Looper) (s : St) : evC c l lp13_0 s = evC c l lb13_0 s := rfl
abbrev st13_0 (m : Nat) (s2 s4 s5 s12 s13 s14 : AV) (h : Heap) : St := ⟨m, [.unk, .unk, s2, .unk, s4, s5, .unk, .unk, .unk, .unk, .unk, .unk, s12, s13, s14, .unk, .unk, .unk, .unk, .unk, .unk, .unk, .unk, .unk, .unk, .unk, .unk, .unk, .unk, .unk, .unk, .unk, .unk, .unk, .unk, .unk, .unk, .unk, .unk, .unk, .unk, .unk, .unk, .unk, .unk, .unk, .unk, .unk, .unk, .unk, .unk, .unk, .unk, .unk, .unk, .unk, .unk, .unk, .unk, .unk, .unk, .unk, .unk, .unk, .unk, .unk, .unk, .unk, .unk, .unk, .unk, .unk, .unk, .unk, .unk], h⟩
@[go_sem] theorem ks13_0 (v0 v1 v2 v3 v4 v5 v6 v7 v8 v9 v10 v11 v12 v13 v14 v15 v16 v17 v18 v19 v20 v21 v22 v23 v24 v25 v26 v27 v28 v29 v30 v31 v32 v33 v34 v35 v36 v37 v38 v39 v40 v41 v42 v43 v44 v45 v46 v47 v48 v49 v50 v51 v52 v53 v54 v55 v56 v57 v58 v59 v60 v61 v62 v63 v64 v65 v66 v67 v68 v69 v70 v71 v72 v73 v74 : AV) : keepS [2, 4, 5, 12, 13, 14] [v0, v1, v2, v3, v4, v5, v6, v7, v8, v9, v10, v11, v12, v13, v14, v15, v16, v17, v18, v19, v20, v21, v22, v23, v24, v25, v26, v27, v28, v29, v30, v31, v32, v33, v34, v35, v36, v37, v38, v39, v40, v41, v42, v43, v44, v45, v46, v47, v48, v49, v50, v51, v52, v53, v54, v55, v56, v57, v58, v59, v60, v61, v62, v63, v64, v65, v66, v67, v68, v69, v70, v71, v72, v73, v74] 0 = [.unk, .unk, v2, .unk, v4, v5, .unk, .unk, .unk, .unk, .unk, .unk, v12, v13, v14, .unk, .unk, .unk, .unk, .unk, .unk, .unk, .unk, .unk, .unk, .unk, .unk, .unk, .unk, .unk, .unk, .unk, .unk, .unk, .unk, .unk, .unk, .unk, .unk, .unk, .unk, .unk, .unk, .unk, .unk, .unk, .unk, .unk, .unk, .unk, .unk, .unk, .unk, .unk, .unk, .unk, .unk, .unk, .unk, .unk, .unk, .unk, .unk, .unk, .unk, .unk, .unk, .unk, .unk, .unk, .unk, .unk, .unk, .unk, .unk] := rfl
@[go_sem] theorem ks13_1 (v0 v1 v2 v3 v4 v5 v6 v7 v8 v9 v10 v11 v12 v13 v14 v15 v16 v17 v18 v19 v20 v21 v22 v23 v24 v25 v26 v27 v28 v29 v30 v31 v32 v33 v34 v35 v36 v37 v38 v39 v40 v41 v42 v43 v44 v45 v46 v47 v48 v49 v50 v51 v52 v53 v54 v55 v56 v57 v58 v59 v60 v61 v62 v63 v64 v65 v66 v67 v68 v69 v70 v71 v72 v73 v74 : AV) : keepS [2, 4, 5] [v0, v1, v2, v3, v4, v5, v6, v7, v8, v9, v10, v11, v12, v13, v14, v15, v16, v17, v18, v19, v20, v21, v22, v23, v24, v25, v26, v27, v28, v29, v30, v31, v32, v33, v34, v35, v36, v37, v38, v39, v40, v41, v42, v43, v44, v45, v46, v47, v48, v49, v50, v51, v52, v53, v54, v55, v56, v57, v58, v59, v60, v61, v62, v63, v64, v65, v66, v67, v68, v69, v70, v71, v72, v73, v74] 0 = [.unk, .unk, v2, .unk, v4, v5, .unk, .unk, .unk, .unk, .unk, .unk, .unk, .unk, .unk, .unk, .unk, .unk, .unk, .unk, .unk, .unk, .unk, .unk, .unk, .unk, .unk, .unk, .unk, .unk, .unk, .unk, .unk, .unk, .unk, .unk, .unk, .unk, .unk, .unk, .unk, .unk, .unk, .unk, .unk, .unk, .unk, .unk, .unk, .unk, .unk, .unk, .unk, .unk, .unk, .unk, .unk, .unk, .unk, .unk, .unk, .unk, .unk, .unk, .unk, .unk, .unk, .unk, .unk, .unk, .unk, .unk, .unk, .unk, .unk] := rfl
/-- spence/spencelaw19.Made -/
def bd13 : C :=
  (.seq (.reg [⟨some 2, none, .alloc 39 [.bool false, .int .i64 0, .int .i64 0, .str [], .int .i64 0, .int .i64 0, .int .i64 0, .int .i64 0, .nilm, .int .i64 0, .int .i64 0, .int .i64 0, .bool false, .int .i64 0, .int .i64 0, .str [], .int .i64 0, .int .i64 0, .int .i64 0, .int .i64 0, .nilm, .int .i64 0, .int .i64 0, .int .i64 0, .bool false, .int .i64 0, .int .i64 0, .str [], .int .i64 0, .int .i64 0, .int .i64 0, .int .i64 0, .nilm, .int .i64 0, .int .i64 0, .int .i64 0, .bool false, .int .i64 0, .int .i64 0, .str [], .int .i64 0, .int .i64 0, .int .i64 0, .int .i64 0, .nilm, .int .i64 0, .int .i64 0, .int .i64 0, .bool false, .int .i64 0, .int .i64 0, .str [], .int .i64 0, .int .i64 0, .int .i64 0, .int .i64 0, .nilm, .int .i64 0, .int .i64 0, .int .i64 0, .bool false, .int .i64 0, .int .i64 0, .str [], .int .i64 0, .int .i64 0, .int .i64 0, .int .i64 0, .nilm, .int .i64 0, .int .i64 0, .int .i64 0, .bool false, .int .i64 0, .int .i64 0, .str [], .int .i64 0, .int .i64 0, .int .i64 0, .int .i64 0, .nilm, .int .i64 0, .int .i64 0, .int .i64 0, .bool false, .int .i64 0, .int .i64 0, .str [], .int .i64 0, .int .i64 0, .int .i64 0, .int .i64 0, .nilm, .int .i64 0, .int .i64 0, .int .i64 0, .bool false, .int .i64 0, .int .i64 0, .str [], .int .i64 0, .int .i64 0, .int .i64 0, .int .i64 0, .nilm, .int .i64 0, .int .i64 0, .int .i64 0, .bool false, .int .i64 0, .int .i64 0, .str [], .int .i64 0, .int .i64 0, .int .i64 0, .int .i64 0, .nilm, .int .i64 0, .int .i64 0, .int .i64 0, .bool false, .int .i64 0, .int .i64 0, .str [], .int .i64 0, .int .i64 0, .int .i64 0, .int .i64 0, .nilm, .int .i64 0, .int .i64 0, .int .i64 0, .bool false, .int .i64 0, .int .i64 0, .str [], .int .i64 0, .int .i64 0, .int .i64 0, .int .i64 0, .nilm, .int .i64 0, .int .i64 0, .int .i64 0, .bool false, .int .i64 0, .int .i64 0, .str [], .int .i64 0, .int .i64 0, .int .i64 0, .int .i64 0, .nilm, .int .i64 0, .int .i64 0, .int .i64 0, .bool false, .int .i64 0, .int .i64 0, .str [], .int .i64 0, .int .i64 0, .int .i64 0, .int .i64 0, .nilm, .int .i64 0, .int .i64 0, .int .i64 0, .bool false, .int .i64 0, .int .i64 0, .str [], .int .i64 0, .int .i64 0, .int .i64 0, .int .i64 0, .nilm, .int .i64 0, .int .i64 0, .int .i64 0, .bool false, .int .i64 0, .int .i64 0, .str [], .int .i64 0, .int .i64 0, .int .i64 0, .int .i64 0, .nilm, .int .i64 0, .int .i64 0, .int .i64 0], .none⟩,
      ⟨some 3, none, .mv (.c (.d .nilp)), .none⟩])
  (.seq (.reg [⟨some 9, none, .call 22 [] 2, .none⟩,
      ⟨some 10, none, .build [.bool false, .int .i64 0, .int .i64 0, .str [], .int .i64 0, .int .i64 0, .int .i64 0, .int .i64 0, .nils, .int .i64 0, .int .i64 0, .int .i64 0, .bool false, .int .i64 0, .int .i64 0, .str [], .int .i64 0, .int .i64 0, .int .i64 0, .int .i64 0, .nils, .int .i64 0, .int .i64 0, .int .i64 0, .bool false, .int .i64 0, .int .i64 0, .str [], .int .i64 0, .int .i64 0, .int .i64 0, .int .i64 0, .nils, .int .i64 0, .int .i64 0, .int .i64 0, .bool false, .int .i64 0, .int .i64 0, .str [], .int .i64 0, .int .i64 0, .int .i64 0, .int .i64 0, .nils, .int .i64 0, .int .i64 0, .int .i64 0, .bool false, .int .i64 0, .int .i64 0, .str [], .int .i64 0, .int .i64 0, .int .i64 0, .int .i64 0, .nils, .int .i64 0, .int .i64 0, .int .i64 0, .bool false, .int .i64 0, .int .i64 0, .str [], .int .i64 0, .int .i64 0, .int .i64 0, .int .i64 0, .nils, .int .i64 0, .int .i64 0, .int .i64 0, .bool false, .int .i64 0, .int .i64 0, .str [], .int .i64 0, .int .i64 0, .int .i64 0, .int .i64 0, .nils, .int .i64 0, .int .i64 0, .int .i64 0, .bool false, .int .i64 0, .int .i64 0, .str [], .int .i64 0, .int .i64 0, .int .i64 0, .int .i64 0, .nils, .int .i64 0, .int .i64 0, .int .i64 0, .bool false, .int .i64 0, .int .i64 0, .str [], .int .i64 0, .int .i64 0, .int .i64 0, .int .i64 0, .nils, .int .i64 0, .int .i64 0, .int .i64 0, .bool false, .int .i64 0, .int .i64 0, .str [], .int .i64 0, .int .i64 0, .int .i64 0, .int .i64 0, .nils, .int .i64 0, .int .i64 0, .int .i64 0, .bool false, .int .i64 0, .int .i64 0, .str [], .int .i64 0, .int .i64 0, .int .i64 0, .int .i64 0, .nils, .int .i64 0, .int .i64 0, .int .i64 0, .bool false, .int .i64 0, .int .i64 0, .str [], .int .i64 0, .int .i64 0, .int .i64 0, .int .i64 0, .nils, .int .i64 0, .int .i64 0, .int .i64 0, .bool false, .int .i64 0, .int .i64 0, .str [], .int .i64 0, .int .i64 0, .int .i64 0, .int .i64 0, .nils, .int .i64 0, .int .i64 0, .int .i64 0, .bool false, .int .i64 0, .int .i64 0, .str [], .int .i64 0, .int .i64 0, .int .i64 0, .int .i64 0, .nils, .int .i64 0, .int .i64 0, .int .i64 0, .bool false, .int .i64 0, .int .i64 0, .str [], .int .i64 0, .int .i64 0, .int .i64 0, .int .i64 0, .nils, .int .i64 0, .int .i64 0, .int .i64 0, .bool false, .int .i64 0, .int .i64 0, .str [], .int .i64 0, .int .i64 0, .int .i64 0, .int .i64 0, .nils, .int .i64 0, .int .i64 0, .int .i64 0] [], .cells [(8, 3, false), (20, 3, false), (32, 3, false), (44, 3, false), (56, 3, false), (68, 3, false), (80, 3, false), (92, 3, false), (104, 3, false), (116, 3, false), (128, 3, false), (140, 3, false), (152, 3, false), (164, 3, false), (176, 3, false), (188, 3, false)]⟩,
      ⟨some 11, none, .box 63 (.s 10), .none⟩,
      ⟨some 4, none, .alloc 39 [.bool false, .int .i64 0, .int .i64 0, .str [], .int .i64 0, .int .i64 0, .int .i64 0, .int .i64 0, .nilm, .int .i64 0, .int .i64 0, .int .i64 0, .bool false, .int .i64 0, .int .i64 0, .str [], .int .i64 0, .int .i64 0, .int .i64 0, .int .i64 0, .nilm, .int .i64 0, .int .i64 0, .int .i64 0, .bool false, .int .i64 0, .int .i64 0, .str [], .int .i64 0, .int .i64 0, .int .i64 0, .int .i64 0, .nilm, .int .i64 0, .int .i64 0, .int .i64 0, .bool false, .int .i64 0, .int .i64 0, .str [], .int .i64 0, .int .i64 0, .int .i64 0, .int .i64 0, .nilm, .int .i64 0, .int .i64 0, .int .i64 0, .bool false, .int .i64 0, .int .i64 0, .str [], .int .i64 0, .int .i64 0, .int .i64 0, .int .i64 0, .nilm, .int .i64 0, .int .i64 0, .int .i64 0, .bool false, .int .i64 0, .int .i64 0, .str [], .int .i64 0, .int .i64 0, .int .i64 0, .int .i64 0, .nilm, .int .i64 0, .int .i64 0, .int .i64 0, .bool false, .int .i64 0, .int .i64 0, .str [], .int .i64 0, .int .i64 0, .int .i64 0, .int .i64 0, .nilm, .int .i64 0, .int .i64 0, .int .i64 0, .bool false, .int .i64 0, .int .i64 0, .str [], .int .i64 0, .int .i64 0, .int .i64 0, .int .i64 0, .nilm, .int .i64 0, .int .i64 0, .int .i64 0, .bool false, .int .i64 0, .int .i64 0, .str [], .int .i64 0, .int .i64 0, .int .i64 0, .int .i64 0, .nilm, .int .i64 0, .int .i64 0, .int .i64 0, .bool false, .int .i64 0, .int .i64 0, .str [], .int .i64 0, .int .i64 0, .int .i64 0, .int .i64 0, .nilm, .int .i64 0, .int .i64 0, .int .i64 0, .bool false, .int .i64 0, .int .i64 0, .str [], .int .i64 0, .int .i64 0, .int .i64 0, .int .i64 0, .nilm, .int .i64 0, .int .i64 0, .int .i64 0, .bool false, .int .i64 0, .int .i64 0, .str [], .int .i64 0, .int .i64 0, .int .i64 0, .int .i64 0, .nilm, .int .i64 0, .int .i64 0, .int .i64 0, .bool false, .int .i64 0, .int .i64 0, .str [], .int .i64 0, .int .i64 0, .int .i64 0, .int .i64 0, .nilm, .int .i64 0, .int .i64 0, .int .i64 0, .bool false, .int .i64 0, .int .i64 0, .str [], .int .i64 0, .int .i64 0, .int .i64 0, .int .i64 0, .nilm, .int .i64 0, .int .i64 0, .int .i64 0, .bool false, .int .i64 0, .int .i64 0, .str [], .int .i64 0, .int .i64 0, .int .i64 0, .int .i64 0, .nilm, .int .i64 0, .int .i64 0, .int .i64 0, .bool false, .int .i64 0, .int .i64 0, .str [], .int .i64 0, .int .i64 0, .int .i64 0, .int .i64 0, .nilm, .int .i64 0, .int .i64 0, .int .i64 0], .none⟩,
      ⟨none, none, .st (.s 4) (.s 9) 192, .none⟩,
      ⟨some 5, none, .mv (.s 11), .none⟩])
  (.seq (.seq (.reg [⟨some 12, none, .mv (.s 0), .none⟩,
       ⟨some 13, none, .len (.s 12), .none⟩,
       ⟨some 14, none, .mv (.c (.d (.int .i64 0))), .none⟩])
   (.block 0 (.loop [2, 4, 5, 12, 13, 14] lp13_0)))
  (.seq (.reg [⟨some 73, none, .ld (.s 4) 192 true, .none⟩,
      ⟨some 74, none, .mv (.s 5), .none⟩,
      ⟨none, none, .st (.s 2) (.s 73) 192, .none⟩,
      ⟨some 3, none, .mv (.s 74), .none⟩])
  (.ret none)))))
def ir13 : F := { n := 75, res := [.cell 2 192 true, .tmp 3], body := bd13 }
@[go_sem] theorem n13 : ir13.n = 75 := rfl
@[go_sem] theorem r13 : ir13.res = [.cell 2 192 true, .tmp 3] := rfl
@[go_sem] theorem b13 : ir13.body = bd13 := rfl
/-- (spence/index.Index).Get -/
def bd14 : C :=
  (.seq (.reg [⟨some 2, none, .box 39 (.s 0), .none⟩,
      ⟨some 4, none, .alloc 33 [.int .i64 0, .int .i64 0, .str [], .int .i64 0, .int .i64 0], .none⟩,
      ⟨some 5, none, .mv (.c (.d (.bool false))), .none⟩])
  (.seq (.reg [⟨some 7, none, .ld (.s 2) 192 true, .none⟩,
      ⟨some 8, none, .mv (.s 1), .none⟩,
      ⟨some 9, none, .call 40 [.s 7, .s 8] 2, .none⟩,
      ⟨some 6, none, .alloc 36 [.bool false, .int .i64 0, .int .i64 0, .str [], .int .i64 0, .int .i64 0, .int .i64 0, .int .i64 0, .nilm, .int .i64 0, .int .i64 0, .int .i64 0], .none⟩,
      ⟨none, none, .st (.s 6) (.s 9) 12, .none⟩])
  (.seq (.drw [⟨some 10, none, .fa (.s 6) 1, .none⟩,
      ⟨some 11, none, .ld (.s 10) 5 true, .none⟩,
      ⟨some 12, none, .fa (.s 6) 0, .none⟩,
      ⟨some 13, none, .ld (.s 12) 1 false, .none⟩,
      ⟨none, none, .st (.s 4) (.s 11) 5, .none⟩,
      ⟨some 5, none, .mv (.s 13), .none⟩]
     [[], [0], [], [2], [1, 0, 1], [3, 4, 0, 1, 2, 3, 4]] [(12, 4)])
  (.ret none))))
def ir14 : F := { n := 14, res := [.cell 4 5 true, .tmp 5], body := bd14 }
@[go_sem] theorem n14 : ir14.n = 14 := rfl
@[go_sem] theorem r14 : ir14.res = [.cell 4 5 true, .tmp 5] := rfl
@[go_sem] theorem b14 : ir14.body = bd14 := rfl
/-- (spence/index.Index).Floor -/
def bd15 : C :=
  (.seq (.reg [⟨some 2, none, .box 39 (.s 0), .none⟩,
      ⟨some 4, none, .mv (.c (.d (.int .i64 0))), .none⟩])
  (.seq (.reg [⟨some 5, none, .ld (.s 2) 192 true, .none⟩,
      ⟨some 6, none, .mv (.s 1), .none⟩,
      ⟨some 7, none, .call 40 [.s 5, .s 6] 2, .none⟩,
      ⟨some 8, none, .fld (.s 7) 9 1 false, .none⟩,
      ⟨some 4, none, .mv (.s 8), .none⟩])
  (.ret none)))
def ir15 : F := { n := 9, res := [.tmp 4], body := bd15 }
@[go_sem] theorem n15 : ir15.n = 9 := rfl
@[go_sem] theorem r15 : ir15.res = [.tmp 4] := rfl
@[go_sem] theorem b15 : ir15.body = bd15 := rfl
/-- (spence/index.Index).Slices -/
def bd16 : C :=
  (.seq (.reg [⟨some 2, none, .box 39 (.s 0), .none⟩,
      ⟨some 4, none, .alloc 54 [.int .u64 0, .int .u64 0, .int .u64 0, .int .u64 0, .int .u64 0, .int .u64 0, .int .u64 0, .int .u64 0, .int .u64 0, .int .u64 0, .int .u64 0, .int .u64 0, .int .u64 0, .int .u64 0, .int .u64 0, .int .u64 0, .int .u64 0, .int .u64 0, .int .u64 0, .int .u64 0, .int .u64 0, .int .u64 0, .int .u64 0, .int .u64 0, .int .u64 0, .int .u64 0, .int .u64 0, .int .u64 0, .int .u64 0, .int .u64 0, .int .u64 0, .int .u64 0, .int .u64 0, .int .u64 0, .int .u64 0, .int .u64 0, .int .u64 0, .int .u64 0, .int .u64 0, .int .u64 0, .int .u64 0, .int .u64 0, .int .u64 0, .int .u64 0, .int .u64 0, .int .u64 0, .int .u64 0, .int .u64 0, .int .u64 0, .int .u64 0, .int .u64 0, .int .u64 0, .int .u64 0, .int .u64 0, .int .u64 0, .int .u64 0, .int .u64 0, .int .u64 0, .int .u64 0, .int .u64 0, .int .u64 0, .int .u64 0, .int .u64 0, .int .u64 0, .int .u64 0], .none⟩])
  (.seq (.reg [⟨some 5, none, .ld (.s 2) 192 true, .none⟩,
      ⟨some 6, none, .mv (.s 1), .none⟩,
      ⟨some 7, none, .call 40 [.s 5, .s 6] 2, .none⟩,
      ⟨some 8, none, .fld (.s 7) 8 1 false, .none⟩,
      ⟨some 9, none, .call 43 [.s 8] 0, .none⟩,
      ⟨some 10, none, .call 42 [.s 9] 0, .none⟩,
      ⟨some 11, none, .call 41 [.s 10] 2, .none⟩,
      ⟨none, none, .st (.s 4) (.s 11) 65, .none⟩])
  (.ret none)))
def ir16 : F := { n := 12, res := [.cell 4 65 true], body := bd16 }
@[go_sem] theorem n16 : ir16.n = 12 := rfl
@[go_sem] theorem r16 : ir16.res = [.cell 4 65 true] := rfl
@[go_sem] theorem b16 : ir16.body = bd16 := rfl
def lb17_0 : C :=
  (.seq (.reg [⟨some 9, none, .bin .lss (.s 8) (.c (.d (.int .i64 65))), .none⟩])
  (.seq (.cond (.s 9)
    .skip
    (.exit 0 (some [3])))
  (.seq (.block 1 (.seq (.reg [⟨some 10, none, .idx (.s 7) (.s 8) 65 1 false, .none⟩,
        ⟨some 5, none, .mv (.s 10), .none⟩])
    (.reg [⟨some 11, none, .mv (.s 3), .none⟩,
       ⟨some 12, none, .mv (.s 5), .none⟩,
       ⟨some 13, none, .call 44 [.s 12] 2, .none⟩,
       ⟨some 14, none, .bin .add (.s 11) (.s 13), .none⟩,
       ⟨some 3, none, .mv (.s 14), .none⟩])))
  (.reg [⟨some 15, none, .bin .add (.s 8) (.c (.d (.int .i64 1))), .none⟩,
     ⟨some 8, none, .mv (.s 15), .none⟩]))))
def lp17_0 : C := lb17_0
theorem u17_0 (c : Ev.Callee) (l : Ev.Looper) (s : St) : evC c l lp17_0 s = evC c l lb17_0 s := rfl
abbrev st17_0 (m : Nat) (s3 s7 s8 : AV) (h : Heap) : St := ⟨m, [.unk, .unk, .unk, s3, .unk, .unk, .unk, s7, s8, .unk, .unk, .unk, .unk, .unk, .unk, .unk, .unk], h⟩
@[go_sem] theorem ks17_0 (v0 v1 v2 v3 v4 v5 v6 v7 v8 v9 v10 v11 v12 v13 v14 v15 v16 : AV) : keepS [3, 7, 8] [v0, v1, v2, v3, v4, v5, v6, v7, v8, v9, v10, v11, v12, v13, v14, v15, v16] 0 = [.unk, .unk, .unk, v3, .unk, .unk, .unk, v7, v8, .unk, .unk, .unk, .unk, .unk, .unk, .unk, .unk] := rfl
@[go_sem] theorem ks17_1 (v0 v1 v2 v3 v4 v5 v6 v7 v8 v9 v10 v11 v12 v13 v14 v15 v16 : AV) : keepS [3] [v0, v1, v2, v3, v4, v5, v6, v7, v8, v9, v10, v11, v12, v13, v14, v15, v16] 0 = [.unk, .unk, .unk, v3, .unk, .unk, .unk, .unk, .unk, .unk, .unk, .unk, .unk, .unk, .unk, .unk, .unk] := rfl
/-- (spence/bitmap.Map).Len -/
def bd17 : C :=
  (.seq (.reg [⟨some 1, none, .box 54 (.s 0), .none⟩,
      ⟨some 2, none, .mv (.c (.d (.int .i64 0))), .none⟩])
  (.seq (.reg [⟨some 3, none, .mv (.c (.d (.int .i64 0))), .none⟩])
  (.seq (.seq (.reg [⟨some 6, none, .fa (.s 1) 0, .none⟩,
       ⟨some 7, none, .ld (.s 6) 65 true, .none⟩,
       ⟨some 8, none, .mv (.c (.d (.int .i64 0))), .none⟩])
   (.block 0 (.loop [3, 7, 8] lp17_0)))
  (.seq (.reg [⟨some 16, none, .mv (.s 3), .none⟩,
      ⟨some 2, none, .mv (.s 16), .none⟩])
  (.ret none)))))
def ir17 : F := { n := 17, res := [.tmp 2], body := bd17 }
@[go_sem] theorem n17 : ir17.n = 17 := rfl
@[go_sem] theorem r17 : ir17.res = [.tmp 2] := rfl
@[go_sem] theorem b17 : ir17.body = bd17 := rfl
def lb18_0 : C :=
  (.seq (.reg [⟨some 11, none, .bin .lss (.s 10) (.c (.d (.int .i64 16))), .none⟩])
  (.seq (.cond (.s 11)
    .skip
    (.exit 0 (some [])))
  (.seq (.block 1 (.seq (.reg [⟨some 12, none, .mv (.s 10), .none⟩,
        ⟨some 5, none, .mv (.s 12), .none⟩])
    (.seq (.seq (.drw [⟨some 13, none, .ld (.s 2) 192 true, .none⟩,
         ⟨some 14, none, .mv (.s 5), .none⟩,
         ⟨some 15, none, .call 15 [.s 13, .s 14] 2, .none⟩,
         ⟨some 16, none, .ld (.s 3) 192 true, .none⟩,
         ⟨some 17, none, .mv (.s 5), .none⟩,
         ⟨some 18, none, .call 15 [.s 16, .s 17] 2, .none⟩,
         ⟨some 19, none, .bin .gtr (.s 15) (.s 18), .none⟩]
        [[], [], [0, 1], [], [], [3, 4, 2], [2, 5]] [])
     (.cond (.s 19)
      (.seq (.reg [⟨some 4, none, .mv (.c (.d (.bool false))), .none⟩])
      (.ret (some [4])))
      .skip))
    (.seq (.reg [⟨some 21, none, .ld (.s 2) 192 true, .none⟩,
        ⟨some 22, none, .mv (.s 5), .none⟩,
        ⟨some 23, none, .call 14 [.s 21, .s 22] 2, .none⟩,
        ⟨some 20, none, .mv (.s 23), .none⟩,
        ⟨some 24, none, .ext (.s 20) 0, .none⟩,
        ⟨some 25, none, .ext (.s 20) 1, .none⟩,
        ⟨some 6, none, .alloc 33 [.int .i64 0, .int .i64 0, .str [], .int .i64 0, .int .i64 0], .none⟩,
        ⟨none, none, .st (.s 6) (.s 24) 5, .none⟩,
        ⟨some 7, none, .mv (.s 25), .none⟩])
    (.seq (.seq (.reg [⟨some 26, none, .mv (.s 7), .none⟩,
         ⟨some 27, none, .un .not (.s 26), .none⟩])
     (.cond (.s 27)
      (.exit 1 none)
      .skip))
    (.seq (.reg [⟨some 29, none, .ld (.s 3) 192 true, .none⟩,
        ⟨some 30, none, .mv (.s 5), .none⟩,
        ⟨some 31, none, .call 14 [.s 29, .s 30] 2, .none⟩,
        ⟨some 28, none, .mv (.s 31), .none⟩,
        ⟨some 32, none, .ext (.s 28) 0, .none⟩,
        ⟨some 33, none, .ext (.s 28) 1, .none⟩,
        ⟨some 8, none, .alloc 33 [.int .i64 0, .int .i64 0, .str [], .int .i64 0, .int .i64 0], .none⟩,
        ⟨none, none, .st (.s 8) (.s 32) 5, .none⟩,
        ⟨some 9, none, .mv (.s 33), .none⟩])
    (.seq (.seq (.reg [⟨some 34, none, .fa (.s 6) 4, .none⟩,
         ⟨some 35, none, .ld (.s 34) 1 false, .none⟩,
         ⟨some 36, none, .fa (.s 8) 4, .none⟩,
         ⟨some 37, none, .ld (.s 36) 1 false, .none⟩,
         ⟨some 38, none, .bin .gtr (.s 35) (.s 37), .none⟩])
     (.cond (.s 38)
      (.seq (.reg [⟨some 4, none, .mv (.c (.d (.bool false))), .none⟩])
      (.ret (some [4])))
      .skip))
    (.seq (.reg [⟨some 39, none, .fa (.s 8) 4, .none⟩,
        ⟨some 40, none, .ld (.s 39) 1 false, .none⟩,
        ⟨some 41, none, .fa (.s 6) 4, .none⟩,
        ⟨none, none, .st (.s 41) (.s 40) 1, .none⟩])
    (.seq (.drw [⟨some 42, none, .mv (.s 9), .none⟩,
        ⟨some 43, none, .un .not (.s 42), .none⟩,
        ⟨some 44, none, .mv (.s 43), .none⟩,
        ⟨some 45, some (44, false), .ld (.s 6) 5 true, .none⟩,
        ⟨some 46, some (44, false), .ld (.s 8) 5 true, .none⟩,
        ⟨some 47, some (44, false), .eqs true [1, 1, 2, 1, 1] (.s 45) (.s 46), .none⟩,
        ⟨some 48, none, .pick (.s 44) (.c (.d (.bool true))) (.s 47), .none⟩,
        ⟨some 49, none, .mv (.s 48), .none⟩,
        ⟨some 50, some (49, false), .ld (.s 2) 192 true, .none⟩,
        ⟨some 51, some (49, false), .mv (.s 5), .none⟩,
        ⟨some 52, some (49, false), .call 16 [.s 50, .s 51] 2, .none⟩,
        ⟨some 53, some (49, false), .ld (.s 3) 192 true, .none⟩,
        ⟨some 54, some (49, false), .mv (.s 5), .none⟩,
        ⟨some 55, some (49, false), .call 16 [.s 53, .s 54] 2, .none⟩,
        ⟨some 56, some (49, false), .call 45 [.s 52, .s 55] 2, .none⟩,
        ⟨some 57, some (49, false), .un .not (.s 56), .none⟩,
        ⟨some 58, none, .pick (.s 49) (.c (.d (.bool true))) (.s 57), .none⟩]
       [[], [0], [1], [2], [2], [3, 4, 2], [2, 5], [6, 2], [7], [7], [8, 9, 7, 7], [7], [7], [11, 12, 10, 7], [10, 13, 13, 7], [14, 7], [7, 15]] [])
    (.cond (.s 58)
     (.seq (.reg [⟨some 4, none, .mv (.c (.d (.bool false))), .none⟩])
     (.ret (some [4])))
     .skip))))))))))
  (.reg [⟨some 59, none, .bin .add (.s 10) (.c (.d (.int .i64 1))), .none⟩,
     ⟨some 10, none, .mv (.s 59), .none⟩]))))
def lp18_0 : C := lb18_0
theorem u18_0 (c : Ev.Callee) (l : Ev.Looper) (s : St) : evC c l lp18_0 s = evC c l lb18_0 s := rfl
abbrev st18_0 (m : Nat) (s2 s3 s10 : AV) (h : Heap) : St := ⟨m, [.unk, .unk, s2, s3, .unk, .unk, .unk, .unk, .unk, .unk, s10, .unk, .unk, .unk, .unk, .unk, .unk, .unk, .unk, .unk, .unk, .unk, .unk, .unk, .unk, .unk, .unk, .unk, .unk, .unk, .unk, .unk, .unk, .unk, .unk, .unk, .unk, .unk, .unk, .unk, .unk, .unk, .unk, .unk, .unk, .unk, .unk, .unk, .unk, .unk, .unk, .unk, .unk, .unk, .unk, .unk, .unk, .unk, .unk, .unk], h⟩
@[go_sem] theorem ks18_0 (v0 v1 v2 v3 v4 v5 v6 v7 v8 v9 v10 v11 v12 v13 v14 v15 v16 v17 v18 v19 v20 v21 v22 v23 v24 v25 v26 v27 v28 v29 v30 v31 v32 v33 v34 v35 v36 v37 v38 v39 v40 v41 v42 v43 v44 v45 v46 v47 v48 v49 v50 v51 v52 v53 v54 v55 v56 v57 v58 v59 : AV) : keepS [2, 3, 10] [v0, v1, v2, v3, v4, v5, v6, v7, v8, v9, v10, v11, v12, v13, v14, v15, v16, v17, v18, v19, v20, v21, v22, v23, v24, v25, v26, v27, v28, v29, v30, v31, v32, v33, v34, v35, v36, v37, v38, v39, v40, v41, v42, v43, v44, v45, v46, v47, v48, v49, v50, v51, v52, v53, v54, v55, v56, v57, v58, v59] 0 = [.unk, .unk, v2, v3, .unk, .unk, .unk, .unk, .unk, .unk, v10, .unk, .unk, .unk, .unk, .unk, .unk, .unk, .unk, .unk, .unk, .unk, .unk, .unk, .unk, .unk, .unk, .unk, .unk, .unk, .unk, .unk, .unk, .unk, .unk, .unk, .unk, .unk, .unk, .unk, .unk, .unk, .unk, .unk, .unk, .unk, .unk, .unk, .unk, .unk, .unk, .unk, .unk, .unk, .unk, .unk, .unk, .unk, .unk, .unk] := rfl
@[go_sem] theorem ks18_1 (v0 v1 v2 v3 v4 v5 v6 v7 v8 v9 v10 v11 v12 v13 v14 v15 v16 v17 v18 v19 v20 v21 v22 v23 v24 v25 v26 v27 v28 v29 v30 v31 v32 v33 v34 v35 v36 v37 v38 v39 v40 v41 v42 v43 v44 v45 v46 v47 v48 v49 v50 v51 v52 v53 v54 v55 v56 v57 v58 v59 : AV) : keepS [] [v0, v1, v2, v3, v4, v5, v6, v7, v8, v9, v10, v11, v12, v13, v14, v15, v16, v17, v18, v19, v20, v21, v22, v23, v24, v25, v26, v27, v28, v29, v30, v31, v32, v33, v34, v35, v36, v37, v38, v39, v40, v41, v42, v43, v44, v45, v46, v47, v48, v49, v50, v51, v52, v53, v54, v55, v56, v57, v58, v59] 0 = [.unk, .unk, .unk, .unk, .unk, .unk, .unk, .unk, .unk, .unk, .unk, .unk, .unk, .unk, .unk, .unk, .unk, .unk, .unk, .unk, .unk, .unk, .unk, .unk, .unk, .unk, .unk, .unk, .unk, .unk, .unk, .unk, .unk, .unk, .unk, .unk, .unk, .unk, .unk, .unk, .unk, .unk, .unk, .unk, .unk, .unk, .unk, .unk, .unk, .unk, .unk, .unk, .unk, .unk, .unk, .unk, .unk, .unk, .unk, .unk] := rfl
@[go_sem] theorem ks18_2 (v0 v1 v2 v3 v4 v5 v6 v7 v8 v9 v10 v11 v12 v13 v14 v15 v16 v17 v18 v19 v20 v21 v22 v23 v24 v25 v26 v27 v28 v29 v30 v31 v32 v33 v34 v35 v36 v37 v38 v39 v40 v41 v42 v43 v44 v45 v46 v47 v48 v49 v50 v51 v52 v53 v54 v55 v56 v57 v58 v59 : AV) : keepS [4] [v0, v1, v2, v3, v4, v5, v6, v7, v8, v9, v10, v11, v12, v13, v14, v15, v16, v17, v18, v19, v20, v21, v22, v23, v24, v25, v26, v27, v28, v29, v30, v31, v32, v33, v34, v35, v36, v37, v38, v39, v40, v41, v42, v43, v44, v45, v46, v47, v48, v49, v50, v51, v52, v53, v54, v55, v56, v57, v58, v59] 0 = [.unk, .unk, .unk, .unk, v4, .unk, .unk, .unk, .unk, .unk, .unk, .unk, .unk, .unk, .unk, .unk, .unk, .unk, .unk, .unk, .unk, .unk, .unk, .unk, .unk, .unk, .unk, .unk, .unk, .unk, .unk, .unk, .unk, .unk, .unk, .unk, .unk, .unk, .unk, .unk, .unk, .unk, .unk, .unk, .unk, .unk, .unk, .unk, .unk, .unk, .unk, .unk, .unk, .unk, .unk, .unk, .unk, .unk, .unk, .unk] := rfl
/-- spence/replay.Within -/
def bd18 : C :=
  (.seq (.reg [⟨some 2, none, .box 39 (.s 0), .none⟩,
      ⟨some 3, none, .box 39 (.s 1), .none⟩,
      ⟨some 4, none, .mv (.c (.d (.bool false))), .none⟩])
  (.seq (.seq (.reg [⟨some 10, none, .mv (.c (.d (.int .i64 0))), .none⟩])
   (.block 0 (.loop [2, 3, 10] lp18_0)))
  (.seq (.reg [⟨some 4, none, .mv (.c (.d (.bool true))), .none⟩])
  (.ret none))))
def ir18 : F := { n := 60, res := [.tmp 4], body := bd18 }
@[go_sem] theorem n18 : ir18.n = 60 := rfl
@[go_sem] theorem r18 : ir18.res = [.tmp 4] := rfl
@[go_sem] theorem b18 : ir18.body = bd18 := rfl
/-- spence/spenceref17.Bind -/
def bd19 : C :=
  (.seq (.reg [⟨some 1, none, .box 33 (.s 0), .none⟩,
      ⟨some 2, none, .mv (.c (.d .nils)), .one 1 true⟩])
  (.seq (.drr [⟨some 4, none, .fa (.s 1) 0, .none⟩,
      ⟨some 5, none, .ld (.s 4) 1 false, .none⟩,
      ⟨some 6, none, .fa (.s 1) 1, .none⟩,
      ⟨some 7, none, .ld (.s 6) 1 false, .none⟩,
      ⟨some 8, none, .call 46 [.s 5, .s 7] 0, .none⟩,
      ⟨some 9, none, .fa (.s 1) 3, .none⟩,
      ⟨some 10, none, .ld (.s 9) 1 false, .none⟩,
      ⟨some 11, none, .cvi .u64 (.s 10), .none⟩,
      ⟨some 12, none, .call 47 [.s 11, .c (.d (.int .i64 2))] 2, .none⟩,
      ⟨some 13, none, .app 5 1 1 (.s 8) (.s 12), .none⟩,
      ⟨some 3, none, .mv (.s 13), .none⟩]
     [[], [0], [], [2], [1, 3], [], [5], [6], [7, 4], [4, 8, 8], [9, 9, 0, 1, 2, 3, 4, 5, 6, 7, 8, 9]] [] [9] [5, 7])
  (.seq (.reg [⟨some 14, none, .mv (.s 3), .none⟩,
      ⟨some 15, none, .fa (.s 1) 4, .none⟩,
      ⟨some 16, none, .ld (.s 15) 1 false, .none⟩,
      ⟨some 17, none, .cvi .u64 (.s 16), .none⟩,
      ⟨some 18, none, .call 47 [.s 17, .c (.d (.int .i64 8))] 2, .none⟩,
      ⟨some 19, none, .app 5 1 1 (.s 14) (.s 18), .none⟩,
      ⟨some 3, none, .mv (.s 19), .none⟩])
  (.seq (.reg [⟨some 20, none, .mv (.s 3), .none⟩,
      ⟨some 21, none, .fa (.s 1) 2, .none⟩,
      ⟨some 22, none, .ld (.s 21) 1 false, .none⟩,
      ⟨some 23, none, .app 5 1 1 (.s 20) (.s 22), .none⟩,
      ⟨some 2, none, .mv (.s 23), .none⟩])
  (.ret none)))))
def ir19 : F := { n := 24, res := [.tmp 2], body := bd19 }
@[go_sem] theorem n19 : ir19.n = 24 := rfl
@[go_sem] theorem r19 : ir19.res = [.tmp 2] := rfl
@[go_sem] theorem b19 : ir19.body = bd19 := rfl
/-- spence/spenceref17.Drop -/
def bd20 : C :=
  (.seq (.reg [⟨some 1, none, .box 70 (.s 0), .none⟩,
      ⟨some 2, none, .mv (.c (.d .nils)), .one 1 false⟩])
  (.seq (.reg [⟨some 3, none, .fa (.s 1) 0, .none⟩,
      ⟨some 4, none, .ld (.s 3) 1 false, .none⟩,
      ⟨some 5, none, .fa (.s 1) 1, .none⟩,
      ⟨some 6, none, .ld (.s 5) 1 false, .none⟩,
      ⟨some 7, none, .call 46 [.s 4, .s 6] 2, .none⟩,
      ⟨some 2, none, .mv (.s 7), .none⟩])
  (.ret none)))
def ir20 : F := { n := 8, res := [.tmp 2], body := bd20 }
@[go_sem] theorem n20 : ir20.n = 8 := rfl
@[go_sem] theorem r20 : ir20.res = [.tmp 2] := rfl
@[go_sem] theorem b20 : ir20.body = bd20 := rfl
/-- spence/index.New -/
def bd22 : C :=
  (.seq (.reg [⟨some 0, none, .alloc 39 [.bool false, .int .i64 0, .int .i64 0, .str [], .int .i64 0, .int .i64 0, .int .i64 0, .int .i64 0, .nilm, .int .i64 0, .int .i64 0, .int .i64 0, .bool false, .int .i64 0, .int .i64 0, .str [], .int .i64 0, .int .i64 0, .int .i64 0, .int .i64 0, .nilm, .int .i64 0, .int .i64 0, .int .i64 0, .bool false, .int .i64 0, .int .i64 0, .str [], .int .i64 0, .int .i64 0, .int .i64 0, .int .i64 0, .nilm, .int .i64 0, .int .i64 0, .int .i64 0, .bool false, .int .i64 0, .int .i64 0, .str [], .int .i64 0, .int .i64 0, .int .i64 0, .int .i64 0, .nilm, .int .i64 0, .int .i64 0, .int .i64 0, .bool false, .int .i64 0, .int .i64 0, .str [], .int .i64 0, .int .i64 0, .int .i64 0, .int .i64 0, .nilm, .int .i64 0, .int .i64 0, .int .i64 0, .bool false, .int .i64 0, .int .i64 0, .str [], .int .i64 0, .int .i64 0, .int .i64 0, .int .i64 0, .nilm, .int .i64 0, .int .i64 0, .int .i64 0, .bool false, .int .i64 0, .int .i64 0, .str [], .int .i64 0, .int .i64 0, .int .i64 0, .int .i64 0, .nilm, .int .i64 0, .int .i64 0, .int .i64 0, .bool false, .int .i64 0, .int .i64 0, .str [], .int .i64 0, .int .i64 0, .int .i64 0, .int .i64 0, .nilm, .int .i64 0, .int .i64 0, .int .i64 0, .bool false, .int .i64 0, .int .i64 0, .str [], .int .i64 0, .int .i64 0, .int .i64 0, .int .i64 0, .nilm, .int .i64 0, .int .i64 0, .int .i64 0, .bool false, .int .i64 0, .int .i64 0, .str [], .int .i64 0, .int .i64 0, .int .i64 0, .int .i64 0, .nilm, .int .i64 0, .int .i64 0, .int .i64 0, .bool false, .int .i64 0, .int .i64 0, .str [], .int .i64 0, .int .i64 0, .int .i64 0, .int .i64 0, .nilm, .int .i64 0, .int .i64 0, .int .i64 0, .bool false, .int .i64 0, .int .i64 0, .str [], .int .i64 0, .int .i64 0, .int .i64 0, .int .i64 0, .nilm, .int .i64 0, .int .i64 0, .int .i64 0, .bool false, .int .i64 0, .int .i64 0, .str [], .int .i64 0, .int .i64 0, .int .i64 0, .int .i64 0, .nilm, .int .i64 0, .int .i64 0, .int .i64 0, .bool false, .int .i64 0, .int .i64 0, .str [], .int .i64 0, .int .i64 0, .int .i64 0, .int .i64 0, .nilm, .int .i64 0, .int .i64 0, .int .i64 0, .bool false, .int .i64 0, .int .i64 0, .str [], .int .i64 0, .int .i64 0, .int .i64 0, .int .i64 0, .nilm, .int .i64 0, .int .i64 0, .int .i64 0, .bool false, .int .i64 0, .int .i64 0, .str [], .int .i64 0, .int .i64 0, .int .i64 0, .int .i64 0, .nilm, .int .i64 0, .int .i64 0, .int .i64 0], .none⟩])
  (.seq (.reg [⟨some 1, none, .build [.bool false, .int .i64 0, .int .i64 0, .str [], .int .i64 0, .int .i64 0, .int .i64 0, .int .i64 0, .nilm, .int .i64 0, .int .i64 0, .int .i64 0, .bool false, .int .i64 0, .int .i64 0, .str [], .int .i64 0, .int .i64 0, .int .i64 0, .int .i64 0, .nilm, .int .i64 0, .int .i64 0, .int .i64 0, .bool false, .int .i64 0, .int .i64 0, .str [], .int .i64 0, .int .i64 0, .int .i64 0, .int .i64 0, .nilm, .int .i64 0, .int .i64 0, .int .i64 0, .bool false, .int .i64 0, .int .i64 0, .str [], .int .i64 0, .int .i64 0, .int .i64 0, .int .i64 0, .nilm, .int .i64 0, .int .i64 0, .int .i64 0, .bool false, .int .i64 0, .int .i64 0, .str [], .int .i64 0, .int .i64 0, .int .i64 0, .int .i64 0, .nilm, .int .i64 0, .int .i64 0, .int .i64 0, .bool false, .int .i64 0, .int .i64 0, .str [], .int .i64 0, .int .i64 0, .int .i64 0, .int .i64 0, .nilm, .int .i64 0, .int .i64 0, .int .i64 0, .bool false, .int .i64 0, .int .i64 0, .str [], .int .i64 0, .int .i64 0, .int .i64 0, .int .i64 0, .nilm, .int .i64 0, .int .i64 0, .int .i64 0, .bool false, .int .i64 0, .int .i64 0, .str [], .int .i64 0, .int .i64 0, .int .i64 0, .int .i64 0, .nilm, .int .i64 0, .int .i64 0, .int .i64 0, .bool false, .int .i64 0, .int .i64 0, .str [], .int .i64 0, .int .i64 0, .int .i64 0, .int .i64 0, .nilm, .int .i64 0, .int .i64 0, .int .i64 0, .bool false, .int .i64 0, .int .i64 0, .str [], .int .i64 0, .int .i64 0, .int .i64 0, .int .i64 0, .nilm, .int .i64 0, .int .i64 0, .int .i64 0, .bool false, .int .i64 0, .int .i64 0, .str [], .int .i64 0, .int .i64 0, .int .i64 0, .int .i64 0, .nilm, .int .i64 0, .int .i64 0, .int .i64 0, .bool false, .int .i64 0, .int .i64 0, .str [], .int .i64 0, .int .i64 0, .int .i64 0, .int .i64 0, .nilm, .int .i64 0, .int .i64 0, .int .i64 0, .bool false, .int .i64 0, .int .i64 0, .str [], .int .i64 0, .int .i64 0, .int .i64 0, .int .i64 0, .nilm, .int .i64 0, .int .i64 0, .int .i64 0, .bool false, .int .i64 0, .int .i64 0, .str [], .int .i64 0, .int .i64 0, .int .i64 0, .int .i64 0, .nilm, .int .i64 0, .int .i64 0, .int .i64 0, .bool false, .int .i64 0, .int .i64 0, .str [], .int .i64 0, .int .i64 0, .int .i64 0, .int .i64 0, .nilm, .int .i64 0, .int .i64 0, .int .i64 0, .bool false, .int .i64 0, .int .i64 0, .str [], .int .i64 0, .int .i64 0, .int .i64 0, .int .i64 0, .nilm, .int .i64 0, .int .i64 0, .int .i64 0] [], .none⟩,
      ⟨none, none, .st (.s 0) (.s 1) 192, .none⟩])
  (.ret none)))
def ir22 : F := { n := 2, res := [.cell 0 192 true], body := bd22 }
@[go_sem] theorem n22 : ir22.n = 2 := rfl
@[go_sem] theorem r22 : ir22.res = [.cell 0 192 true] := rfl
@[go_sem] theorem b22 : ir22.body = bd22 := rfl
/-- spence/replay.One -/
def bd23 : C :=
  (.seq (.reg [⟨some 2, none, .box 39 (.s 0), .none⟩,
      ⟨some 3, none, .box 30 (.s 1), .none⟩,
      ⟨some 4, none, .alloc 39 [.bool false, .int .i64 0, .int .i64 0, .str [], .int .i64 0, .int .i64 0, .int .i64 0, .int .i64 0, .nilm, .int .i64 0, .int .i64 0, .int .i64 0, .bool false, .int .i64 0, .int .i64 0, .str [], .int .i64 0, .int .i64 0, .int .i64 0, .int .i64 0, .nilm, .int .i64 0, .int .i64 0, .int .i64 0, .bool false, .int .i64 0, .int .i64 0, .str [], .int .i64 0, .int .i64 0, .int .i64 0, .int .i64 0, .nilm, .int .i64 0, .int .i64 0, .int .i64 0, .bool false, .int .i64 0, .int .i64 0, .str [], .int .i64 0, .int .i64 0, .int .i64 0, .int .i64 0, .nilm, .int .i64 0, .int .i64 0, .int .i64 0, .bool false, .int .i64 0, .int .i64 0, .str [], .int .i64 0, .int .i64 0, .int .i64 0, .int .i64 0, .nilm, .int .i64 0, .int .i64 0, .int .i64 0, .bool false, .int .i64 0, .int .i64 0, .str [], .int .i64 0, .int .i64 0, .int .i64 0, .int .i64 0, .nilm, .int .i64 0, .int .i64 0, .int .i64 0, .bool false, .int .i64 0, .int .i64 0, .str [], .int .i64 0, .int .i64 0, .int .i64 0, .int .i64 0, .nilm, .int .i64 0, .int .i64 0, .int .i64 0, .bool false, .int .i64 0, .int .i64 0, .str [], .int .i64 0, .int .i64 0, .int .i64 0, .int .i64 0, .nilm, .int .i64 0, .int .i64 0, .int .i64 0, .bool false, .int .i64 0, .int .i64 0, .str [], .int .i64 0, .int .i64 0, .int .i64 0, .int .i64 0, .nilm, .int .i64 0, .int .i64 0, .int .i64 0, .bool false, .int .i64 0, .int .i64 0, .str [], .int .i64 0, .int .i64 0, .int .i64 0, .int .i64 0, .nilm, .int .i64 0, .int .i64 0, .int .i64 0, .bool false, .int .i64 0, .int .i64 0, .str [], .int .i64 0, .int .i64 0, .int .i64 0, .int .i64 0, .nilm, .int .i64 0, .int .i64 0, .int .i64 0, .bool false, .int .i64 0, .int .i64 0, .str [], .int .i64 0, .int .i64 0, .int .i64 0, .int .i64 0, .nilm, .int .i64 0, .int .i64 0, .int .i64 0, .bool false, .int .i64 0, .int .i64 0, .str [], .int .i64 0, .int .i64 0, .int .i64 0, .int .i64 0, .nilm, .int .i64 0, .int .i64 0, .int .i64 0, .bool false, .int .i64 0, .int .i64 0, .str [], .int .i64 0, .int .i64 0, .int .i64 0, .int .i64 0, .nilm, .int .i64 0, .int .i64 0, .int .i64 0, .bool false, .int .i64 0, .int .i64 0, .str [], .int .i64 0, .int .i64 0, .int .i64 0, .int .i64 0, .nilm, .int .i64 0, .int .i64 0, .int .i64 0, .bool false, .int .i64 0, .int .i64 0, .str [], .int .i64 0, .int .i64 0, .int .i64 0, .int .i64 0, .nilm, .int .i64 0, .int .i64 0, .int .i64 0], .none⟩])
  (.seq (.seq (.reg [⟨some 11, none, .fa (.s 3) 4, .none⟩,
       ⟨some 12, none, .ld (.s 11) 1 false, .none⟩])
   (.block 0 (.seq (.block 4 (.block 3 (.seq (.block 2 (.seq (.block 1 (.seq (.seq (.seq (.reg [⟨some 14, none, .bin .eql (.s 12) (.c (.d (.int .u8 2))), .none⟩,
                 ⟨some 13, none, .mv (.s 14), .none⟩])
             (.cond (.s 13)
              (.exit 1 none)
              .skip))
            (.seq (.seq (.reg [⟨some 16, none, .bin .eql (.s 12) (.c (.d (.int .u8 3))), .none⟩,
                 ⟨some 15, none, .mv (.s 16), .none⟩])
             (.cond (.s 15)
              (.exit 2 none)
              .skip))
            (.seq (.seq (.reg [⟨some 18, none, .bin .eql (.s 12) (.c (.d (.int .u8 4))), .none⟩,
                 ⟨some 17, none, .mv (.s 18), .none⟩])
             (.cond (.s 17)
              (.exit 3 none)
              .skip))
            (.seq (.reg [⟨some 20, none, .bin .eql (.s 12) (.c (.d (.int .u8 5))), .none⟩,
                ⟨some 19, none, .mv (.s 20), .none⟩])
            (.cond (.s 19)
             (.exit 4 none)
             .skip)))))
           (.exit 0 none)))
         (.seq (.seq (.reg [⟨some 22, none, .fa (.s 3) 5, .none⟩,
              ⟨some 23, none, .ld (.s 22) 1 false, .none⟩,
              ⟨some 24, none, .call 25 [.s 23] 2, .none⟩,
              ⟨some 21, none, .mv (.s 24), .none⟩,
              ⟨some 25, none, .ext (.s 21) 0, .none⟩,
              ⟨some 26, none, .ext (.s 21) 1, .none⟩,
              ⟨some 5, none, .alloc 33 [.int .i64 0, .int .i64 0, .str [], .int .i64 0, .int .i64 0], .none⟩,
              ⟨none, none, .st (.s 5) (.s 25) 5, .none⟩,
              ⟨some 6, none, .mv (.s 26), .none⟩])
          (.seq (.reg [⟨some 27, none, .mv (.s 6), .none⟩,
              ⟨some 28, none, .bin .eql (.s 27) (.c (.d (.int .i64 0))), .none⟩])
          (.cond (.s 28)
           (.seq (.reg [⟨some 29, none, .ld (.s 2) 192 true, .none⟩,
               ⟨some 30, none, .ld (.s 5) 5 true, .none⟩,
               ⟨some 31, none, .fa (.s 3) 0, .none⟩,
               ⟨some 32, none, .ld (.s 31) 2 true, .none⟩,
               ⟨some 33, none, .call 38 [.s 29, .s 30, .s 32] 2, .none⟩,
               ⟨none, none, .st (.s 4) (.s 33) 192, .none⟩])
           (.ret none))
           .skip)))
         (.exit 0 none))))
       (.seq (.seq (.reg [⟨some 35, none, .fa (.s 3) 5, .none⟩,
            ⟨some 36, none, .ld (.s 35) 1 false, .none⟩,
            ⟨some 37, none, .call 28 [.s 36] 2, .none⟩,
            ⟨some 34, none, .mv (.s 37), .none⟩,
            ⟨some 38, none, .ext (.s 34) 0, .none⟩,
            ⟨some 39, none, .ext (.s 34) 1, .none⟩,
            ⟨some 7, none, .alloc 84 [.int .i64 0, .int .i64 0, .int .i64 0, .nils], .cells [(3, 1, false)]⟩,
            ⟨none, none, .st (.s 7) (.s 38) 4, .none⟩,
            ⟨some 8, none, .mv (.s 39), .none⟩])
        (.seq (.reg [⟨some 40, none, .mv (.s 8), .none⟩,
            ⟨some 41, none, .bin .eql (.s 40) (.c (.d (.int .i64 0))), .none⟩])
        (.cond (.s 41)
         (.seq (.reg [⟨some 42, none, .ld (.s 2) 192 true, .none⟩,
             ⟨some 43, none, .fa (.s 7) 0, .none⟩,
             ⟨some 44, none, .ld (.s 43) 1 false, .none⟩,
             ⟨some 45, none, .fa (.s 7) 1, .none⟩,
             ⟨some 46, none, .ld (.s 45) 1 false, .none⟩,
             ⟨some 47, none, .fa (.s 7) 2, .none⟩,
             ⟨some 48, none, .ld (.s 47) 1 false, .none⟩,
             ⟨some 49, none, .fa (.s 3) 0, .none⟩,
             ⟨some 50, none, .ld (.s 49) 2 true, .none⟩,
             ⟨some 51, none, .call 34 [.s 42, .s 44, .s 46, .s 48, .s 50] 2, .none⟩,
             ⟨none, none, .st (.s 4) (.s 51) 192, .none⟩])
         (.ret none))
         .skip)))
       (.exit 0 none)))))
    (.seq (.seq (.reg [⟨some 53, none, .fa (.s 3) 4, .none⟩,
         ⟨some 54, none, .ld (.s 53) 1 false, .none⟩,
         ⟨some 55, none, .fa (.s 3) 5, .none⟩,
         ⟨some 56, none, .ld (.s 55) 1 false, .none⟩,
         ⟨some 57, none, .call 30 [.s 54, .s 56] 2, .none⟩,
         ⟨some 52, none, .mv (.s 57), .none⟩,
         ⟨some 58, none, .ext (.s 52) 0, .none⟩,
         ⟨some 59, none, .ext (.s 52) 1, .none⟩,
         ⟨some 9, none, .alloc 70 [.int .i64 0, .int .i64 0, .bool false], .none⟩,
         ⟨none, none, .st (.s 9) (.s 58) 3, .none⟩,
         ⟨some 10, none, .mv (.s 59), .none⟩])
     (.seq (.reg [⟨some 60, none, .mv (.s 10), .none⟩,
         ⟨some 61, none, .bin .eql (.s 60) (.c (.d (.int .i64 0))), .none⟩])
     (.cond (.s 61)
      (.seq (.reg [⟨some 62, none, .ld (.s 2) 192 true, .none⟩,
          ⟨some 63, none, .fa (.s 9) 0, .none⟩,
          ⟨some 64, none, .ld (.s 63) 1 false, .none⟩,
          ⟨some 65, none, .fa (.s 9) 1, .none⟩,
          ⟨some 66, none, .ld (.s 65) 1 false, .none⟩,
          ⟨some 67, none, .fa (.s 3) 0, .none⟩,
          ⟨some 68, none, .ld (.s 67) 2 true, .none⟩,
          ⟨some 69, none, .call 36 [.s 62, .s 64, .s 66, .s 68] 2, .none⟩,
          ⟨none, none, .st (.s 4) (.s 69) 192, .none⟩])
      (.ret none))
      .skip)))
    (.exit 0 none)))))
  (.seq (.reg [⟨some 70, none, .ld (.s 2) 192 true, .none⟩,
      ⟨none, none, .st (.s 4) (.s 70) 192, .none⟩])
  (.ret none))))
def ir23 : F := { n := 71, res := [.cell 4 192 true], body := bd23 }
@[go_sem] theorem n23 : ir23.n = 71 := rfl
@[go_sem] theorem r23 : ir23.res = [.cell 4 192 true] := rfl
@[go_sem] theorem b23 : ir23.body = bd23 := rfl
/-- spence/codec.Object -/
def bd24 : C :=
  (.seq (.reg [⟨some 4, none, .mv (.c (.d (.int .i64 0))), .none⟩,
      ⟨some 5, none, .mv (.c (.d (.bool false))), .none⟩])
  (.seq (.seq (.reg [⟨some 12, none, .mv (.s 0), .none⟩])
   (.block 0 (.seq (.block 4 (.block 3 (.seq (.block 2 (.seq (.block 1 (.seq (.seq (.seq (.reg [⟨some 14, none, .bin .eql (.s 12) (.c (.d (.int .u8 2))), .none⟩,
                 ⟨some 13, none, .mv (.s 14), .none⟩])
             (.cond (.s 13)
              (.exit 1 none)
              .skip))
            (.seq (.seq (.reg [⟨some 16, none, .bin .eql (.s 12) (.c (.d (.int .u8 3))), .none⟩,
                 ⟨some 15, none, .mv (.s 16), .none⟩])
             (.cond (.s 15)
              (.exit 2 none)
              .skip))
            (.seq (.seq (.reg [⟨some 18, none, .bin .eql (.s 12) (.c (.d (.int .u8 4))), .none⟩,
                 ⟨some 17, none, .mv (.s 18), .none⟩])
             (.cond (.s 17)
              (.exit 3 none)
              .skip))
            (.seq (.reg [⟨some 20, none, .bin .eql (.s 12) (.c (.d (.int .u8 5))), .none⟩,
                ⟨some 19, none, .mv (.s 20), .none⟩])
            (.cond (.s 19)
             (.exit 4 none)
             .skip)))))
           (.exit 0 none)))
         (.seq (.seq (.reg [⟨some 22, none, .mv (.s 1), .none⟩,
              ⟨some 23, none, .call 25 [.s 22] 2, .none⟩,
              ⟨some 21, none, .mv (.s 23), .none⟩,
              ⟨some 24, none, .ext (.s 21) 0, .none⟩,
              ⟨some 25, none, .ext (.s 21) 1, .none⟩,
              ⟨some 6, none, .alloc 33 [.int .i64 0, .int .i64 0, .str [], .int .i64 0, .int .i64 0], .none⟩,
              ⟨none, none, .st (.s 6) (.s 24) 5, .none⟩,
              ⟨some 7, none, .mv (.s 25), .none⟩])
          (.seq (.reg [⟨some 26, none, .fa (.s 6) 0, .none⟩,
              ⟨some 27, none, .ld (.s 26) 1 false, .none⟩,
              ⟨some 28, none, .mv (.s 7), .none⟩,
              ⟨some 29, none, .bin .eql (.s 28) (.c (.d (.int .i64 0))), .none⟩,
              ⟨some 4, none, .mv (.s 27), .none⟩,
              ⟨some 5, none, .mv (.s 29), .none⟩])
          (.ret none)))
         (.exit 0 none))))
       (.seq (.seq (.reg [⟨some 31, none, .mv (.s 1), .none⟩,
            ⟨some 32, none, .call 28 [.s 31] 2, .none⟩,
            ⟨some 30, none, .mv (.s 32), .none⟩,
            ⟨some 33, none, .ext (.s 30) 0, .none⟩,
            ⟨some 34, none, .ext (.s 30) 1, .none⟩,
            ⟨some 8, none, .alloc 84 [.int .i64 0, .int .i64 0, .int .i64 0, .nils], .cells [(3, 1, false)]⟩,
            ⟨none, none, .st (.s 8) (.s 33) 4, .none⟩,
            ⟨some 9, none, .mv (.s 34), .none⟩])
        (.seq (.reg [⟨some 35, none, .fa (.s 8) 0, .none⟩,
            ⟨some 36, none, .ld (.s 35) 1 false, .none⟩,
            ⟨some 37, none, .mv (.s 9), .none⟩,
            ⟨some 38, none, .bin .eql (.s 37) (.c (.d (.int .i64 0))), .none⟩,
            ⟨some 4, none, .mv (.s 36), .none⟩,
            ⟨some 5, none, .mv (.s 38), .none⟩])
        (.ret none)))
       (.exit 0 none)))))
    (.seq (.seq (.reg [⟨some 40, none, .mv (.s 0), .none⟩,
         ⟨some 41, none, .mv (.s 1), .none⟩,
         ⟨some 42, none, .call 30 [.s 40, .s 41] 2, .none⟩,
         ⟨some 39, none, .mv (.s 42), .none⟩,
         ⟨some 43, none, .ext (.s 39) 0, .none⟩,
         ⟨some 44, none, .ext (.s 39) 1, .none⟩,
         ⟨some 10, none, .alloc 70 [.int .i64 0, .int .i64 0, .bool false], .none⟩,
         ⟨none, none, .st (.s 10) (.s 43) 3, .none⟩,
         ⟨some 11, none, .mv (.s 44), .none⟩])
     (.seq (.reg [⟨some 45, none, .fa (.s 10) 0, .none⟩,
         ⟨some 46, none, .ld (.s 45) 1 false, .none⟩,
         ⟨some 47, none, .mv (.s 11), .none⟩,
         ⟨some 48, none, .bin .eql (.s 47) (.c (.d (.int .i64 0))), .none⟩,
         ⟨some 4, none, .mv (.s 46), .none⟩,
         ⟨some 5, none, .mv (.s 48), .none⟩])
     (.ret none)))
    (.exit 0 none)))))
  (.seq (.reg [⟨some 4, none, .mv (.c (.d (.int .i64 0))), .none⟩,
      ⟨some 5, none, .mv (.c (.d (.bool false))), .none⟩])
  (.ret none))))
def ir24 : F := { n := 49, res := [.tmp 4, .tmp 5], body := bd24 }
@[go_sem] theorem n24 : ir24.n = 49 := rfl
@[go_sem] theorem r24 : ir24.res = [.tmp 4, .tmp 5] := rfl
@[go_sem] theorem b24 : ir24.body = bd24 := rfl
/-- spence/codec.GetBind -/
def bd25 : C :=
  (.seq (.reg [⟨some 2, none, .alloc 33 [.int .i64 0, .int .i64 0, .str [], .int .i64 0, .int .i64 0], .none⟩,
      ⟨some 3, none, .mv (.c (.d (.int .i64 0))), .none⟩])
  (.seq (.reg [⟨some 6, none, .mv (.s 0), .none⟩,
      ⟨some 7, none, .build [.nils, .bool false] [(0, (1, .s 6)), (1, (1, .c (.d (.bool true))))], .cells [(0, 1, false)]⟩,
      ⟨some 8, none, .box 111 (.s 7), .none⟩,
      ⟨some 4, none, .mv (.s 8), .none⟩])
  (.seq (.reg [⟨some 9, none, .mv (.s 4), .none⟩,
      ⟨some 10, none, .call 48 [.s 9, .c (.d (.int .i64 1))] 0, .none⟩,
      ⟨some 11, none, .mv (.s 4), .none⟩,
      ⟨some 12, none, .call 48 [.s 11, .c (.d (.int .i64 4))] 0, .none⟩,
      ⟨some 13, none, .mv (.s 4), .none⟩,
      ⟨some 14, none, .call 48 [.s 13, .c (.d (.int .i64 2))] 0, .none⟩,
      ⟨some 15, none, .mv (.s 4), .none⟩,
      ⟨some 16, none, .call 48 [.s 15, .c (.d (.int .i64 8))] 0, .none⟩,
      ⟨some 17, none, .build [.int .i64 0, .int .i64 0, .str [], .int .i64 0, .int .i64 0] [(0, (1, .s 10)), (1, (1, .s 12)), (3, (1, .s 14)), (4, (1, .s 16))], .none⟩,
      ⟨some 5, none, .alloc 33 [.int .i64 0, .int .i64 0, .str [], .int .i64 0, .int .i64 0], .none⟩,
      ⟨none, none, .st (.s 5) (.s 17) 5, .none⟩])
  (.seq (.reg [⟨some 18, none, .mv (.s 4), .none⟩,
      ⟨some 19, none, .nc (.s 18), .none⟩,
      ⟨some 20, none, .fa (.s 19) 0, .none⟩,
      ⟨some 21, none, .ld (.s 20) 1 false, .none⟩,
      ⟨some 22, none, .b2s (.s 21), .none⟩,
      ⟨some 23, none, .fa (.s 5) 2, .none⟩,
      ⟨none, none, .st (.s 23) (.s 22) 1, .none⟩])
  (.seq (.seq (.reg [⟨some 24, none, .mv (.s 4), .none⟩,
       ⟨some 25, none, .nc (.s 24), .none⟩,
       ⟨some 26, none, .fa (.s 25) 1, .none⟩,
       ⟨some 27, none, .ld (.s 26) 1 false, .none⟩,
       ⟨some 28, none, .un .not (.s 27), .none⟩,
       ⟨some 29, none, .mv (.s 28), .none⟩,
       ⟨some 30, some (29, false), .ld (.s 5) 5 true, .none⟩,
       ⟨some 31, some (29, false), .call 49 [.s 30] 2, .none⟩,
       ⟨some 32, some (29, false), .un .not (.s 31), .none⟩,
       ⟨some 33, none, .pick (.s 29) (.c (.d (.bool true))) (.s 32), .none⟩])
   (.cond (.s 33)
    (.seq (.reg [⟨some 34, none, .build [.int .i64 0, .int .i64 0, .str [], .int .i64 0, .int .i64 0] [], .none⟩,
        ⟨none, none, .st (.s 2) (.s 34) 5, .none⟩,
        ⟨some 3, none, .mv (.c (.d (.int .i64 3))), .none⟩])
    (.ret none))
    .skip))
  (.seq (.reg [⟨some 35, none, .ld (.s 5) 5 true, .none⟩,
      ⟨none, none, .st (.s 2) (.s 35) 5, .none⟩,
      ⟨some 3, none, .mv (.c (.d (.int .i64 0))), .none⟩])
  (.ret none)))))))
def ir25 : F := { n := 36, res := [.cell 2 5 true, .tmp 3], body := bd25 }
@[go_sem] theorem n25 : ir25.n = 36 := rfl
@[go_sem] theorem r25 : ir25.res = [.cell 2 5 true, .tmp 3] := rfl
@[go_sem] theorem b25 : ir25.body = bd25 := rfl
/-- (spence/index.Index).Where -/
def bd26 : C :=
  (.seq (.reg [⟨some 2, none, .box 39 (.s 0), .none⟩,
      ⟨some 4, none, .alloc 26 [.int .i64 0, .int .i64 0], .none⟩,
      ⟨some 5, none, .mv (.c (.d (.bool false))), .none⟩])
  (.seq (.reg [⟨some 7, none, .ld (.s 2) 192 true, .none⟩,
      ⟨some 8, none, .mv (.s 1), .none⟩,
      ⟨some 9, none, .call 40 [.s 7, .s 8] 2, .none⟩,
      ⟨some 6, none, .alloc 36 [.bool false, .int .i64 0, .int .i64 0, .str [], .int .i64 0, .int .i64 0, .int .i64 0, .int .i64 0, .nilm, .int .i64 0, .int .i64 0, .int .i64 0], .none⟩,
      ⟨none, none, .st (.s 6) (.s 9) 12, .none⟩])
  (.seq (.drw [⟨some 10, none, .fa (.s 6) 6, .none⟩,
      ⟨some 11, none, .ld (.s 10) 2 true, .none⟩,
      ⟨some 12, none, .fa (.s 6) 0, .none⟩,
      ⟨some 13, none, .ld (.s 12) 1 false, .none⟩,
      ⟨none, none, .st (.s 4) (.s 11) 2, .none⟩,
      ⟨some 5, none, .mv (.s 13), .none⟩]
     [[], [0], [], [2], [1, 0, 1], [3, 4, 0, 1, 2, 3, 4]] [(12, 4)])
  (.ret none))))
def ir26 : F := { n := 14, res := [.cell 4 2 true, .tmp 5], body := bd26 }
@[go_sem] theorem n26 : ir26.n = 14 := rfl
@[go_sem] theorem r26 : ir26.res = [.cell 4 2 true, .tmp 5] := rfl
@[go_sem] theorem b26 : ir26.body = bd26 := rfl
/-- spence/replay.here -/
def bd27 : C :=
  (.seq (.reg [⟨some 3, none, .box 26 (.s 0), .none⟩,
      ⟨some 5, none, .box 30 (.s 2), .none⟩,
      ⟨some 6, none, .mv (.c (.d (.bool false))), .none⟩])
  (.seq (.reg [⟨some 7, none, .mv (.s 1), .none⟩,
      ⟨some 8, none, .mv (.s 7), .none⟩,
      ⟨some 9, some (8, true), .ld (.s 3) 2 true, .none⟩,
      ⟨some 10, some (8, true), .fa (.s 5) 0, .none⟩,
      ⟨some 11, some (8, true), .ld (.s 10) 2 true, .none⟩,
      ⟨some 12, some (8, true), .eqs false [1, 1] (.s 9) (.s 11), .none⟩,
      ⟨some 13, none, .pick (.s 8) (.s 12) (.c (.d (.bool false))), .none⟩,
      ⟨some 6, none, .mv (.s 13), .none⟩])
  (.ret none)))
def ir27 : F := { n := 14, res := [.tmp 6], body := bd27 }
@[go_sem] theorem n27 : ir27.n = 14 := rfl
@[go_sem] theorem r27 : ir27.res = [.tmp 6] := rfl
@[go_sem] theorem b27 : ir27.body = bd27 := rfl
/-- spence/codec.GetPiece -/
def bd28 : C :=
  (.seq (.reg [⟨some 2, none, .alloc 84 [.int .i64 0, .int .i64 0, .int .i64 0, .nils], .cells [(3, 1, false)]⟩,
      ⟨some 3, none, .mv (.c (.d (.int .i64 0))), .none⟩])
  (.seq (.reg [⟨some 6, none, .mv (.s 0), .none⟩,
      ⟨some 7, none, .build [.nils, .bool false] [(0, (1, .s 6)), (1, (1, .c (.d (.bool true))))], .cells [(0, 1, false)]⟩,
      ⟨some 8, none, .box 111 (.s 7), .none⟩,
      ⟨some 4, none, .mv (.s 8), .none⟩])
  (.seq (.reg [⟨some 9, none, .mv (.s 4), .none⟩,
      ⟨some 10, none, .call 48 [.s 9, .c (.d (.int .i64 1))] 0, .none⟩,
      ⟨some 11, none, .mv (.s 4), .none⟩,
      ⟨some 12, none, .call 48 [.s 11, .c (.d (.int .i64 4))] 0, .none⟩,
      ⟨some 13, none, .mv (.s 4), .none⟩,
      ⟨some 14, none, .call 48 [.s 13, .c (.d (.int .i64 2))] 0, .none⟩,
      ⟨some 15, none, .build [.int .i64 0, .int .i64 0, .int .i64 0, .nils] [(0, (1, .s 10)), (1, (1, .s 12)), (2, (1, .s 14))], .cells [(3, 1, false)]⟩,
      ⟨some 5, none, .alloc 84 [.int .i64 0, .int .i64 0, .int .i64 0, .nils], .cells [(3, 1, false)]⟩,
      ⟨none, none, .st (.s 5) (.s 15) 4, .none⟩])
  (.seq (.reg [⟨some 16, none, .mv (.s 4), .none⟩,
      ⟨some 17, none, .nc (.s 16), .none⟩,
      ⟨some 18, none, .fa (.s 17) 0, .none⟩,
      ⟨some 19, none, .ld (.s 18) 1 false, .none⟩,
      ⟨some 20, none, .call 50 [.s 19] 2, .none⟩,
      ⟨some 21, none, .fa (.s 5) 3, .none⟩,
      ⟨none, none, .st (.s 21) (.s 20) 1, .none⟩])
  (.seq (.seq (.reg [⟨some 22, none, .mv (.s 4), .none⟩,
       ⟨some 23, none, .nc (.s 22), .none⟩,
       ⟨some 24, none, .fa (.s 23) 1, .none⟩,
       ⟨some 25, none, .ld (.s 24) 1 false, .none⟩,
       ⟨some 26, none, .un .not (.s 25), .none⟩,
       ⟨some 27, none, .mv (.s 26), .none⟩,
       ⟨some 28, some (27, false), .ld (.s 5) 4 true, .none⟩,
       ⟨some 29, some (27, false), .call 51 [.s 28] 2, .none⟩,
       ⟨some 30, some (27, false), .un .not (.s 29), .none⟩,
       ⟨some 31, none, .pick (.s 27) (.c (.d (.bool true))) (.s 30), .none⟩])
   (.cond (.s 31)
    (.seq (.reg [⟨some 32, none, .build [.int .i64 0, .int .i64 0, .int .i64 0, .nils] [], .cells [(3, 1, false)]⟩,
        ⟨none, none, .st (.s 2) (.s 32) 4, .none⟩,
        ⟨some 3, none, .mv (.c (.d (.int .i64 3))), .none⟩])
    (.ret none))
    .skip))
  (.seq (.reg [⟨some 33, none, .ld (.s 5) 4 true, .none⟩,
      ⟨none, none, .st (.s 2) (.s 33) 4, .none⟩,
      ⟨some 3, none, .mv (.c (.d (.int .i64 0))), .none⟩])
  (.ret none)))))))
def ir28 : F := { n := 34, res := [.cell 2 4 true, .tmp 3], body := bd28 }
@[go_sem] theorem n28 : ir28.n = 34 := rfl
@[go_sem] theorem r28 : ir28.res = [.cell 2 4 true, .tmp 3] := rfl
@[go_sem] theorem b28 : ir28.body = bd28 := rfl
/-- (spence/index.Index).At -/
def bd29 : C :=
  (.seq (.reg [⟨some 3, none, .box 39 (.s 0), .none⟩,
      ⟨some 6, none, .alloc 26 [.int .i64 0, .int .i64 0], .none⟩,
      ⟨some 7, none, .mv (.c (.d (.bool false))), .none⟩])
  (.seq (.reg [⟨some 11, none, .ld (.s 3) 192 true, .none⟩,
      ⟨some 12, none, .mv (.s 1), .none⟩,
      ⟨some 13, none, .call 40 [.s 11, .s 12] 2, .none⟩,
      ⟨some 14, none, .fld (.s 13) 8 1 false, .none⟩,
      ⟨some 15, none, .mv (.s 2), .none⟩,
      ⟨some 16, none, .mget (.s 14) (.s 15) (.agg [.d (.int .i64 0), .d (.int .i64 0)]) true, .none⟩,
      ⟨some 10, none, .mv (.s 16), .none⟩,
      ⟨some 17, none, .ext (.s 10) 0, .none⟩,
      ⟨some 18, none, .ext (.s 10) 1, .none⟩,
      ⟨some 8, none, .alloc 26 [.int .i64 0, .int .i64 0], .none⟩,
      ⟨none, none, .st (.s 8) (.s 17) 2, .none⟩,
      ⟨some 9, none, .mv (.s 18), .none⟩])
  (.seq (.reg [⟨some 19, none, .ld (.s 8) 2 true, .none⟩,
      ⟨some 20, none, .mv (.s 9), .none⟩,
      ⟨none, none, .st (.s 6) (.s 19) 2, .none⟩,
      ⟨some 7, none, .mv (.s 20), .none⟩])
  (.ret none))))
def ir29 : F := { n := 21, res := [.cell 6 2 true, .tmp 7], body := bd29 }
@[go_sem] theorem n29 : ir29.n = 21 := rfl
@[go_sem] theorem r29 : ir29.res = [.cell 6 2 true, .tmp 7] := rfl
@[go_sem] theorem b29 : ir29.body = bd29 := rfl
/-- spence/codec.GetDrop -/
def bd30 : C :=
  (.seq (.reg [⟨some 4, none, .alloc 70 [.int .i64 0, .int .i64 0, .bool false], .none⟩,
      ⟨some 5, none, .mv (.c (.d (.int .i64 0))), .none⟩])
  (.seq (.reg [⟨some 8, none, .mv (.s 1), .none⟩,
      ⟨some 9, none, .build [.nils, .bool false] [(0, (1, .s 8)), (1, (1, .c (.d (.bool true))))], .cells [(0, 1, false)]⟩,
      ⟨some 10, none, .box 111 (.s 9), .none⟩,
      ⟨some 6, none, .mv (.s 10), .none⟩])
  (.seq (.reg [⟨some 11, none, .mv (.s 6), .none⟩,
      ⟨some 12, none, .call 48 [.s 11, .c (.d (.int .i64 1))] 0, .none⟩,
      ⟨some 13, none, .mv (.s 6), .none⟩,
      ⟨some 14, none, .call 48 [.s 13, .c (.d (.int .i64 4))] 0, .none⟩,
      ⟨some 15, none, .mv (.s 0), .none⟩,
      ⟨some 16, none, .bin .eql (.s 15) (.c (.d (.int .u8 5))), .none⟩,
      ⟨some 17, none, .build [.int .i64 0, .int .i64 0, .bool false] [(0, (1, .s 12)), (1, (1, .s 14)), (2, (1, .s 16))], .none⟩,
      ⟨some 7, none, .alloc 70 [.int .i64 0, .int .i64 0, .bool false], .none⟩,
      ⟨none, none, .st (.s 7) (.s 17) 3, .none⟩])
  (.seq (.seq (.reg [⟨some 18, none, .mv (.s 6), .none⟩,
       ⟨some 19, none, .nc (.s 18), .none⟩,
       ⟨some 20, none, .fa (.s 19) 1, .none⟩,
       ⟨some 21, none, .ld (.s 20) 1 false, .none⟩,
       ⟨some 22, none, .un .not (.s 21), .none⟩,
       ⟨some 23, none, .mv (.s 22), .none⟩,
       ⟨some 24, some (23, false), .mv (.s 6), .none⟩,
       ⟨some 25, some (23, false), .nc (.s 24), .none⟩,
       ⟨some 26, some (23, false), .fa (.s 25) 0, .none⟩,
       ⟨some 27, some (23, false), .ld (.s 26) 1 false, .none⟩,
       ⟨some 28, some (23, false), .len (.s 27), .none⟩,
       ⟨some 29, some (23, false), .bin .gtr (.s 28) (.c (.d (.int .i64 0))), .none⟩,
       ⟨some 30, none, .pick (.s 23) (.c (.d (.bool true))) (.s 29), .none⟩,
       ⟨some 31, none, .mv (.s 30), .none⟩,
       ⟨some 32, some (31, false), .fa (.s 7) 0, .none⟩,
       ⟨some 33, some (31, false), .ld (.s 32) 1 false, .none⟩,
       ⟨some 34, some (31, false), .fa (.s 7) 1, .none⟩,
       ⟨some 35, some (31, false), .ld (.s 34) 1 false, .none⟩,
       ⟨some 36, some (31, false), .call 52 [.s 33, .s 35] 2, .none⟩,
       ⟨some 37, some (31, false), .un .not (.s 36), .none⟩,
       ⟨some 38, none, .pick (.s 31) (.c (.d (.bool true))) (.s 37), .none⟩])
   (.cond (.s 38)
    (.seq (.reg [⟨some 39, none, .build [.int .i64 0, .int .i64 0, .bool false] [], .none⟩,
        ⟨none, none, .st (.s 4) (.s 39) 3, .none⟩,
        ⟨some 5, none, .mv (.c (.d (.int .i64 3))), .none⟩])
    (.ret none))
    .skip))
  (.seq (.reg [⟨some 40, none, .ld (.s 7) 3 true, .none⟩,
      ⟨none, none, .st (.s 4) (.s 40) 3, .none⟩,
      ⟨some 5, none, .mv (.c (.d (.int .i64 0))), .none⟩])
  (.ret none))))))
def ir30 : F := { n := 41, res := [.cell 4 3 true, .tmp 5], body := bd30 }
@[go_sem] theorem n30 : ir30.n = 41 := rfl
@[go_sem] theorem r30 : ir30.res = [.cell 4 3 true, .tmp 5] := rfl
@[go_sem] theorem b30 : ir30.body = bd30 := rfl
/-- (spence/index.Index).Tomb -/
def bd31 : C :=
  (.seq (.reg [⟨some 2, none, .box 39 (.s 0), .none⟩,
      ⟨some 4, none, .alloc 26 [.int .i64 0, .int .i64 0], .none⟩,
      ⟨some 5, none, .mv (.c (.d (.bool false))), .none⟩])
  (.seq (.reg [⟨some 7, none, .ld (.s 2) 192 true, .none⟩,
      ⟨some 8, none, .mv (.s 1), .none⟩,
      ⟨some 9, none, .call 40 [.s 7, .s 8] 2, .none⟩,
      ⟨some 6, none, .alloc 36 [.bool false, .int .i64 0, .int .i64 0, .str [], .int .i64 0, .int .i64 0, .int .i64 0, .int .i64 0, .nilm, .int .i64 0, .int .i64 0, .int .i64 0], .none⟩,
      ⟨none, none, .st (.s 6) (.s 9) 12, .none⟩])
  (.seq (.drw [⟨some 10, none, .fa (.s 6) 10, .none⟩,
      ⟨some 11, none, .ld (.s 10) 2 true, .none⟩,
      ⟨some 12, none, .fa (.s 6) 9, .none⟩,
      ⟨some 13, none, .ld (.s 12) 1 false, .none⟩,
      ⟨some 14, none, .bin .gtr (.s 13) (.c (.d (.int .i64 0))), .none⟩,
      ⟨none, none, .st (.s 4) (.s 11) 2, .none⟩,
      ⟨some 5, none, .mv (.s 14), .none⟩]
     [[], [0], [], [2], [3], [1, 0, 1], [4, 5, 0, 1, 2, 3, 4, 5]] [(12, 4)])
  (.ret none))))
def ir31 : F := { n := 15, res := [.cell 4 2 true, .tmp 5], body := bd31 }
@[go_sem] theorem n31 : ir31.n = 15 := rfl
@[go_sem] theorem r31 : ir31.res = [.cell 4 2 true, .tmp 5] := rfl
@[go_sem] theorem b31 : ir31.body = bd31 := rfl
/-- (spence/index.Index).Bind -/
def bd32 : C :=
  (.seq (.reg [⟨some 2, none, .box 39 (.s 0), .none⟩,
      ⟨some 3, none, .box 33 (.s 1), .none⟩,
      ⟨some 4, none, .alloc 39 [.bool false, .int .i64 0, .int .i64 0, .str [], .int .i64 0, .int .i64 0, .int .i64 0, .int .i64 0, .nilm, .int .i64 0, .int .i64 0, .int .i64 0, .bool false, .int .i64 0, .int .i64 0, .str [], .int .i64 0, .int .i64 0, .int .i64 0, .int .i64 0, .nilm, .int .i64 0, .int .i64 0, .int .i64 0, .bool false, .int .i64 0, .int .i64 0, .str [], .int .i64 0, .int .i64 0, .int .i64 0, .int .i64 0, .nilm, .int .i64 0, .int .i64 0, .int .i64 0, .bool false, .int .i64 0, .int .i64 0, .str [], .int .i64 0, .int .i64 0, .int .i64 0, .int .i64 0, .nilm, .int .i64 0, .int .i64 0, .int .i64 0, .bool false, .int .i64 0, .int .i64 0, .str [], .int .i64 0, .int .i64 0, .int .i64 0, .int .i64 0, .nilm, .int .i64 0, .int .i64 0, .int .i64 0, .bool false, .int .i64 0, .int .i64 0, .str [], .int .i64 0, .int .i64 0, .int .i64 0, .int .i64 0, .nilm, .int .i64 0, .int .i64 0, .int .i64 0, .bool false, .int .i64 0, .int .i64 0, .str [], .int .i64 0, .int .i64 0, .int .i64 0, .int .i64 0, .nilm, .int .i64 0, .int .i64 0, .int .i64 0, .bool false, .int .i64 0, .int .i64 0, .str [], .int .i64 0, .int .i64 0, .int .i64 0, .int .i64 0, .nilm, .int .i64 0, .int .i64 0, .int .i64 0, .bool false, .int .i64 0, .int .i64 0, .str [], .int .i64 0, .int .i64 0, .int .i64 0, .int .i64 0, .nilm, .int .i64 0, .int .i64 0, .int .i64 0, .bool false, .int .i64 0, .int .i64 0, .str [], .int .i64 0, .int .i64 0, .int .i64 0, .int .i64 0, .nilm, .int .i64 0, .int .i64 0, .int .i64 0, .bool false, .int .i64 0, .int .i64 0, .str [], .int .i64 0, .int .i64 0, .int .i64 0, .int .i64 0, .nilm, .int .i64 0, .int .i64 0, .int .i64 0, .bool false, .int .i64 0, .int .i64 0, .str [], .int .i64 0, .int .i64 0, .int .i64 0, .int .i64 0, .nilm, .int .i64 0, .int .i64 0, .int .i64 0, .bool false, .int .i64 0, .int .i64 0, .str [], .int .i64 0, .int .i64 0, .int .i64 0, .int .i64 0, .nilm, .int .i64 0, .int .i64 0, .int .i64 0, .bool false, .int .i64 0, .int .i64 0, .str [], .int .i64 0, .int .i64 0, .int .i64 0, .int .i64 0, .nilm, .int .i64 0, .int .i64 0, .int .i64 0, .bool false, .int .i64 0, .int .i64 0, .str [], .int .i64 0, .int .i64 0, .int .i64 0, .int .i64 0, .nilm, .int .i64 0, .int .i64 0, .int .i64 0, .bool false, .int .i64 0, .int .i64 0, .str [], .int .i64 0, .int .i64 0, .int .i64 0, .int .i64 0, .nilm, .int .i64 0, .int .i64 0, .int .i64 0], .none⟩])
  (.seq (.reg [⟨some 5, none, .ld (.s 2) 192 true, .none⟩,
      ⟨some 6, none, .ld (.s 3) 5 true, .none⟩,
      ⟨some 7, none, .build [.int .i64 0, .int .i64 0] [], .none⟩,
      ⟨some 8, none, .call 38 [.s 5, .s 6, .s 7] 2, .none⟩,
      ⟨none, none, .st (.s 4) (.s 8) 192, .none⟩])
  (.ret none)))
def ir32 : F := { n := 9, res := [.cell 4 192 true], body := bd32 }
@[go_sem] theorem n32 : ir32.n = 9 := rfl
@[go_sem] theorem r32 : ir32.res = [.cell 4 192 true] := rfl
@[go_sem] theorem b32 : ir32.body = bd32 := rfl
/-- (spence/index.Index).Drop -/
def bd33 : C :=
  (.seq (.reg [⟨some 3, none, .box 39 (.s 0), .none⟩,
      ⟨some 6, none, .alloc 39 [.bool false, .int .i64 0, .int .i64 0, .str [], .int .i64 0, .int .i64 0, .int .i64 0, .int .i64 0, .nilm, .int .i64 0, .int .i64 0, .int .i64 0, .bool false, .int .i64 0, .int .i64 0, .str [], .int .i64 0, .int .i64 0, .int .i64 0, .int .i64 0, .nilm, .int .i64 0, .int .i64 0, .int .i64 0, .bool false, .int .i64 0, .int .i64 0, .str [], .int .i64 0, .int .i64 0, .int .i64 0, .int .i64 0, .nilm, .int .i64 0, .int .i64 0, .int .i64 0, .bool false, .int .i64 0, .int .i64 0, .str [], .int .i64 0, .int .i64 0, .int .i64 0, .int .i64 0, .nilm, .int .i64 0, .int .i64 0, .int .i64 0, .bool false, .int .i64 0, .int .i64 0, .str [], .int .i64 0, .int .i64 0, .int .i64 0, .int .i64 0, .nilm, .int .i64 0, .int .i64 0, .int .i64 0, .bool false, .int .i64 0, .int .i64 0, .str [], .int .i64 0, .int .i64 0, .int .i64 0, .int .i64 0, .nilm, .int .i64 0, .int .i64 0, .int .i64 0, .bool false, .int .i64 0, .int .i64 0, .str [], .int .i64 0, .int .i64 0, .int .i64 0, .int .i64 0, .nilm, .int .i64 0, .int .i64 0, .int .i64 0, .bool false, .int .i64 0, .int .i64 0, .str [], .int .i64 0, .int .i64 0, .int .i64 0, .int .i64 0, .nilm, .int .i64 0, .int .i64 0, .int .i64 0, .bool false, .int .i64 0, .int .i64 0, .str [], .int .i64 0, .int .i64 0, .int .i64 0, .int .i64 0, .nilm, .int .i64 0, .int .i64 0, .int .i64 0, .bool false, .int .i64 0, .int .i64 0, .str [], .int .i64 0, .int .i64 0, .int .i64 0, .int .i64 0, .nilm, .int .i64 0, .int .i64 0, .int .i64 0, .bool false, .int .i64 0, .int .i64 0, .str [], .int .i64 0, .int .i64 0, .int .i64 0, .int .i64 0, .nilm, .int .i64 0, .int .i64 0, .int .i64 0, .bool false, .int .i64 0, .int .i64 0, .str [], .int .i64 0, .int .i64 0, .int .i64 0, .int .i64 0, .nilm, .int .i64 0, .int .i64 0, .int .i64 0, .bool false, .int .i64 0, .int .i64 0, .str [], .int .i64 0, .int .i64 0, .int .i64 0, .int .i64 0, .nilm, .int .i64 0, .int .i64 0, .int .i64 0, .bool false, .int .i64 0, .int .i64 0, .str [], .int .i64 0, .int .i64 0, .int .i64 0, .int .i64 0, .nilm, .int .i64 0, .int .i64 0, .int .i64 0, .bool false, .int .i64 0, .int .i64 0, .str [], .int .i64 0, .int .i64 0, .int .i64 0, .int .i64 0, .nilm, .int .i64 0, .int .i64 0, .int .i64 0, .bool false, .int .i64 0, .int .i64 0, .str [], .int .i64 0, .int .i64 0, .int .i64 0, .int .i64 0, .nilm, .int .i64 0, .int .i64 0, .int .i64 0], .none⟩])
  (.seq (.reg [⟨some 7, none, .ld (.s 3) 192 true, .none⟩,
      ⟨some 8, none, .mv (.s 1), .none⟩,
      ⟨some 9, none, .mv (.s 2), .none⟩,
      ⟨some 10, none, .build [.int .i64 0, .int .i64 0] [], .none⟩,
      ⟨some 11, none, .call 36 [.s 7, .s 8, .s 9, .s 10] 2, .none⟩,
      ⟨none, none, .st (.s 6) (.s 11) 192, .none⟩])
  (.ret none)))
def ir33 : F := { n := 12, res := [.cell 6 192 true], body := bd33 }
@[go_sem] theorem n33 : ir33.n = 12 := rfl
@[go_sem] theorem r33 : ir33.res = [.cell 6 192 true] := rfl
@[go_sem] theorem b33 : ir33.body = bd33 := rfl
/-- (spence/index.Index).Piece -/
def bd34 : C :=
  (.seq (.reg [⟨some 5, none, .box 39 (.s 0), .none⟩,
      ⟨some 7, none, .box 3 (.s 2), .none⟩,
      ⟨some 8, none, .box 3 (.s 3), .none⟩,
      ⟨some 9, none, .box 26 (.s 4), .none⟩,
      ⟨some 10, none, .alloc 39 [.bool false, .int .i64 0, .int .i64 0, .str [], .int .i64 0, .int .i64 0, .int .i64 0, .int .i64 0, .nilm, .int .i64 0, .int .i64 0, .int .i64 0, .bool false, .int .i64 0, .int .i64 0, .str [], .int .i64 0, .int .i64 0, .int .i64 0, .int .i64 0, .nilm, .int .i64 0, .int .i64 0, .int .i64 0, .bool false, .int .i64 0, .int .i64 0, .str [], .int .i64 0, .int .i64 0, .int .i64 0, .int .i64 0, .nilm, .int .i64 0, .int .i64 0, .int .i64 0, .bool false, .int .i64 0, .int .i64 0, .str [], .int .i64 0, .int .i64 0, .int .i64 0, .int .i64 0, .nilm, .int .i64 0, .int .i64 0, .int .i64 0, .bool false, .int .i64 0, .int .i64 0, .str [], .int .i64 0, .int .i64 0, .int .i64 0, .int .i64 0, .nilm, .int .i64 0, .int .i64 0, .int .i64 0, .bool false, .int .i64 0, .int .i64 0, .str [], .int .i64 0, .int .i64 0, .int .i64 0, .int .i64 0, .nilm, .int .i64 0, .int .i64 0, .int .i64 0, .bool false, .int .i64 0, .int .i64 0, .str [], .int .i64 0, .int .i64 0, .int .i64 0, .int .i64 0, .nilm, .int .i64 0, .int .i64 0, .int .i64 0, .bool false, .int .i64 0, .int .i64 0, .str [], .int .i64 0, .int .i64 0, .int .i64 0, .int .i64 0, .nilm, .int .i64 0, .int .i64 0, .int .i64 0, .bool false, .int .i64 0, .int .i64 0, .str [], .int .i64 0, .int .i64 0, .int .i64 0, .int .i64 0, .nilm, .int .i64 0, .int .i64 0, .int .i64 0, .bool false, .int .i64 0, .int .i64 0, .str [], .int .i64 0, .int .i64 0, .int .i64 0, .int .i64 0, .nilm, .int .i64 0, .int .i64 0, .int .i64 0, .bool false, .int .i64 0, .int .i64 0, .str [], .int .i64 0, .int .i64 0, .int .i64 0, .int .i64 0, .nilm, .int .i64 0, .int .i64 0, .int .i64 0, .bool false, .int .i64 0, .int .i64 0, .str [], .int .i64 0, .int .i64 0, .int .i64 0, .int .i64 0, .nilm, .int .i64 0, .int .i64 0, .int .i64 0, .bool false, .int .i64 0, .int .i64 0, .str [], .int .i64 0, .int .i64 0, .int .i64 0, .int .i64 0, .nilm, .int .i64 0, .int .i64 0, .int .i64 0, .bool false, .int .i64 0, .int .i64 0, .str [], .int .i64 0, .int .i64 0, .int .i64 0, .int .i64 0, .nilm, .int .i64 0, .int .i64 0, .int .i64 0, .bool false, .int .i64 0, .int .i64 0, .str [], .int .i64 0, .int .i64 0, .int .i64 0, .int .i64 0, .nilm, .int .i64 0, .int .i64 0, .int .i64 0, .bool false, .int .i64 0, .int .i64 0, .str [], .int .i64 0, .int .i64 0, .int .i64 0, .int .i64 0, .nilm, .int .i64 0, .int .i64 0, .int .i64 0], .none⟩])
  (.seq (.reg [⟨some 11, none, .ld (.s 5) 192 true, .none⟩,
      ⟨some 12, none, .mv (.s 1), .none⟩,
      ⟨some 13, none, .fn (.func 54) [] [.s 7, .s 8, .s 9], .none⟩,
      ⟨some 14, none, .call 53 [.s 11, .s 12, .s 13] 0, .none⟩,
      ⟨none, none, .st (.s 10) (.s 14) 192, .none⟩])
  (.ret none)))
def ir34 : F := { n := 15, res := [.cell 10 192 true], body := bd34 }
@[go_sem] theorem n34 : ir34.n = 15 := rfl
@[go_sem] theorem r34 : ir34.res = [.cell 10 192 true] := rfl
@[go_sem] theorem b34 : ir34.body = bd34 := rfl
def lb35_0 : C :=
  (.seq (.reg [⟨some 59, none, .bin .lss (.s 58) (.s 57), .none⟩])
  (.seq (.cond (.s 59)
    .skip
    (.exit 0 (some [0, 1, 3, 9, 10, 11])))
  (.seq (.block 1 (.seq (.reg [⟨some 60, none, .is (.s 56) (.s 58) 3, .none⟩,
        ⟨some 61, none, .ld (.s 60) 3 true, .none⟩,
        ⟨some 13, none, .alloc 65 [.int .i64 0, .int .i64 0, .int .i64 0], .none⟩,
        ⟨none, none, .st (.s 13) (.s 61) 3, .none⟩])
    (.seq (.seq (.reg [⟨some 62, none, .fa (.s 13) 0, .none⟩,
         ⟨some 63, none, .ld (.s 62) 1 false, .none⟩,
         ⟨some 64, none, .mv (.s 3), .none⟩,
         ⟨some 65, none, .bin .geq (.s 63) (.s 64), .none⟩,
         ⟨some 66, none, .mv (.s 65), .none⟩,
         ⟨some 67, some (66, true), .mv (.s 11), .none⟩,
         ⟨some 68, some (66, true), .un .not (.s 67), .none⟩,
         ⟨some 69, none, .pick (.s 66) (.s 68) (.c (.d (.bool false))), .none⟩])
     (.cond (.s 69)
      (.seq (.reg [⟨some 70, none, .mv (.s 10), .none⟩,
          ⟨some 71, none, .mv (.s 3), .none⟩,
          ⟨some 72, none, .ld (.s 9) 2 true, .none⟩,
          ⟨some 73, none, .build [.int .i64 0, .int .i64 0, .int .i64 0] [(0, (1, .s 71)), (1, (2, .s 72))], .none⟩,
          ⟨some 74, none, .bsl 65 3 1 [.int .i64 0, .int .i64 0, .int .i64 0] [(0, (3, .s 73))], .none⟩,
          ⟨some 75, none, .app 65 3 24 (.s 70) (.s 74), .none⟩,
          ⟨some 10, none, .mv (.s 75), .none⟩])
      (.reg [⟨some 11, none, .mv (.c (.d (.bool true))), .none⟩]))
      .skip))
    (.ann [0, 1, 3, 9, 10, 11, 13, 56, 57, 58] (.seq (.reg [⟨some 76, none, .fa (.s 13) 0, .none⟩,
        ⟨some 77, none, .ld (.s 76) 1 false, .none⟩,
        ⟨some 78, none, .mv (.s 3), .none⟩,
        ⟨some 79, none, .bin .neq (.s 77) (.s 78), .none⟩])
    (.cond (.s 79)
     (.reg [⟨some 80, none, .mv (.s 10), .none⟩,
        ⟨some 81, none, .ld (.s 13) 3 true, .none⟩,
        ⟨some 82, none, .bsl 65 3 1 [.int .i64 0, .int .i64 0, .int .i64 0] [(0, (3, .s 81))], .none⟩,
        ⟨some 83, none, .app 65 3 24 (.s 80) (.s 82), .none⟩,
        ⟨some 10, none, .mv (.s 83), .none⟩])
     .skip))))))
  (.reg [⟨some 84, none, .bin .add (.s 58) (.c (.d (.int .i64 1))), .none⟩,
     ⟨some 58, none, .mv (.s 84), .none⟩]))))
def lp35_0 : C := lb35_0
theorem u35_0 (c : Ev.Callee) (l : Ev.Looper) (s : St) : evC c l lp35_0 s = evC c l lb35_0 s := rfl
abbrev st35_0 (m : Nat) (s0 s1 s3 s9 s10 s11 s56 s57 s58 : AV) (h : Heap) : St := ⟨m, [s0, s1, .unk, s3, .unk, .unk, .unk, .unk, .unk, s9, s10, s11, .unk, .unk, .unk, .unk, .unk, .unk, .unk, .unk, .unk, .unk, .unk, .unk, .unk, .unk, .unk, .unk, .unk, .unk, .unk, .unk, .unk, .unk, .unk, .unk, .unk, .unk, .unk, .unk, .unk, .unk, .unk, .unk, .unk, .unk, .unk, .unk, .unk, .unk, .unk, .unk, .unk, .unk, .unk, .unk, s56, s57, s58, .unk, .unk, .unk, .unk, .unk, .unk, .unk, .unk, .unk, .unk, .unk, .unk, .unk, .unk, .unk, .unk, .unk, .unk, .unk, .unk, .unk, .unk, .unk, .unk, .unk, .unk, .unk, .unk, .unk, .unk, .unk, .unk, .unk, .unk, .unk, .unk, .unk, .unk, .unk, .unk, .unk], h⟩
@[go_sem] theorem ks35_0 (v0 v1 v2 v3 v4 v5 v6 v7 v8 v9 v10 v11 v12 v13 v14 v15 v16 v17 v18 v19 v20 v21 v22 v23 v24 v25 v26 v27 v28 v29 v30 v31 v32 v33 v34 v35 v36 v37 v38 v39 v40 v41 v42 v43 v44 v45 v46 v47 v48 v49 v50 v51 v52 v53 v54 v55 v56 v57 v58 v59 v60 v61 v62 v63 v64 v65 v66 v67 v68 v69 v70 v71 v72 v73 v74 v75 v76 v77 v78 v79 v80 v81 v82 v83 v84 v85 v86 v87 v88 v89 v90 v91 v92 v93 v94 v95 v96 v97 v98 v99 : AV) : keepS [0, 1, 3, 9, 10, 11, 56, 57, 58] [v0, v1, v2, v3, v4, v5, v6, v7, v8, v9, v10, v11, v12, v13, v14, v15, v16, v17, v18, v19, v20, v21, v22, v23, v24, v25, v26, v27, v28, v29, v30, v31, v32, v33, v34, v35, v36, v37, v38, v39, v40, v41, v42, v43, v44, v45, v46, v47, v48, v49, v50, v51, v52, v53, v54, v55, v56, v57, v58, v59, v60, v61, v62, v63, v64, v65, v66, v67, v68, v69, v70, v71, v72, v73, v74, v75, v76, v77, v78, v79, v80, v81, v82, v83, v84, v85, v86, v87, v88, v89, v90, v91, v92, v93, v94, v95, v96, v97, v98, v99] 0 = [v0, v1, .unk, v3, .unk, .unk, .unk, .unk, .unk, v9, v10, v11, .unk, .unk, .unk, .unk, .unk, .unk, .unk, .unk, .unk, .unk, .unk, .unk, .unk, .unk, .unk, .unk, .unk, .unk, .unk, .unk, .unk, .unk, .unk, .unk, .unk, .unk, .unk, .unk, .unk, .unk, .unk, .unk, .unk, .unk, .unk, .unk, .unk, .unk, .unk, .unk, .unk, .unk, .unk, .unk, v56, v57, v58, .unk, .unk, .unk, .unk, .unk, .unk, .unk, .unk, .unk, .unk, .unk, .unk, .unk, .unk, .unk, .unk, .unk, .unk, .unk, .unk, .unk, .unk, .unk, .unk, .unk, .unk, .unk, .unk, .unk, .unk, .unk, .unk, .unk, .unk, .unk, .unk, .unk, .unk, .unk, .unk, .unk] := rfl
@[go_sem] theorem ks35_1 (v0 v1 v2 v3 v4 v5 v6 v7 v8 v9 v10 v11 v12 v13 v14 v15 v16 v17 v18 v19 v20 v21 v22 v23 v24 v25 v26 v27 v28 v29 v30 v31 v32 v33 v34 v35 v36 v37 v38 v39 v40 v41 v42 v43 v44 v45 v46 v47 v48 v49 v50 v51 v52 v53 v54 v55 v56 v57 v58 v59 v60 v61 v62 v63 v64 v65 v66 v67 v68 v69 v70 v71 v72 v73 v74 v75 v76 v77 v78 v79 v80 v81 v82 v83 v84 v85 v86 v87 v88 v89 v90 v91 v92 v93 v94 v95 v96 v97 v98 v99 : AV) : keepS [0, 1, 3, 9, 10, 11] [v0, v1, v2, v3, v4, v5, v6, v7, v8, v9, v10, v11, v12, v13, v14, v15, v16, v17, v18, v19, v20, v21, v22, v23, v24, v25, v26, v27, v28, v29, v30, v31, v32, v33, v34, v35, v36, v37, v38, v39, v40, v41, v42, v43, v44, v45, v46, v47, v48, v49, v50, v51, v52, v53, v54, v55, v56, v57, v58, v59, v60, v61, v62, v63, v64, v65, v66, v67, v68, v69, v70, v71, v72, v73, v74, v75, v76, v77, v78, v79, v80, v81, v82, v83, v84, v85, v86, v87, v88, v89, v90, v91, v92, v93, v94, v95, v96, v97, v98, v99] 0 = [v0, v1, .unk, v3, .unk, .unk, .unk, .unk, .unk, v9, v10, v11, .unk, .unk, .unk, .unk, .unk, .unk, .unk, .unk, .unk, .unk, .unk, .unk, .unk, .unk, .unk, .unk, .unk, .unk, .unk, .unk, .unk, .unk, .unk, .unk, .unk, .unk, .unk, .unk, .unk, .unk, .unk, .unk, .unk, .unk, .unk, .unk, .unk, .unk, .unk, .unk, .unk, .unk, .unk, .unk, .unk, .unk, .unk, .unk, .unk, .unk, .unk, .unk, .unk, .unk, .unk, .unk, .unk, .unk, .unk, .unk, .unk, .unk, .unk, .unk, .unk, .unk, .unk, .unk, .unk, .unk, .unk, .unk, .unk, .unk, .unk, .unk, .unk, .unk, .unk, .unk, .unk, .unk, .unk, .unk, .unk, .unk, .unk, .unk] := rfl
@[go_sem] theorem ks35_2 (v0 v1 v2 v3 v4 v5 v6 v7 v8 v9 v10 v11 v12 v13 v14 v15 v16 v17 v18 v19 v20 v21 v22 v23 v24 v25 v26 v27 v28 v29 v30 v31 v32 v33 v34 v35 v36 v37 v38 v39 v40 v41 v42 v43 v44 v45 v46 v47 v48 v49 v50 v51 v52 v53 v54 v55 v56 v57 v58 v59 v60 v61 v62 v63 v64 v65 v66 v67 v68 v69 v70 v71 v72 v73 v74 v75 v76 v77 v78 v79 v80 v81 v82 v83 v84 v85 v86 v87 v88 v89 v90 v91 v92 v93 v94 v95 v96 v97 v98 v99 : AV) : keepS [0, 1, 3, 9, 10, 11, 13, 56, 57, 58] [v0, v1, v2, v3, v4, v5, v6, v7, v8, v9, v10, v11, v12, v13, v14, v15, v16, v17, v18, v19, v20, v21, v22, v23, v24, v25, v26, v27, v28, v29, v30, v31, v32, v33, v34, v35, v36, v37, v38, v39, v40, v41, v42, v43, v44, v45, v46, v47, v48, v49, v50, v51, v52, v53, v54, v55, v56, v57, v58, v59, v60, v61, v62, v63, v64, v65, v66, v67, v68, v69, v70, v71, v72, v73, v74, v75, v76, v77, v78, v79, v80, v81, v82, v83, v84, v85, v86, v87, v88, v89, v90, v91, v92, v93, v94, v95, v96, v97, v98, v99] 0 = [v0, v1, .unk, v3, .unk, .unk, .unk, .unk, .unk, v9, v10, v11, .unk, v13, .unk, .unk, .unk, .unk, .unk, .unk, .unk, .unk, .unk, .unk, .unk, .unk, .unk, .unk, .unk, .unk, .unk, .unk, .unk, .unk, .unk, .unk, .unk, .unk, .unk, .unk, .unk, .unk, .unk, .unk, .unk, .unk, .unk, .unk, .unk, .unk, .unk, .unk, .unk, .unk, .unk, .unk, v56, v57, v58, .unk, .unk, .unk, .unk, .unk, .unk, .unk, .unk, .unk, .unk, .unk, .unk, .unk, .unk, .unk, .unk, .unk, .unk, .unk, .unk, .unk, .unk, .unk, .unk, .unk, .unk, .unk, .unk, .unk, .unk, .unk, .unk, .unk, .unk, .unk, .unk, .unk, .unk, .unk, .unk, .unk] := rfl
@[go_sem] theorem ks35_3 (v0 v1 v2 v3 v4 v5 v6 v7 v8 v9 v10 v11 v12 v13 v14 v15 v16 v17 v18 v19 v20 v21 v22 v23 v24 v25 v26 v27 v28 v29 v30 v31 v32 v33 v34 v35 v36 v37 v38 v39 v40 v41 v42 v43 v44 v45 v46 v47 v48 v49 v50 v51 v52 v53 v54 v55 v56 v57 v58 v59 v60 v61 v62 v63 v64 v65 v66 v67 v68 v69 v70 v71 v72 v73 v74 v75 v76 v77 v78 v79 v80 v81 v82 v83 v84 v85 v86 v87 v88 v89 v90 v91 v92 v93 v94 v95 v96 v97 v98 v99 : AV) : keepS [0, 1, 10] [v0, v1, v2, v3, v4, v5, v6, v7, v8, v9, v10, v11, v12, v13, v14, v15, v16, v17, v18, v19, v20, v21, v22, v23, v24, v25, v26, v27, v28, v29, v30, v31, v32, v33, v34, v35, v36, v37, v38, v39, v40, v41, v42, v43, v44, v45, v46, v47, v48, v49, v50, v51, v52, v53, v54, v55, v56, v57, v58, v59, v60, v61, v62, v63, v64, v65, v66, v67, v68, v69, v70, v71, v72, v73, v74, v75, v76, v77, v78, v79, v80, v81, v82, v83, v84, v85, v86, v87, v88, v89, v90, v91, v92, v93, v94, v95, v96, v97, v98, v99] 0 = [v0, v1, .unk, .unk, .unk, .unk, .unk, .unk, .unk, .unk, v10, .unk, .unk, .unk, .unk, .unk, .unk, .unk, .unk, .unk, .unk, .unk, .unk, .unk, .unk, .unk, .unk, .unk, .unk, .unk, .unk, .unk, .unk, .unk, .unk, .unk, .unk, .unk, .unk, .unk, .unk, .unk, .unk, .unk, .unk, .unk, .unk, .unk, .unk, .unk, .unk, .unk, .unk, .unk, .unk, .unk, .unk, .unk, .unk, .unk, .unk, .unk, .unk, .unk, .unk, .unk, .unk, .unk, .unk, .unk, .unk, .unk, .unk, .unk, .unk, .unk, .unk, .unk, .unk, .unk, .unk, .unk, .unk, .unk, .unk, .unk, .unk, .unk, .unk, .unk, .unk, .unk, .unk, .unk, .unk, .unk, .unk, .unk, .unk, .unk] := rfl
/-- (*spence/spenceref17.Index).Piece -/
def bd35 : C :=
  (.seq (.reg [⟨some 9, none, .box 26 (.s 4), .none⟩])
  (.seq (.seq (.reg [⟨some 14, none, .mv (.s 1), .none⟩,
       ⟨some 15, none, .bin .lss (.s 14) (.c (.d (.int .i64 0))), .none⟩,
       ⟨some 16, none, .mv (.s 15), .none⟩,
       ⟨some 17, some (16, false), .mv (.s 1), .none⟩,
       ⟨some 18, some (16, false), .bin .gtr (.s 17) (.c (.d (.int .i64 15))), .none⟩,
       ⟨some 19, none, .pick (.s 16) (.c (.d (.bool true))) (.s 18), .none⟩,
       ⟨some 20, none, .mv (.s 19), .none⟩,
       ⟨some 21, some (20, false), .mv (.s 0), .none⟩,
       ⟨some 22, some (20, false), .mv (.s 1), .none⟩,
       ⟨some 23, some (20, false), .nc (.s 21), .none⟩,
       ⟨some 24, some (20, false), .fa (.s 23) 0, .none⟩,
       ⟨some 25, some (20, false), .ia (.s 24) (.s 22) 16 12, .none⟩,
       ⟨some 26, some (20, false), .fa (.s 25) 0, .none⟩,
       ⟨some 27, some (20, false), .ld (.s 26) 1 false, .none⟩,
       ⟨some 28, some (20, false), .un .not (.s 27), .none⟩,
       ⟨some 29, none, .pick (.s 20) (.c (.d (.bool true))) (.s 28), .none⟩,
       ⟨some 30, none, .mv (.s 29), .none⟩,
       ⟨some 31, some (30, false), .mv (.s 0), .none⟩,
       ⟨some 32, some (30, false), .mv (.s 1), .none⟩,
       ⟨some 33, some (30, false), .nc (.s 31), .none⟩,
       ⟨some 34, some (30, false), .fa (.s 33) 0, .none⟩,
       ⟨some 35, some (30, false), .ia (.s 34) (.s 32) 16 12, .none⟩,
       ⟨some 36, some (30, false), .fa (.s 35) 1, .none⟩,
       ⟨some 37, some (30, false), .fa (.s 36) 1, .none⟩,
       ⟨some 38, some (30, false), .ld (.s 37) 1 false, .none⟩,
       ⟨some 39, some (30, false), .mv (.s 2), .none⟩,
       ⟨some 40, some (30, false), .bin .neq (.s 38) (.s 39), .none⟩,
       ⟨some 41, none, .pick (.s 30) (.c (.d (.bool true))) (.s 40), .none⟩,
       ⟨some 42, none, .mv (.s 41), .none⟩,
       ⟨some 43, some (42, false), .mv (.s 3), .none⟩,
       ⟨some 44, some (42, false), .bin .lss (.s 43) (.c (.d (.int .i64 0))), .none⟩,
       ⟨some 45, none, .pick (.s 42) (.c (.d (.bool true))) (.s 44), .none⟩,
       ⟨some 46, none, .mv (.s 45), .none⟩,
       ⟨some 47, some (46, false), .mv (.s 3), .none⟩,
       ⟨some 48, some (46, false), .bin .gtr (.s 47) (.c (.d (.int .i64 4096))), .none⟩,
       ⟨some 49, none, .pick (.s 46) (.c (.d (.bool true))) (.s 48), .none⟩])
   (.cond (.s 49)
    (.ret none)
    .skip))
  (.seq (.reg [⟨some 10, none, .mv (.c (.d .nils)), .one 3 true⟩])
  (.seq (.reg [⟨some 11, none, .mv (.c (.d (.bool false))), .none⟩])
  (.seq (.seq (.reg [⟨some 50, none, .mv (.s 0), .none⟩,
       ⟨some 51, none, .mv (.s 1), .none⟩,
       ⟨some 52, none, .nc (.s 50), .none⟩,
       ⟨some 53, none, .fa (.s 52) 0, .none⟩,
       ⟨some 54, none, .ia (.s 53) (.s 51) 16 12, .none⟩,
       ⟨some 55, none, .fa (.s 54) 8, .none⟩,
       ⟨some 56, none, .ld (.s 55) 1 false, .none⟩,
       ⟨some 57, none, .len (.s 56), .none⟩,
       ⟨some 58, none, .mv (.c (.d (.int .i64 0))), .none⟩])
   (.block 0 (.loop [0, 1, 3, 9, 10, 11, 56, 57, 58] lp35_0)))
  (.seq (.seq (.reg [⟨some 85, none, .mv (.s 11), .none⟩,
       ⟨some 86, none, .un .not (.s 85), .none⟩])
   (.cond (.s 86)
    (.reg [⟨some 87, none, .mv (.s 10), .none⟩,
       ⟨some 88, none, .mv (.s 3), .none⟩,
       ⟨some 89, none, .ld (.s 9) 2 true, .none⟩,
       ⟨some 90, none, .build [.int .i64 0, .int .i64 0, .int .i64 0] [(0, (1, .s 88)), (1, (2, .s 89))], .none⟩,
       ⟨some 91, none, .bsl 65 3 1 [.int .i64 0, .int .i64 0, .int .i64 0] [(0, (3, .s 90))], .none⟩,
       ⟨some 92, none, .app 65 3 24 (.s 87) (.s 91), .none⟩,
       ⟨some 10, none, .mv (.s 92), .none⟩])
    .skip))
  (.ann [0, 1, 10] (.reg [⟨some 93, none, .mv (.s 0), .none⟩,
     ⟨some 94, none, .mv (.s 1), .none⟩,
     ⟨some 95, none, .mv (.s 10), .frz⟩,
     ⟨some 96, none, .nc (.s 93), .none⟩,
     ⟨some 97, none, .fa (.s 96) 0, .none⟩,
     ⟨some 98, none, .ia (.s 97) (.s 94) 16 12, .none⟩,
     ⟨some 99, none, .fa (.s 98) 8, .none⟩,
     ⟨none, none, .st (.s 99) (.s 95) 1, .none⟩]))))))))
def ir35 : F := { n := 100, res := [], body := bd35 }
@[go_sem] theorem n35 : ir35.n = 100 := rfl
@[go_sem] theorem r35 : ir35.res = [] := rfl
@[go_sem] theorem b35 : ir35.body = bd35 := rfl
/-- (spence/index.Index).Forget -/
def bd36 : C :=
  (.seq (.reg [⟨some 4, none, .box 39 (.s 0), .none⟩,
      ⟨some 6, none, .box 3 (.s 2), .none⟩,
      ⟨some 7, none, .box 26 (.s 3), .none⟩,
      ⟨some 8, none, .alloc 39 [.bool false, .int .i64 0, .int .i64 0, .str [], .int .i64 0, .int .i64 0, .int .i64 0, .int .i64 0, .nilm, .int .i64 0, .int .i64 0, .int .i64 0, .bool false, .int .i64 0, .int .i64 0, .str [], .int .i64 0, .int .i64 0, .int .i64 0, .int .i64 0, .nilm, .int .i64 0, .int .i64 0, .int .i64 0, .bool false, .int .i64 0, .int .i64 0, .str [], .int .i64 0, .int .i64 0, .int .i64 0, .int .i64 0, .nilm, .int .i64 0, .int .i64 0, .int .i64 0, .bool false, .int .i64 0, .int .i64 0, .str [], .int .i64 0, .int .i64 0, .int .i64 0, .int .i64 0, .nilm, .int .i64 0, .int .i64 0, .int .i64 0, .bool false, .int .i64 0, .int .i64 0, .str [], .int .i64 0, .int .i64 0, .int .i64 0, .int .i64 0, .nilm, .int .i64 0, .int .i64 0, .int .i64 0, .bool false, .int .i64 0, .int .i64 0, .str [], .int .i64 0, .int .i64 0, .int .i64 0, .int .i64 0, .nilm, .int .i64 0, .int .i64 0, .int .i64 0, .bool false, .int .i64 0, .int .i64 0, .str [], .int .i64 0, .int .i64 0, .int .i64 0, .int .i64 0, .nilm, .int .i64 0, .int .i64 0, .int .i64 0, .bool false, .int .i64 0, .int .i64 0, .str [], .int .i64 0, .int .i64 0, .int .i64 0, .int .i64 0, .nilm, .int .i64 0, .int .i64 0, .int .i64 0, .bool false, .int .i64 0, .int .i64 0, .str [], .int .i64 0, .int .i64 0, .int .i64 0, .int .i64 0, .nilm, .int .i64 0, .int .i64 0, .int .i64 0, .bool false, .int .i64 0, .int .i64 0, .str [], .int .i64 0, .int .i64 0, .int .i64 0, .int .i64 0, .nilm, .int .i64 0, .int .i64 0, .int .i64 0, .bool false, .int .i64 0, .int .i64 0, .str [], .int .i64 0, .int .i64 0, .int .i64 0, .int .i64 0, .nilm, .int .i64 0, .int .i64 0, .int .i64 0, .bool false, .int .i64 0, .int .i64 0, .str [], .int .i64 0, .int .i64 0, .int .i64 0, .int .i64 0, .nilm, .int .i64 0, .int .i64 0, .int .i64 0, .bool false, .int .i64 0, .int .i64 0, .str [], .int .i64 0, .int .i64 0, .int .i64 0, .int .i64 0, .nilm, .int .i64 0, .int .i64 0, .int .i64 0, .bool false, .int .i64 0, .int .i64 0, .str [], .int .i64 0, .int .i64 0, .int .i64 0, .int .i64 0, .nilm, .int .i64 0, .int .i64 0, .int .i64 0, .bool false, .int .i64 0, .int .i64 0, .str [], .int .i64 0, .int .i64 0, .int .i64 0, .int .i64 0, .nilm, .int .i64 0, .int .i64 0, .int .i64 0, .bool false, .int .i64 0, .int .i64 0, .str [], .int .i64 0, .int .i64 0, .int .i64 0, .int .i64 0, .nilm, .int .i64 0, .int .i64 0, .int .i64 0], .none⟩])
  (.seq (.reg [⟨some 9, none, .ld (.s 4) 192 true, .none⟩,
      ⟨some 10, none, .mv (.s 1), .none⟩,
      ⟨some 11, none, .fn (.func 56) [] [.s 6, .s 7], .none⟩,
      ⟨some 12, none, .call 53 [.s 9, .s 10, .s 11] 0, .none⟩,
      ⟨none, none, .st (.s 8) (.s 12) 192, .none⟩])
  (.ret none)))
def ir36 : F := { n := 13, res := [.cell 8 192 true], body := bd36 }
@[go_sem] theorem n36 : ir36.n = 13 := rfl
@[go_sem] theorem r36 : ir36.res = [.cell 8 192 true] := rfl
@[go_sem] theorem b36 : ir36.body = bd36 := rfl
@[go_sem] theorem ks37_0 (v0 v1 v2 v3 v4 v5 v6 v7 v8 v9 v10 v11 v12 v13 v14 v15 v16 v17 v18 v19 v20 v21 v22 v23 v24 v25 v26 v27 v28 v29 v30 v31 v32 v33 v34 v35 v36 v37 v38 v39 v40 v41 v42 v43 v44 v45 v46 v47 v48 v49 v50 v51 v52 : AV) : keepS [0, 1, 2, 8] [v0, v1, v2, v3, v4, v5, v6, v7, v8, v9, v10, v11, v12, v13, v14, v15, v16, v17, v18, v19, v20, v21, v22, v23, v24, v25, v26, v27, v28, v29, v30, v31, v32, v33, v34, v35, v36, v37, v38, v39, v40, v41, v42, v43, v44, v45, v46, v47, v48, v49, v50, v51, v52] 0 = [v0, v1, v2, .unk, .unk, .unk, .unk, .unk, v8, .unk, .unk, .unk, .unk, .unk, .unk, .unk, .unk, .unk, .unk, .unk, .unk, .unk, .unk, .unk, .unk, .unk, .unk, .unk, .unk, .unk, .unk, .unk, .unk, .unk, .unk, .unk, .unk, .unk, .unk, .unk, .unk, .unk, .unk, .unk, .unk, .unk, .unk, .unk, .unk, .unk, .unk, .unk, .unk] := rfl
@[go_sem] theorem ks37_1 (v0 v1 v2 v3 v4 v5 v6 v7 v8 v9 v10 v11 v12 v13 v14 v15 v16 v17 v18 v19 v20 v21 v22 v23 v24 v25 v26 v27 v28 v29 v30 v31 v32 v33 v34 v35 v36 v37 v38 v39 v40 v41 v42 v43 v44 v45 v46 v47 v48 v49 v50 v51 v52 : AV) : keepS [0, 1, 8] [v0, v1, v2, v3, v4, v5, v6, v7, v8, v9, v10, v11, v12, v13, v14, v15, v16, v17, v18, v19, v20, v21, v22, v23, v24, v25, v26, v27, v28, v29, v30, v31, v32, v33, v34, v35, v36, v37, v38, v39, v40, v41, v42, v43, v44, v45, v46, v47, v48, v49, v50, v51, v52] 0 = [v0, v1, .unk, .unk, .unk, .unk, .unk, .unk, v8, .unk, .unk, .unk, .unk, .unk, .unk, .unk, .unk, .unk, .unk, .unk, .unk, .unk, .unk, .unk, .unk, .unk, .unk, .unk, .unk, .unk, .unk, .unk, .unk, .unk, .unk, .unk, .unk, .unk, .unk, .unk, .unk, .unk, .unk, .unk, .unk, .unk, .unk, .unk, .unk, .unk, .unk, .unk, .unk] := rfl
/-- (*spence/spenceref17.Index).Forget -/
def bd37 : C :=
  (.seq (.reg [⟨some 7, none, .box 26 (.s 3), .none⟩])
  (.seq (.seq (.reg [⟨some 9, none, .mv (.s 1), .none⟩,
       ⟨some 10, none, .bin .lss (.s 9) (.c (.d (.int .i64 0))), .none⟩,
       ⟨some 11, none, .mv (.s 10), .none⟩,
       ⟨some 12, some (11, false), .mv (.s 1), .none⟩,
       ⟨some 13, some (11, false), .bin .gtr (.s 12) (.c (.d (.int .i64 15))), .none⟩,
       ⟨some 14, none, .pick (.s 11) (.c (.d (.bool true))) (.s 13), .none⟩])
   (.cond (.s 14)
    (.ret none)
    .skip))
  (.seq (.reg [⟨some 15, none, .mv (.s 0), .none⟩,
      ⟨some 16, none, .mv (.s 1), .none⟩,
      ⟨some 17, none, .nc (.s 15), .none⟩,
      ⟨some 18, none, .fa (.s 17) 0, .none⟩,
      ⟨some 19, none, .ia (.s 18) (.s 16) 16 12, .none⟩,
      ⟨some 20, none, .ld (.s 19) 12 true, .none⟩,
      ⟨some 8, none, .alloc 60 [.bool false, .int .i64 0, .int .i64 0, .str [], .int .i64 0, .int .i64 0, .int .i64 0, .int .i64 0, .nils, .int .i64 0, .int .i64 0, .int .i64 0], .cells [(8, 3, false)]⟩,
      ⟨none, none, .st (.s 8) (.s 20) 12, .none⟩])
  (.seq (.seq (.reg [⟨some 21, none, .mv (.s 2), .none⟩,
       ⟨some 22, none, .bin .gtr (.s 21) (.c (.d (.int .i64 0))), .none⟩,
       ⟨some 23, none, .mv (.s 22), .none⟩,
       ⟨some 24, some (23, true), .mv (.s 2), .none⟩,
       ⟨some 25, some (23, true), .fa (.s 8) 9, .none⟩,
       ⟨some 26, some (23, true), .ld (.s 25) 1 false, .none⟩,
       ⟨some 27, some (23, true), .bin .geq (.s 24) (.s 26), .none⟩,
       ⟨some 28, none, .pick (.s 23) (.s 27) (.c (.d (.bool false))), .none⟩])
   (.cond (.s 28)
    (.seq (.reg [⟨some 29, none, .mv (.s 2), .none⟩,
        ⟨some 30, none, .fa (.s 8) 9, .none⟩,
        ⟨none, none, .st (.s 30) (.s 29) 1, .none⟩])
    (.reg [⟨some 31, none, .ld (.s 7) 2 true, .none⟩,
       ⟨some 32, none, .fa (.s 8) 10, .none⟩,
       ⟨none, none, .st (.s 32) (.s 31) 2, .none⟩]))
    .skip))
  (.ann [0, 1, 2, 8] (.seq (.seq (.reg [⟨some 33, none, .fa (.s 8) 0, .none⟩,
       ⟨some 34, none, .ld (.s 33) 1 false, .none⟩,
       ⟨some 35, none, .mv (.s 34), .none⟩,
       ⟨some 36, some (35, true), .fa (.s 8) 1, .none⟩,
       ⟨some 37, some (35, true), .fa (.s 36) 1, .none⟩,
       ⟨some 38, some (35, true), .ld (.s 37) 1 false, .none⟩,
       ⟨some 39, some (35, true), .mv (.s 2), .none⟩,
       ⟨some 40, some (35, true), .bin .leq (.s 38) (.s 39), .none⟩,
       ⟨some 41, none, .pick (.s 35) (.s 40) (.c (.d (.bool false))), .none⟩])
   (.cond (.s 41)
    (.reg [⟨some 42, none, .fa (.s 8) 9, .none⟩,
       ⟨some 43, none, .ld (.s 42) 1 false, .none⟩,
       ⟨some 44, none, .fa (.s 8) 10, .none⟩,
       ⟨some 45, none, .ld (.s 44) 2 true, .none⟩,
       ⟨some 46, none, .build [.bool false, .int .i64 0, .int .i64 0, .str [], .int .i64 0, .int .i64 0, .int .i64 0, .int .i64 0, .nils, .int .i64 0, .int .i64 0, .int .i64 0] [(9, (1, .s 43)), (10, (2, .s 45))], .cells [(8, 3, false)]⟩,
       ⟨none, none, .st (.s 8) (.s 46) 12, .none⟩])
    .skip))
  (.ann [0, 1, 8] (.drw [⟨some 47, none, .mv (.s 0), .none⟩,
     ⟨some 48, none, .mv (.s 1), .none⟩,
     ⟨some 49, none, .ld (.s 8) 12 true, .none⟩,
     ⟨some 50, none, .nc (.s 47), .none⟩,
     ⟨some 51, none, .fa (.s 50) 0, .none⟩,
     ⟨some 52, none, .ia (.s 51) (.s 48) 16 12, .none⟩,
     ⟨none, none, .st (.s 52) (.s 49) 12, .none⟩]
    [[], [], [], [0], [3], [4, 1, 0, 1, 2], [5, 2, 0, 1, 2]] []))))))))
def ir37 : F := { n := 53, res := [], body := bd37 }
@[go_sem] theorem n37 : ir37.n = 53 := rfl
@[go_sem] theorem r37 : ir37.res = [] := rfl
@[go_sem] theorem b37 : ir37.body = bd37 := rfl
/-- (spence/index.Index).Bound -/
def bd38 : C :=
  (.seq (.reg [⟨some 3, none, .box 39 (.s 0), .none⟩,
      ⟨some 4, none, .box 33 (.s 1), .none⟩,
      ⟨some 5, none, .box 26 (.s 2), .none⟩,
      ⟨some 6, none, .alloc 39 [.bool false, .int .i64 0, .int .i64 0, .str [], .int .i64 0, .int .i64 0, .int .i64 0, .int .i64 0, .nilm, .int .i64 0, .int .i64 0, .int .i64 0, .bool false, .int .i64 0, .int .i64 0, .str [], .int .i64 0, .int .i64 0, .int .i64 0, .int .i64 0, .nilm, .int .i64 0, .int .i64 0, .int .i64 0, .bool false, .int .i64 0, .int .i64 0, .str [], .int .i64 0, .int .i64 0, .int .i64 0, .int .i64 0, .nilm, .int .i64 0, .int .i64 0, .int .i64 0, .bool false, .int .i64 0, .int .i64 0, .str [], .int .i64 0, .int .i64 0, .int .i64 0, .int .i64 0, .nilm, .int .i64 0, .int .i64 0, .int .i64 0, .bool false, .int .i64 0, .int .i64 0, .str [], .int .i64 0, .int .i64 0, .int .i64 0, .int .i64 0, .nilm, .int .i64 0, .int .i64 0, .int .i64 0, .bool false, .int .i64 0, .int .i64 0, .str [], .int .i64 0, .int .i64 0, .int .i64 0, .int .i64 0, .nilm, .int .i64 0, .int .i64 0, .int .i64 0, .bool false, .int .i64 0, .int .i64 0, .str [], .int .i64 0, .int .i64 0, .int .i64 0, .int .i64 0, .nilm, .int .i64 0, .int .i64 0, .int .i64 0, .bool false, .int .i64 0, .int .i64 0, .str [], .int .i64 0, .int .i64 0, .int .i64 0, .int .i64 0, .nilm, .int .i64 0, .int .i64 0, .int .i64 0, .bool false, .int .i64 0, .int .i64 0, .str [], .int .i64 0, .int .i64 0, .int .i64 0, .int .i64 0, .nilm, .int .i64 0, .int .i64 0, .int .i64 0, .bool false, .int .i64 0, .int .i64 0, .str [], .int .i64 0, .int .i64 0, .int .i64 0, .int .i64 0, .nilm, .int .i64 0, .int .i64 0, .int .i64 0, .bool false, .int .i64 0, .int .i64 0, .str [], .int .i64 0, .int .i64 0, .int .i64 0, .int .i64 0, .nilm, .int .i64 0, .int .i64 0, .int .i64 0, .bool false, .int .i64 0, .int .i64 0, .str [], .int .i64 0, .int .i64 0, .int .i64 0, .int .i64 0, .nilm, .int .i64 0, .int .i64 0, .int .i64 0, .bool false, .int .i64 0, .int .i64 0, .str [], .int .i64 0, .int .i64 0, .int .i64 0, .int .i64 0, .nilm, .int .i64 0, .int .i64 0, .int .i64 0, .bool false, .int .i64 0, .int .i64 0, .str [], .int .i64 0, .int .i64 0, .int .i64 0, .int .i64 0, .nilm, .int .i64 0, .int .i64 0, .int .i64 0, .bool false, .int .i64 0, .int .i64 0, .str [], .int .i64 0, .int .i64 0, .int .i64 0, .int .i64 0, .nilm, .int .i64 0, .int .i64 0, .int .i64 0, .bool false, .int .i64 0, .int .i64 0, .str [], .int .i64 0, .int .i64 0, .int .i64 0, .int .i64 0, .nilm, .int .i64 0, .int .i64 0, .int .i64 0], .none⟩])
  (.seq (.reg [⟨some 7, none, .ld (.s 3) 192 true, .none⟩,
      ⟨some 8, none, .fa (.s 4) 0, .none⟩,
      ⟨some 9, none, .ld (.s 8) 1 false, .none⟩,
      ⟨some 10, none, .fn (.func 57) [] [.s 4, .s 5], .none⟩,
      ⟨some 11, none, .call 53 [.s 7, .s 9, .s 10] 0, .none⟩,
      ⟨none, none, .st (.s 6) (.s 11) 192, .none⟩])
  (.ret none)))
def ir38 : F := { n := 12, res := [.cell 6 192 true], body := bd38 }
@[go_sem] theorem n38 : ir38.n = 12 := rfl
@[go_sem] theorem r38 : ir38.res = [.cell 6 192 true] := rfl
@[go_sem] theorem b38 : ir38.body = bd38 := rfl
/-- (*spence/spenceref17.Index).Bound -/
def bd39 : C :=
  (.seq (.reg [⟨some 4, none, .box 33 (.s 1), .none⟩,
      ⟨some 5, none, .box 26 (.s 2), .none⟩])
  (.seq (.seq (.reg [⟨some 7, none, .fa (.s 4) 0, .none⟩,
       ⟨some 8, none, .ld (.s 7) 1 false, .none⟩,
       ⟨some 9, none, .bin .lss (.s 8) (.c (.d (.int .i64 0))), .none⟩,
       ⟨some 10, none, .mv (.s 9), .none⟩,
       ⟨some 11, some (10, false), .fa (.s 4) 0, .none⟩,
       ⟨some 12, some (10, false), .ld (.s 11) 1 false, .none⟩,
       ⟨some 13, some (10, false), .bin .gtr (.s 12) (.c (.d (.int .i64 15))), .none⟩,
       ⟨some 14, none, .pick (.s 10) (.c (.d (.bool true))) (.s 13), .none⟩])
   (.cond (.s 14)
    (.ret none)
    .skip))
  (.seq (.drr [⟨some 15, none, .mv (.s 0), .none⟩,
      ⟨some 16, none, .fa (.s 4) 0, .none⟩,
      ⟨some 17, none, .ld (.s 16) 1 false, .none⟩,
      ⟨some 18, none, .nc (.s 15), .none⟩,
      ⟨some 19, none, .fa (.s 18) 0, .none⟩,
      ⟨some 20, none, .ia (.s 19) (.s 17) 16 12, .none⟩,
      ⟨some 21, none, .ld (.s 20) 12 true, .none⟩,
      ⟨some 6, none, .alloc 60 [.bool false, .int .i64 0, .int .i64 0, .str [], .int .i64 0, .int .i64 0, .int .i64 0, .int .i64 0, .nils, .int .i64 0, .int .i64 0, .int .i64 0], .res [(8, 3, false)]⟩,
      ⟨none, none, .st (.s 6) (.s 21) 12, .none⟩]
     [[], [], [1], [0], [3], [4, 2], [5], [], [7, 6, 0, 1, 2, 3, 4, 5, 6, 7]] [] [] [])
  (.seq (.seq (.reg [⟨some 22, none, .fa (.s 4) 1, .none⟩,
       ⟨some 23, none, .ld (.s 22) 1 false, .none⟩,
       ⟨some 24, none, .fa (.s 6) 9, .none⟩,
       ⟨some 25, none, .ld (.s 24) 1 false, .none⟩,
       ⟨some 26, none, .bin .leq (.s 23) (.s 25), .none⟩])
   (.cond (.s 26)
    (.ret none)
    .skip))
  (.seq (.seq (.reg [⟨some 27, none, .fa (.s 6) 0, .none⟩,
       ⟨some 28, none, .ld (.s 27) 1 false, .none⟩,
       ⟨some 29, none, .un .not (.s 28), .none⟩,
       ⟨some 30, none, .mv (.s 29), .none⟩,
       ⟨some 31, some (30, false), .fa (.s 4) 1, .none⟩,
       ⟨some 32, some (30, false), .ld (.s 31) 1 false, .none⟩,
       ⟨some 33, some (30, false), .fa (.s 6) 1, .none⟩,
       ⟨some 34, some (30, false), .fa (.s 33) 1, .none⟩,
       ⟨some 35, some (30, false), .ld (.s 34) 1 false, .none⟩,
       ⟨some 36, some (30, false), .bin .gtr (.s 32) (.s 35), .none⟩,
       ⟨some 37, none, .pick (.s 30) (.c (.d (.bool true))) (.s 36), .none⟩])
   (.cond (.s 37)
    (.seq (.drw [⟨some 38, none, .mv (.s 0), .none⟩,
        ⟨some 39, none, .fa (.s 4) 0, .none⟩,
        ⟨some 40, none, .ld (.s 39) 1 false, .none⟩,
        ⟨some 41, none, .ld (.s 4) 5 true, .none⟩,
        ⟨some 42, none, .ld (.s 5) 2 true, .none⟩,
        ⟨some 43, none, .fa (.s 6) 9, .none⟩,
        ⟨some 44, none, .ld (.s 43) 1 false, .none⟩,
        ⟨some 45, none, .fa (.s 6) 10, .none⟩,
        ⟨some 46, none, .ld (.s 45) 2 true, .none⟩,
        ⟨some 47, none, .build [.bool false, .int .i64 0, .int .i64 0, .str [], .int .i64 0, .int .i64 0, .int .i64 0, .int .i64 0, .nils, .int .i64 0, .int .i64 0, .int .i64 0] [(0, (1, .c (.d (.bool true)))), (1, (5, .s 41)), (6, (2, .s 42)), (9, (1, .s 44)), (10, (2, .s 46))], .cells [(8, 3, false)]⟩,
        ⟨some 48, none, .nc (.s 38), .none⟩,
        ⟨some 49, none, .fa (.s 48) 0, .none⟩,
        ⟨some 50, none, .ia (.s 49) (.s 40) 16 12, .none⟩,
        ⟨none, none, .st (.s 50) (.s 47) 12, .none⟩]
       [[], [], [1], [], [], [], [5], [], [7], [3, 4, 6, 8], [0], [10], [11, 2, 0, 1, 2, 3, 4, 5, 6, 7, 8, 9], [12, 9, 0, 1, 2, 3, 4, 5, 6, 7, 8, 9]] [])
    (.ret none))
    .skip))
  (.seq (.reg [⟨some 51, none, .fa (.s 4) 1, .none⟩,
      ⟨some 52, none, .ld (.s 51) 1 false, .none⟩,
      ⟨some 53, none, .fa (.s 6) 1, .none⟩,
      ⟨some 54, none, .fa (.s 53) 1, .none⟩,
      ⟨some 55, none, .ld (.s 54) 1 false, .none⟩,
      ⟨some 56, none, .bin .eql (.s 52) (.s 55), .none⟩,
      ⟨some 57, none, .mv (.s 56), .none⟩,
      ⟨some 58, some (57, true), .fa (.s 4) 2, .none⟩,
      ⟨some 59, some (57, true), .ld (.s 58) 1 false, .none⟩,
      ⟨some 60, some (57, true), .fa (.s 6) 1, .none⟩,
      ⟨some 61, some (57, true), .fa (.s 60) 2, .none⟩,
      ⟨some 62, some (57, true), .ld (.s 61) 1 false, .none⟩,
      ⟨some 63, some (57, true), .bin .eql (.s 59) (.s 62), .none⟩,
      ⟨some 64, none, .pick (.s 57) (.s 63) (.c (.d (.bool false))), .none⟩,
      ⟨some 65, none, .mv (.s 64), .none⟩,
      ⟨some 66, some (65, true), .fa (.s 4) 3, .none⟩,
      ⟨some 67, some (65, true), .ld (.s 66) 1 false, .none⟩,
      ⟨some 68, some (65, true), .fa (.s 6) 1, .none⟩,
      ⟨some 69, some (65, true), .fa (.s 68) 3, .none⟩,
      ⟨some 70, some (65, true), .ld (.s 69) 1 false, .none⟩,
      ⟨some 71, some (65, true), .bin .eql (.s 67) (.s 70), .none⟩,
      ⟨some 72, none, .pick (.s 65) (.s 71) (.c (.d (.bool false))), .none⟩,
      ⟨some 73, none, .mv (.s 72), .none⟩,
      ⟨some 74, some (73, true), .fa (.s 4) 4, .none⟩,
      ⟨some 75, some (73, true), .ld (.s 74) 1 false, .none⟩,
      ⟨some 76, some (73, true), .fa (.s 6) 1, .none⟩,
      ⟨some 77, some (73, true), .fa (.s 76) 4, .none⟩,
      ⟨some 78, some (73, true), .ld (.s 77) 1 false, .none⟩,
      ⟨some 79, some (73, true), .bin .geq (.s 75) (.s 78), .none⟩,
      ⟨some 80, none, .pick (.s 73) (.s 79) (.c (.d (.bool false))), .none⟩])
  (.cond (.s 80)
   (.seq (.drw [⟨some 81, none, .mv (.s 0), .none⟩,
       ⟨some 82, none, .fa (.s 4) 0, .none⟩,
       ⟨some 83, none, .ld (.s 82) 1 false, .none⟩,
       ⟨some 84, none, .fa (.s 4) 4, .none⟩,
       ⟨some 85, none, .ld (.s 84) 1 false, .none⟩,
       ⟨some 86, none, .nc (.s 81), .none⟩,
       ⟨some 87, none, .fa (.s 86) 0, .none⟩,
       ⟨some 88, none, .ia (.s 87) (.s 83) 16 12, .none⟩,
       ⟨some 89, none, .fa (.s 88) 1, .none⟩,
       ⟨some 90, none, .fa (.s 89) 4, .none⟩,
       ⟨none, none, .st (.s 90) (.s 85) 1, .none⟩]
      [[], [], [1], [], [3], [0], [5], [6, 2, 0, 1, 2, 3, 4], [7, 0, 1, 2, 3, 4], [8, 0, 1, 2, 3, 4], [9, 4, 0, 1, 2, 3, 4]] [])
   (.drw [⟨some 91, none, .mv (.s 0), .none⟩,
      ⟨some 92, none, .fa (.s 4) 0, .none⟩,
      ⟨some 93, none, .ld (.s 92) 1 false, .none⟩,
      ⟨some 94, none, .ld (.s 5) 2 true, .none⟩,
      ⟨some 95, none, .nc (.s 91), .none⟩,
      ⟨some 96, none, .fa (.s 95) 0, .none⟩,
      ⟨some 97, none, .ia (.s 96) (.s 93) 16 12, .none⟩,
      ⟨some 98, none, .fa (.s 97) 6, .none⟩,
      ⟨none, none, .st (.s 98) (.s 94) 2, .none⟩]
     [[], [], [1], [], [0], [4], [5, 2, 0, 1, 2, 3], [6, 0, 1, 2, 3], [7, 3, 0, 1, 2, 3]] []))
   .skip)))))))
def ir39 : F := { n := 99, res := [], body := bd39 }
@[go_sem] theorem n39 : ir39.n = 99 := rfl
@[go_sem] theorem r39 : ir39.res = [] := rfl
@[go_sem] theorem b39 : ir39.body = bd39 := rfl
/-- (spence/index.Index).slot -/
def bd40 : C :=
  (.seq (.reg [⟨some 2, none, .box 39 (.s 0), .none⟩,
      ⟨some 4, none, .alloc 36 [.bool false, .int .i64 0, .int .i64 0, .str [], .int .i64 0, .int .i64 0, .int .i64 0, .int .i64 0, .nilm, .int .i64 0, .int .i64 0, .int .i64 0], .none⟩])
  (.seq (.seq (.reg [⟨some 5, none, .mv (.s 1), .none⟩,
       ⟨some 6, none, .call 58 [.s 5] 2, .none⟩,
       ⟨some 7, none, .un .not (.s 6), .none⟩])
   (.cond (.s 7)
    (.seq (.reg [⟨some 8, none, .build [.bool false, .int .i64 0, .int .i64 0, .str [], .int .i64 0, .int .i64 0, .int .i64 0, .int .i64 0, .nilm, .int .i64 0, .int .i64 0, .int .i64 0] [], .none⟩,
        ⟨none, none, .st (.s 4) (.s 8) 12, .none⟩])
    (.ret none))
    .skip))
  (.seq (.reg [⟨some 9, none, .mv (.s 1), .none⟩,
      ⟨some 10, none, .fa (.s 2) 0, .none⟩,
      ⟨some 11, none, .ia (.s 10) (.s 9) 16 12, .none⟩,
      ⟨some 12, none, .ld (.s 11) 12 true, .none⟩,
      ⟨none, none, .st (.s 4) (.s 12) 12, .none⟩])
  (.ret none))))
def ir40 : F := { n := 13, res := [.cell 4 12 true], body := bd40 }
@[go_sem] theorem n40 : ir40.n = 13 := rfl
@[go_sem] theorem r40 : ir40.res = [.cell 4 12 true] := rfl
@[go_sem] theorem b40 : ir40.body = bd40 := rfl
def lb41_0 : C :=
  (.seq (.reg [⟨some 9, none, .bin .lss (.s 8) (.s 7), .none⟩])
  (.seq (.cond (.s 9)
    .skip
    (.exit 0 (some [2, 3])))
  (.seq (.block 1 (.seq (.reg [⟨some 10, none, .is (.s 6) (.s 8) 1, .none⟩,
        ⟨some 11, none, .ld (.s 10) 1 false, .none⟩,
        ⟨some 5, none, .mv (.s 11), .none⟩])
    (.reg [⟨some 12, none, .ld (.s 3) 65 true, .none⟩,
       ⟨some 13, none, .mv (.s 5), .none⟩,
       ⟨some 14, none, .call 59 [.s 12, .s 13] 2, .none⟩,
       ⟨none, none, .st (.s 3) (.s 14) 65, .none⟩])))
  (.reg [⟨some 15, none, .bin .add (.s 8) (.c (.d (.int .i64 1))), .none⟩,
     ⟨some 8, none, .mv (.s 15), .none⟩]))))
def lp41_0 : C := lb41_0
theorem u41_0 (c : Ev.Callee) (l : Ev.Looper) (s : St) : evC c l lp41_0 s = evC c l lb41_0 s := rfl
abbrev st41_0 (m : Nat) (s2 s3 s6 s7 s8 : AV) (h : Heap) : St := ⟨m, [.unk, .unk, s2, s3, .unk, .unk, s6, s7, s8, .unk, .unk, .unk, .unk, .unk, .unk, .unk, .unk], h⟩
@[go_sem] theorem ks41_0 (v0 v1 v2 v3 v4 v5 v6 v7 v8 v9 v10 v11 v12 v13 v14 v15 v16 : AV) : keepS [2, 3, 6, 7, 8] [v0, v1, v2, v3, v4, v5, v6, v7, v8, v9, v10, v11, v12, v13, v14, v15, v16] 0 = [.unk, .unk, v2, v3, .unk, .unk, v6, v7, v8, .unk, .unk, .unk, .unk, .unk, .unk, .unk, .unk] := rfl
@[go_sem] theorem ks41_1 (v0 v1 v2 v3 v4 v5 v6 v7 v8 v9 v10 v11 v12 v13 v14 v15 v16 : AV) : keepS [2, 3] [v0, v1, v2, v3, v4, v5, v6, v7, v8, v9, v10, v11, v12, v13, v14, v15, v16] 0 = [.unk, .unk, v2, v3, .unk, .unk, .unk, .unk, .unk, .unk, .unk, .unk, .unk, .unk, .unk, .unk, .unk] := rfl
/-- spence/bitmap.Of -/
def bd41 : C :=
  (.seq (.reg [⟨some 2, none, .alloc 54 [.int .u64 0, .int .u64 0, .int .u64 0, .int .u64 0, .int .u64 0, .int .u64 0, .int .u64 0, .int .u64 0, .int .u64 0, .int .u64 0, .int .u64 0, .int .u64 0, .int .u64 0, .int .u64 0, .int .u64 0, .int .u64 0, .int .u64 0, .int .u64 0, .int .u64 0, .int .u64 0, .int .u64 0, .int .u64 0, .int .u64 0, .int .u64 0, .int .u64 0, .int .u64 0, .int .u64 0, .int .u64 0, .int .u64 0, .int .u64 0, .int .u64 0, .int .u64 0, .int .u64 0, .int .u64 0, .int .u64 0, .int .u64 0, .int .u64 0, .int .u64 0, .int .u64 0, .int .u64 0, .int .u64 0, .int .u64 0, .int .u64 0, .int .u64 0, .int .u64 0, .int .u64 0, .int .u64 0, .int .u64 0, .int .u64 0, .int .u64 0, .int .u64 0, .int .u64 0, .int .u64 0, .int .u64 0, .int .u64 0, .int .u64 0, .int .u64 0, .int .u64 0, .int .u64 0, .int .u64 0, .int .u64 0, .int .u64 0, .int .u64 0, .int .u64 0, .int .u64 0], .none⟩])
  (.seq (.reg [⟨some 3, none, .alloc 54 [.int .u64 0, .int .u64 0, .int .u64 0, .int .u64 0, .int .u64 0, .int .u64 0, .int .u64 0, .int .u64 0, .int .u64 0, .int .u64 0, .int .u64 0, .int .u64 0, .int .u64 0, .int .u64 0, .int .u64 0, .int .u64 0, .int .u64 0, .int .u64 0, .int .u64 0, .int .u64 0, .int .u64 0, .int .u64 0, .int .u64 0, .int .u64 0, .int .u64 0, .int .u64 0, .int .u64 0, .int .u64 0, .int .u64 0, .int .u64 0, .int .u64 0, .int .u64 0, .int .u64 0, .int .u64 0, .int .u64 0, .int .u64 0, .int .u64 0, .int .u64 0, .int .u64 0, .int .u64 0, .int .u64 0, .int .u64 0, .int .u64 0, .int .u64 0, .int .u64 0, .int .u64 0, .int .u64 0, .int .u64 0, .int .u64 0, .int .u64 0, .int .u64 0, .int .u64 0, .int .u64 0, .int .u64 0, .int .u64 0, .int .u64 0, .int .u64 0, .int .u64 0, .int .u64 0, .int .u64 0, .int .u64 0, .int .u64 0, .int .u64 0, .int .u64 0, .int .u64 0], .none⟩])
  (.seq (.seq (.reg [⟨some 6, none, .mv (.s 0), .none⟩,
       ⟨some 7, none, .len (.s 6), .none⟩,
       ⟨some 8, none, .mv (.c (.d (.int .i64 0))), .none⟩])
   (.block 0 (.loop [2, 3, 6, 7, 8] lp41_0)))
  (.seq (.reg [⟨some 16, none, .ld (.s 3) 65 true, .none⟩,
      ⟨none, none, .st (.s 2) (.s 16) 65, .none⟩])
  (.ret none)))))
def ir41 : F := { n := 17, res := [.cell 2 65 true], body := bd41 }
@[go_sem] theorem n41 : ir41.n = 17 := rfl
@[go_sem] theorem r41 : ir41.res = [.cell 2 65 true] := rfl
@[go_sem] theorem b41 : ir41.body = bd41 := rfl
/-- maps.Keys[map[int]spence/api.Addr,int,spence/api.Addr] -/
def bd43 : C :=
  (.seq (.reg [⟨some 1, none, .box 34 (.s 0), .none⟩,
      ⟨some 2, none, .mv (.c (.d .nilf)), .none⟩])
  (.seq (.reg [⟨some 3, none, .fn (.func 62) [] [.s 1], .none⟩,
      ⟨some 2, none, .mv (.s 3), .none⟩])
  (.ret none)))
def ir43 : F := { n := 4, res := [.tmp 2], body := bd43 }
@[go_sem] theorem n43 : ir43.n = 4 := rfl
@[go_sem] theorem r43 : ir43.res = [.tmp 2] := rfl
@[go_sem] theorem b43 : ir43.body = bd43 := rfl
/-- math/bits.OnesCount64 -/
def bd44 : C :=
  (.seq (.reg [⟨some 2, none, .mv (.c (.d (.int .i64 0))), .none⟩])
  (.seq (.reg [⟨some 3, none, .mv (.s 0), .none⟩,
      ⟨some 4, none, .bin .shr (.s 3) (.c (.d (.int .u64 1))), .none⟩,
      ⟨some 5, none, .bin .and (.s 4) (.c (.d (.int .u64 6148914691236517205))), .none⟩,
      ⟨some 6, none, .mv (.s 0), .none⟩,
      ⟨some 7, none, .bin .and (.s 6) (.c (.d (.int .u64 6148914691236517205))), .none⟩,
      ⟨some 8, none, .bin .add (.s 5) (.s 7), .none⟩,
      ⟨some 0, none, .mv (.s 8), .none⟩])
  (.seq (.reg [⟨some 9, none, .mv (.s 0), .none⟩,
      ⟨some 10, none, .bin .shr (.s 9) (.c (.d (.int .u64 2))), .none⟩,
      ⟨some 11, none, .bin .and (.s 10) (.c (.d (.int .u64 3689348814741910323))), .none⟩,
      ⟨some 12, none, .mv (.s 0), .none⟩,
      ⟨some 13, none, .bin .and (.s 12) (.c (.d (.int .u64 3689348814741910323))), .none⟩,
      ⟨some 14, none, .bin .add (.s 11) (.s 13), .none⟩,
      ⟨some 0, none, .mv (.s 14), .none⟩])
  (.seq (.reg [⟨some 15, none, .mv (.s 0), .none⟩,
      ⟨some 16, none, .bin .shr (.s 15) (.c (.d (.int .u64 4))), .none⟩,
      ⟨some 17, none, .mv (.s 0), .none⟩,
      ⟨some 18, none, .bin .add (.s 16) (.s 17), .none⟩,
      ⟨some 19, none, .bin .and (.s 18) (.c (.d (.int .u64 1085102592571150095))), .none⟩,
      ⟨some 0, none, .mv (.s 19), .none⟩])
  (.seq (.reg [⟨some 20, none, .mv (.s 0), .none⟩,
      ⟨some 21, none, .mv (.s 0), .none⟩,
      ⟨some 22, none, .bin .shr (.s 21) (.c (.d (.int .u64 8))), .none⟩,
      ⟨some 23, none, .bin .add (.s 20) (.s 22), .none⟩,
      ⟨some 0, none, .mv (.s 23), .none⟩])
  (.seq (.reg [⟨some 24, none, .mv (.s 0), .none⟩,
      ⟨some 25, none, .mv (.s 0), .none⟩,
      ⟨some 26, none, .bin .shr (.s 25) (.c (.d (.int .u64 16))), .none⟩,
      ⟨some 27, none, .bin .add (.s 24) (.s 26), .none⟩,
      ⟨some 0, none, .mv (.s 27), .none⟩])
  (.seq (.reg [⟨some 28, none, .mv (.s 0), .none⟩,
      ⟨some 29, none, .mv (.s 0), .none⟩,
      ⟨some 30, none, .bin .shr (.s 29) (.c (.d (.int .u64 32))), .none⟩,
      ⟨some 31, none, .bin .add (.s 28) (.s 30), .none⟩,
      ⟨some 0, none, .mv (.s 31), .none⟩])
  (.seq (.reg [⟨some 32, none, .mv (.s 0), .none⟩,
      ⟨some 33, none, .cvi .i64 (.s 32), .none⟩,
      ⟨some 34, none, .bin .and (.s 33) (.c (.d (.int .i64 127))), .none⟩,
      ⟨some 2, none, .mv (.s 34), .none⟩])
  (.ret none)))))))))
def ir44 : F := { n := 35, res := [.tmp 2], body := bd44 }
@[go_sem] theorem n44 : ir44.n = 35 := rfl
@[go_sem] theorem r44 : ir44.res = [.tmp 2] := rfl
@[go_sem] theorem b44 : ir44.body = bd44 := rfl
/-- spence/bitmap.Within -/
def bd45 : C :=
  (.seq (.reg [⟨some 2, none, .box 54 (.s 0), .none⟩,
      ⟨some 3, none, .box 54 (.s 1), .none⟩,
      ⟨some 4, none, .mv (.c (.d (.bool false))), .none⟩])
  (.seq (.drw [⟨some 5, none, .ld (.s 2) 65 true, .none⟩,
      ⟨some 6, none, .ld (.s 3) 65 true, .none⟩,
      ⟨some 7, none, .call 63 [.s 5, .s 6] 2, .none⟩,
      ⟨some 8, none, .ld (.s 2) 65 true, .none⟩,
      ⟨some 9, none, .eqs false [1, 1, 1, 1, 1, 1, 1, 1, 1, 1, 1, 1, 1, 1, 1, 1, 1, 1, 1, 1, 1, 1, 1, 1, 1, 1, 1, 1, 1, 1, 1, 1, 1, 1, 1, 1, 1, 1, 1, 1, 1, 1, 1, 1, 1, 1, 1, 1, 1, 1, 1, 1, 1, 1, 1, 1, 1, 1, 1, 1, 1, 1, 1, 1, 1] (.s 7) (.s 8), .none⟩,
      ⟨some 4, none, .mv (.s 9), .none⟩]
     [[], [], [0, 1], [], [2, 3], [4, 2, 0, 1, 2, 3, 4]] [])
  (.ret none)))
def ir45 : F := { n := 10, res := [.tmp 4], body := bd45 }
@[go_sem] theorem n45 : ir45.n = 10 := rfl
@[go_sem] theorem r45 : ir45.res = [.tmp 4] := rfl
@[go_sem] theorem b45 : ir45.body = bd45 := rfl
/-- spence/spenceref17.begin -/
def bd46 : C :=
  (.seq (.reg [⟨some 4, none, .mv (.c (.d .nils)), .one 1 true⟩])
  (.seq (.reg [⟨some 5, none, .mv (.s 0), .none⟩,
      ⟨some 6, none, .cvi .u8 (.s 5), .none⟩,
      ⟨some 7, none, .bsl 5 1 1 [.int .u8 0] [(0, (1, .s 6))], .none⟩,
      ⟨some 8, none, .mv (.s 1), .none⟩,
      ⟨some 9, none, .cvi .u64 (.s 8), .none⟩,
      ⟨some 10, none, .call 47 [.s 9, .c (.d (.int .i64 4))] 2, .none⟩,
      ⟨some 11, none, .app 5 1 1 (.s 7) (.s 10), .none⟩,
      ⟨some 4, none, .mv (.s 11), .none⟩])
  (.ret none)))
def ir46 : F := { n := 12, res := [.tmp 4], body := bd46 }
@[go_sem] theorem n46 : ir46.n = 12 := rfl
@[go_sem] theorem r46 : ir46.res = [.tmp 4] := rfl
@[go_sem] theorem b46 : ir46.body = bd46 := rfl
def lb47_0 : C :=
  (.seq (.seq (.reg [⟨some 7, none, .mv (.s 6), .none⟩,
       ⟨some 8, none, .bin .lss (.s 7) (.c (.d (.int .i64 8))), .none⟩])
   (.cond (.s 8)
    .skip
    (.exit 0 (some [5]))))
  (.seq (.block 1 (.seq (.reg [⟨some 11, none, .mv (.s 6), .none⟩,
        ⟨some 12, none, .mv (.s 1), .none⟩,
        ⟨some 13, none, .bin .sub (.c (.d (.int .i64 8))) (.s 12), .none⟩,
        ⟨some 14, none, .bin .geq (.s 11) (.s 13), .none⟩])
    (.cond (.s 14)
     (.reg [⟨some 15, none, .mv (.s 5), .none⟩,
        ⟨some 16, none, .mv (.s 0), .none⟩,
        ⟨some 17, none, .mv (.s 6), .none⟩,
        ⟨some 18, none, .bin .mul (.c (.d (.int .i64 8))) (.s 17), .none⟩,
        ⟨some 19, none, .bin .sub (.c (.d (.int .i64 56))) (.s 18), .none⟩,
        ⟨some 20, none, .bin .shr (.s 16) (.s 19), .none⟩,
        ⟨some 21, none, .cvi .u8 (.s 20), .none⟩,
        ⟨some 22, none, .bsl 5 1 1 [.int .u8 0] [(0, (1, .s 21))], .none⟩,
        ⟨some 23, none, .app 5 1 1 (.s 15) (.s 22), .none⟩,
        ⟨some 5, none, .mv (.s 23), .none⟩])
     .skip)))
  (.reg [⟨some 9, none, .mv (.s 6), .none⟩,
     ⟨some 10, none, .bin .add (.s 9) (.c (.d (.int .i64 1))), .none⟩,
     ⟨some 6, none, .mv (.s 10), .none⟩])))
def lp47_0 : C := lb47_0
theorem u47_0 (c : Ev.Callee) (l : Ev.Looper) (s : St) : evC c l lp47_0 s = evC c l lb47_0 s := rfl
abbrev st47_0 (m : Nat) (s0 s1 s5 s6 : AV) (h : Heap) : St := ⟨m, [s0, s1, .unk, .unk, .unk, s5, s6, .unk, .unk, .unk, .unk, .unk, .unk, .unk, .unk, .unk, .unk, .unk, .unk, .unk, .unk, .unk, .unk, .unk, .unk], h⟩
@[go_sem] theorem ks47_0 (v0 v1 v2 v3 v4 v5 v6 v7 v8 v9 v10 v11 v12 v13 v14 v15 v16 v17 v18 v19 v20 v21 v22 v23 v24 : AV) : keepS [0, 1, 5, 6] [v0, v1, v2, v3, v4, v5, v6, v7, v8, v9, v10, v11, v12, v13, v14, v15, v16, v17, v18, v19, v20, v21, v22, v23, v24] 0 = [v0, v1, .unk, .unk, .unk, v5, v6, .unk, .unk, .unk, .unk, .unk, .unk, .unk, .unk, .unk, .unk, .unk, .unk, .unk, .unk, .unk, .unk, .unk, .unk] := rfl
@[go_sem] theorem ks47_1 (v0 v1 v2 v3 v4 v5 v6 v7 v8 v9 v10 v11 v12 v13 v14 v15 v16 v17 v18 v19 v20 v21 v22 v23 v24 : AV) : keepS [5] [v0, v1, v2, v3, v4, v5, v6, v7, v8, v9, v10, v11, v12, v13, v14, v15, v16, v17, v18, v19, v20, v21, v22, v23, v24] 0 = [.unk, .unk, .unk, .unk, .unk, v5, .unk, .unk, .unk, .unk, .unk, .unk, .unk, .unk, .unk, .unk, .unk, .unk, .unk, .unk, .unk, .unk, .unk, .unk, .unk] := rfl
/-- spence/spenceref01.Lay -/
def bd47 : C :=
  (.seq (.reg [⟨some 4, none, .mv (.c (.d .nils)), .one 1 true⟩])
  (.seq (.reg [⟨some 5, none, .mv (.c (.d .nils)), .one 1 true⟩])
  (.seq (.seq (.reg [⟨some 6, none, .mv (.c (.d (.int .i64 0))), .none⟩])
   (.block 0 (.loop [0, 1, 5, 6] lp47_0)))
  (.seq (.reg [⟨some 24, none, .mv (.s 5), .none⟩,
      ⟨some 4, none, .mv (.s 24), .none⟩])
  (.ret none)))))
def ir47 : F := { n := 25, res := [.tmp 4], body := bd47 }
@[go_sem] theorem n47 : ir47.n = 25 := rfl
@[go_sem] theorem r47 : ir47.res = [.tmp 4] := rfl
@[go_sem] theorem b47 : ir47.body = bd47 := rfl
/-- (*spence/codec.reader).number -/
def bd48 : C :=
  (.seq (.reg [⟨some 4, none, .mv (.c (.d (.int .i64 0))), .none⟩])
  (.seq (.reg [⟨some 8, none, .mv (.s 0), .none⟩,
      ⟨some 9, none, .nc (.s 8), .none⟩,
      ⟨some 10, none, .fa (.s 9) 0, .none⟩,
      ⟨some 11, none, .ld (.s 10) 1 false, .none⟩,
      ⟨some 12, none, .mv (.s 1), .none⟩,
      ⟨some 13, none, .call 64 [.s 11, .c (.d (.int .i64 0)), .s 12] 2, .none⟩,
      ⟨some 7, none, .mv (.s 13), .none⟩,
      ⟨some 14, none, .ext (.s 7) 0, .none⟩,
      ⟨some 15, none, .ext (.s 7) 1, .none⟩,
      ⟨some 5, none, .mv (.s 14), .none⟩,
      ⟨some 6, none, .mv (.s 15), .none⟩])
  (.seq (.seq (.reg [⟨some 16, none, .mv (.s 6), .none⟩,
       ⟨some 17, none, .un .not (.s 16), .none⟩])
   (.cond (.s 17)
    (.seq (.reg [⟨some 18, none, .mv (.s 0), .none⟩,
        ⟨some 19, none, .nc (.s 18), .none⟩,
        ⟨some 20, none, .fa (.s 19) 1, .none⟩,
        ⟨none, none, .st (.s 20) (.c (.d (.bool false))) 1, .none⟩])
    (.seq (.reg [⟨some 4, none, .mv (.c (.d (.int .i64 0))), .none⟩])
    (.ret none)))
    .skip))
  (.seq (.reg [⟨some 21, none, .mv (.s 0), .none⟩,
      ⟨some 22, none, .mv (.s 0), .none⟩,
      ⟨some 23, none, .nc (.s 22), .none⟩,
      ⟨some 24, none, .fa (.s 23) 0, .none⟩,
      ⟨some 25, none, .ld (.s 24) 1 false, .none⟩,
      ⟨some 26, none, .mv (.s 1), .none⟩,
      ⟨some 27, none, .sl (.s 25) (some (.s 26)) none none 1, .none⟩,
      ⟨some 28, none, .nc (.s 21), .none⟩,
      ⟨some 29, none, .fa (.s 28) 0, .none⟩,
      ⟨none, none, .st (.s 29) (.s 27) 1, .none⟩])
  (.seq (.reg [⟨some 30, none, .mv (.s 5), .none⟩,
      ⟨some 31, none, .cvi .i64 (.s 30), .none⟩,
      ⟨some 4, none, .mv (.s 31), .none⟩])
  (.ret none))))))
def ir48 : F := { n := 32, res := [.tmp 4], body := bd48 }
@[go_sem] theorem n48 : ir48.n = 32 := rfl
@[go_sem] theorem r48 : ir48.res = [.tmp 4] := rfl
@[go_sem] theorem b48 : ir48.body = bd48 := rfl
/-- spence/codec.bind -/
def bd49 : C :=
  (.seq (.reg [⟨some 1, none, .box 33 (.s 0), .none⟩,
      ⟨some 2, none, .mv (.c (.d (.bool false))), .none⟩])
  (.seq (.reg [⟨some 3, none, .fa (.s 1) 0, .none⟩,
      ⟨some 4, none, .ld (.s 3) 1 false, .none⟩,
      ⟨some 5, none, .fa (.s 1) 1, .none⟩,
      ⟨some 6, none, .ld (.s 5) 1 false, .none⟩,
      ⟨some 7, none, .call 52 [.s 4, .s 6] 2, .none⟩,
      ⟨some 8, none, .mv (.s 7), .none⟩,
      ⟨some 9, some (8, true), .fa (.s 1) 3, .none⟩,
      ⟨some 10, some (8, true), .ld (.s 9) 1 false, .none⟩,
      ⟨some 11, some (8, true), .call 65 [.s 10, .c (.d (.int .i64 0)), .c (.d (.int .i64 4096))] 2, .none⟩,
      ⟨some 12, none, .pick (.s 8) (.s 11) (.c (.d (.bool false))), .none⟩,
      ⟨some 13, none, .mv (.s 12), .none⟩,
      ⟨some 14, some (13, true), .fa (.s 1) 4, .none⟩,
      ⟨some 15, some (13, true), .ld (.s 14) 1 false, .none⟩,
      ⟨some 16, some (13, true), .call 65 [.s 15, .c (.d (.int .i64 0)), .c (.d (.int .i64 4611686018427387903))] 2, .none⟩,
      ⟨some 17, none, .pick (.s 13) (.s 16) (.c (.d (.bool false))), .none⟩,
      ⟨some 18, none, .mv (.s 17), .none⟩,
      ⟨some 19, some (18, true), .fa (.s 1) 2, .none⟩,
      ⟨some 20, some (18, true), .ld (.s 19) 1 false, .none⟩,
      ⟨some 21, some (18, true), .build [.bool false, .str []] [(1, (1, .s 20))], .none⟩,
      ⟨some 22, some (18, true), .call 66 [.s 21] 2, .none⟩,
      ⟨some 23, none, .pick (.s 18) (.s 22) (.c (.d (.bool false))), .none⟩,
      ⟨some 2, none, .mv (.s 23), .none⟩])
  (.ret none)))
def ir49 : F := { n := 24, res := [.tmp 2], body := bd49 }
@[go_sem] theorem n49 : ir49.n = 24 := rfl
@[go_sem] theorem r49 : ir49.res = [.tmp 2] := rfl
@[go_sem] theorem b49 : ir49.body = bd49 := rfl
/-- spence/codec.piece -/
def bd51 : C :=
  (.seq (.reg [⟨some 1, none, .box 84 (.s 0), .none⟩,
      ⟨some 2, none, .mv (.c (.d (.bool false))), .none⟩])
  (.seq (.reg [⟨some 3, none, .fa (.s 1) 0, .none⟩,
      ⟨some 4, none, .ld (.s 3) 1 false, .none⟩,
      ⟨some 5, none, .fa (.s 1) 1, .none⟩,
      ⟨some 6, none, .ld (.s 5) 1 false, .none⟩,
      ⟨some 7, none, .call 52 [.s 4, .s 6] 2, .none⟩,
      ⟨some 8, none, .mv (.s 7), .none⟩,
      ⟨some 9, some (8, true), .fa (.s 1) 2, .none⟩,
      ⟨some 10, some (8, true), .ld (.s 9) 1 false, .none⟩,
      ⟨some 11, some (8, true), .call 65 [.s 10, .c (.d (.int .i64 0)), .c (.d (.int .i64 4096))] 2, .none⟩,
      ⟨some 12, none, .pick (.s 8) (.s 11) (.c (.d (.bool false))), .none⟩,
      ⟨some 13, none, .mv (.s 12), .none⟩,
      ⟨some 14, some (13, true), .fa (.s 1) 3, .none⟩,
      ⟨some 15, some (13, true), .ld (.s 14) 1 false, .none⟩,
      ⟨some 16, some (13, true), .len (.s 15), .none⟩,
      ⟨some 17, some (13, true), .call 65 [.s 16, .c (.d (.int .i64 1)), .c (.d (.int .i64 64))] 2, .none⟩,
      ⟨some 18, none, .pick (.s 13) (.s 17) (.c (.d (.bool false))), .none⟩,
      ⟨some 2, none, .mv (.s 18), .none⟩])
  (.ret none)))
def ir51 : F := { n := 19, res := [.tmp 2], body := bd51 }
@[go_sem] theorem n51 : ir51.n = 19 := rfl
@[go_sem] theorem r51 : ir51.res = [.tmp 2] := rfl
@[go_sem] theorem b51 : ir51.body = bd51 := rfl
/-- spence/codec.owner -/
def bd52 : C :=
  (.seq (.reg [⟨some 4, none, .mv (.c (.d (.bool false))), .none⟩])
  (.seq (.reg [⟨some 5, none, .mv (.s 0), .none⟩,
      ⟨some 6, none, .call 65 [.s 5, .c (.d (.int .i64 0)), .c (.d (.int .i64 15))] 2, .none⟩,
      ⟨some 7, none, .mv (.s 6), .none⟩,
      ⟨some 8, some (7, true), .mv (.s 1), .none⟩,
      ⟨some 9, some (7, true), .call 65 [.s 8, .c (.d (.int .i64 1)), .c (.d (.int .i64 2147483647))] 2, .none⟩,
      ⟨some 10, none, .pick (.s 7) (.s 9) (.c (.d (.bool false))), .none⟩,
      ⟨some 4, none, .mv (.s 10), .none⟩])
  (.ret none)))
def ir52 : F := { n := 11, res := [.tmp 4], body := bd52 }
@[go_sem] theorem n52 : ir52.n = 11 := rfl
@[go_sem] theorem r52 : ir52.res = [.tmp 4] := rfl
@[go_sem] theorem b52 : ir52.body = bd52 := rfl
@[go_sem] theorem ks53_0 (v0 v1 v2 v3 v4 v5 v6 v7 v8 v9 v10 v11 v12 v13 v14 v15 v16 v17 v18 : AV) : keepS [3, 6] [v0, v1, v2, v3, v4, v5, v6, v7, v8, v9, v10, v11, v12, v13, v14, v15, v16, v17, v18] 0 = [.unk, .unk, .unk, v3, .unk, .unk, v6, .unk, .unk, .unk, .unk, .unk, .unk, .unk, .unk, .unk, .unk, .unk, .unk] := rfl
/-- (spence/index.Index).change -/
def bd53 : C :=
  (.seq (.reg [⟨some 3, none, .box 39 (.s 0), .none⟩,
      ⟨some 6, none, .alloc 39 [.bool false, .int .i64 0, .int .i64 0, .str [], .int .i64 0, .int .i64 0, .int .i64 0, .int .i64 0, .nilm, .int .i64 0, .int .i64 0, .int .i64 0, .bool false, .int .i64 0, .int .i64 0, .str [], .int .i64 0, .int .i64 0, .int .i64 0, .int .i64 0, .nilm, .int .i64 0, .int .i64 0, .int .i64 0, .bool false, .int .i64 0, .int .i64 0, .str [], .int .i64 0, .int .i64 0, .int .i64 0, .int .i64 0, .nilm, .int .i64 0, .int .i64 0, .int .i64 0, .bool false, .int .i64 0, .int .i64 0, .str [], .int .i64 0, .int .i64 0, .int .i64 0, .int .i64 0, .nilm, .int .i64 0, .int .i64 0, .int .i64 0, .bool false, .int .i64 0, .int .i64 0, .str [], .int .i64 0, .int .i64 0, .int .i64 0, .int .i64 0, .nilm, .int .i64 0, .int .i64 0, .int .i64 0, .bool false, .int .i64 0, .int .i64 0, .str [], .int .i64 0, .int .i64 0, .int .i64 0, .int .i64 0, .nilm, .int .i64 0, .int .i64 0, .int .i64 0, .bool false, .int .i64 0, .int .i64 0, .str [], .int .i64 0, .int .i64 0, .int .i64 0, .int .i64 0, .nilm, .int .i64 0, .int .i64 0, .int .i64 0, .bool false, .int .i64 0, .int .i64 0, .str [], .int .i64 0, .int .i64 0, .int .i64 0, .int .i64 0, .nilm, .int .i64 0, .int .i64 0, .int .i64 0, .bool false, .int .i64 0, .int .i64 0, .str [], .int .i64 0, .int .i64 0, .int .i64 0, .int .i64 0, .nilm, .int .i64 0, .int .i64 0, .int .i64 0, .bool false, .int .i64 0, .int .i64 0, .str [], .int .i64 0, .int .i64 0, .int .i64 0, .int .i64 0, .nilm, .int .i64 0, .int .i64 0, .int .i64 0, .bool false, .int .i64 0, .int .i64 0, .str [], .int .i64 0, .int .i64 0, .int .i64 0, .int .i64 0, .nilm, .int .i64 0, .int .i64 0, .int .i64 0, .bool false, .int .i64 0, .int .i64 0, .str [], .int .i64 0, .int .i64 0, .int .i64 0, .int .i64 0, .nilm, .int .i64 0, .int .i64 0, .int .i64 0, .bool false, .int .i64 0, .int .i64 0, .str [], .int .i64 0, .int .i64 0, .int .i64 0, .int .i64 0, .nilm, .int .i64 0, .int .i64 0, .int .i64 0, .bool false, .int .i64 0, .int .i64 0, .str [], .int .i64 0, .int .i64 0, .int .i64 0, .int .i64 0, .nilm, .int .i64 0, .int .i64 0, .int .i64 0, .bool false, .int .i64 0, .int .i64 0, .str [], .int .i64 0, .int .i64 0, .int .i64 0, .int .i64 0, .nilm, .int .i64 0, .int .i64 0, .int .i64 0, .bool false, .int .i64 0, .int .i64 0, .str [], .int .i64 0, .int .i64 0, .int .i64 0, .int .i64 0, .nilm, .int .i64 0, .int .i64 0, .int .i64 0], .none⟩])
  (.seq (.seq (.reg [⟨some 7, none, .mv (.s 1), .none⟩,
       ⟨some 8, none, .call 58 [.s 7] 2, .none⟩])
   (.cond (.s 8)
    (.reg [⟨some 9, none, .mv (.s 1), .none⟩,
       ⟨some 10, none, .mv (.s 2), .none⟩,
       ⟨some 11, none, .mv (.s 1), .none⟩,
       ⟨some 12, none, .fa (.s 3) 0, .none⟩,
       ⟨some 13, none, .ia (.s 12) (.s 11) 16 12, .none⟩,
       ⟨some 14, none, .ld (.s 13) 12 true, .none⟩,
       ⟨some 15, none, .callv (.s 10) [.s 14] 0, .none⟩,
       ⟨some 16, none, .fa (.s 3) 0, .none⟩,
       ⟨some 17, none, .ia (.s 16) (.s 9) 16 12, .none⟩,
       ⟨none, none, .st (.s 17) (.s 15) 12, .none⟩])
    .skip))
  (.ann [3, 6] (.seq (.reg [⟨some 18, none, .ld (.s 3) 192 true, .none⟩,
      ⟨none, none, .st (.s 6) (.s 18) 192, .none⟩])
  (.ret none)))))
def ir53 : F := { n := 19, res := [.cell 6 192 true], body := bd53 }
@[go_sem] theorem n53 : ir53.n = 19 := rfl
@[go_sem] theorem r53 : ir53.res = [.cell 6 192 true] := rfl
@[go_sem] theorem b53 : ir53.body = bd53 := rfl
@[go_sem] theorem ks54_0 (v0 v1 v2 v3 v4 v5 v6 v7 v8 v9 v10 v11 v12 v13 v14 v15 v16 v17 v18 v19 v20 v21 v22 v23 v24 v25 v26 v27 v28 v29 v30 v31 v32 v33 v34 v35 v36 v37 : AV) : keepS [2, 3, 4, 5, 6] [v0, v1, v2, v3, v4, v5, v6, v7, v8, v9, v10, v11, v12, v13, v14, v15, v16, v17, v18, v19, v20, v21, v22, v23, v24, v25, v26, v27, v28, v29, v30, v31, v32, v33, v34, v35, v36, v37] 0 = [.unk, .unk, v2, v3, v4, v5, v6, .unk, .unk, .unk, .unk, .unk, .unk, .unk, .unk, .unk, .unk, .unk, .unk, .unk, .unk, .unk, .unk, .unk, .unk, .unk, .unk, .unk, .unk, .unk, .unk, .unk, .unk, .unk, .unk, .unk, .unk, .unk] := rfl
/-- (spence/index.Index).Piece$1 -/
def bd54 : C :=
  (.seq (.reg [⟨some 4, none, .box 36 (.s 0), .none⟩,
      ⟨some 5, none, .alloc 36 [.bool false, .int .i64 0, .int .i64 0, .str [], .int .i64 0, .int .i64 0, .int .i64 0, .int .i64 0, .nilm, .int .i64 0, .int .i64 0, .int .i64 0], .none⟩])
  (.seq (.seq (.reg [⟨some 7, none, .fa (.s 4) 0, .none⟩,
       ⟨some 8, none, .ld (.s 7) 1 false, .none⟩,
       ⟨some 9, none, .un .not (.s 8), .none⟩,
       ⟨some 10, none, .mv (.s 9), .none⟩,
       ⟨some 11, some (10, false), .fa (.s 4) 1, .none⟩,
       ⟨some 12, some (10, false), .fa (.s 11) 1, .none⟩,
       ⟨some 13, some (10, false), .ld (.s 12) 1 false, .none⟩,
       ⟨some 14, some (10, false), .ld (.s 1) 1 false, .none⟩,
       ⟨some 15, some (10, false), .bin .neq (.s 13) (.s 14), .none⟩,
       ⟨some 16, none, .pick (.s 10) (.c (.d (.bool true))) (.s 15), .none⟩,
       ⟨some 17, none, .mv (.s 16), .none⟩,
       ⟨some 18, some (17, false), .ld (.s 2) 1 false, .none⟩,
       ⟨some 19, some (17, false), .bin .lss (.s 18) (.c (.d (.int .i64 0))), .none⟩,
       ⟨some 20, none, .pick (.s 17) (.c (.d (.bool true))) (.s 19), .none⟩,
       ⟨some 21, none, .mv (.s 20), .none⟩,
       ⟨some 22, some (21, false), .ld (.s 2) 1 false, .none⟩,
       ⟨some 23, some (21, false), .bin .gtr (.s 22) (.c (.d (.int .i64 4096))), .none⟩,
       ⟨some 24, none, .pick (.s 21) (.c (.d (.bool true))) (.s 23), .none⟩])
   (.cond (.s 24)
    (.seq (.reg [⟨some 25, none, .ld (.s 4) 12 true, .none⟩,
        ⟨none, none, .st (.s 5) (.s 25) 12, .none⟩])
    (.ret none))
    .skip))
  (.seq (.reg [⟨some 26, none, .fa (.s 4) 8, .none⟩,
      ⟨some 27, none, .ld (.s 26) 1 false, .none⟩,
      ⟨some 28, none, .call 55 [.s 27] 0, .none⟩,
      ⟨some 6, none, .mv (.s 28), .none⟩])
  (.seq (.seq (.reg [⟨some 29, none, .mv (.s 6), .none⟩,
       ⟨some 30, none, .isn false 2 (.s 29), .none⟩])
   (.cond (.s 30)
    (.reg [⟨some 31, none, .mmk, .none⟩,
       ⟨some 6, none, .mv (.s 31), .none⟩])
    .skip))
  (.ann [2, 3, 4, 5, 6] (.seq (.reg [⟨some 32, none, .mv (.s 6), .none⟩,
      ⟨some 33, none, .ld (.s 2) 1 false, .none⟩,
      ⟨some 34, none, .ld (.s 3) 2 true, .none⟩,
      ⟨none, none, .mput (.s 32) (.s 33) (.s 34), .none⟩])
  (.seq (.reg [⟨some 35, none, .mv (.s 6), .frz⟩,
      ⟨some 36, none, .fa (.s 4) 8, .none⟩,
      ⟨none, none, .st (.s 36) (.s 35) 1, .none⟩])
  (.seq (.reg [⟨some 37, none, .ld (.s 4) 12 true, .none⟩,
      ⟨none, none, .st (.s 5) (.s 37) 12, .none⟩])
  (.ret none)))))))))
def ir54 : F := { n := 38, res := [.cell 5 12 true], body := bd54 }
@[go_sem] theorem n54 : ir54.n = 38 := rfl
@[go_sem] theorem r54 : ir54.res = [.cell 5 12 true] := rfl
@[go_sem] theorem b54 : ir54.body = bd54 := rfl
@[go_sem] theorem ks56_0 (v0 v1 v2 v3 v4 v5 v6 v7 v8 v9 v10 v11 v12 v13 v14 v15 v16 v17 v18 v19 v20 v21 v22 v23 v24 v25 v26 v27 v28 v29 v30 v31 v32 : AV) : keepS [1, 3, 4] [v0, v1, v2, v3, v4, v5, v6, v7, v8, v9, v10, v11, v12, v13, v14, v15, v16, v17, v18, v19, v20, v21, v22, v23, v24, v25, v26, v27, v28, v29, v30, v31, v32] 0 = [.unk, v1, .unk, v3, v4, .unk, .unk, .unk, .unk, .unk, .unk, .unk, .unk, .unk, .unk, .unk, .unk, .unk, .unk, .unk, .unk, .unk, .unk, .unk, .unk, .unk, .unk, .unk, .unk, .unk, .unk, .unk, .unk] := rfl
@[go_sem] theorem ks56_1 (v0 v1 v2 v3 v4 v5 v6 v7 v8 v9 v10 v11 v12 v13 v14 v15 v16 v17 v18 v19 v20 v21 v22 v23 v24 v25 v26 v27 v28 v29 v30 v31 v32 : AV) : keepS [3, 4] [v0, v1, v2, v3, v4, v5, v6, v7, v8, v9, v10, v11, v12, v13, v14, v15, v16, v17, v18, v19, v20, v21, v22, v23, v24, v25, v26, v27, v28, v29, v30, v31, v32] 0 = [.unk, .unk, .unk, v3, v4, .unk, .unk, .unk, .unk, .unk, .unk, .unk, .unk, .unk, .unk, .unk, .unk, .unk, .unk, .unk, .unk, .unk, .unk, .unk, .unk, .unk, .unk, .unk, .unk, .unk, .unk, .unk, .unk] := rfl
/-- (spence/index.Index).Forget$1 -/
def bd56 : C :=
  (.seq (.reg [⟨some 3, none, .box 36 (.s 0), .none⟩,
      ⟨some 4, none, .alloc 36 [.bool false, .int .i64 0, .int .i64 0, .str [], .int .i64 0, .int .i64 0, .int .i64 0, .int .i64 0, .nilm, .int .i64 0, .int .i64 0, .int .i64 0], .none⟩])
  (.seq (.seq (.reg [⟨some 5, none, .ld (.s 1) 1 false, .none⟩,
       ⟨some 6, none, .fa (.s 3) 9, .none⟩,
       ⟨some 7, none, .ld (.s 6) 1 false, .none⟩,
       ⟨some 8, none, .bin .geq (.s 5) (.s 7), .none⟩,
       ⟨some 9, none, .mv (.s 8), .none⟩,
       ⟨some 10, some (9, true), .ld (.s 1) 1 false, .none⟩,
       ⟨some 11, some (9, true), .bin .gtr (.s 10) (.c (.d (.int .i64 0))), .none⟩,
       ⟨some 12, none, .pick (.s 9) (.s 11) (.c (.d (.bool false))), .none⟩])
   (.cond (.s 12)
    (.drw [⟨some 13, none, .ld (.s 1) 1 false, .none⟩,
       ⟨some 14, none, .ld (.s 2) 2 true, .none⟩,
       ⟨some 15, none, .fa (.s 3) 9, .none⟩,
       ⟨none, none, .st (.s 15) (.s 13) 1, .none⟩,
       ⟨some 16, none, .fa (.s 3) 10, .none⟩,
       ⟨none, none, .st (.s 16) (.s 14) 2, .none⟩]
      [[], [], [0], [2, 0, 0], [0, 1, 2, 3], [4, 1, 3, 0, 1, 2, 3]] [(2, 15)])
    .skip))
  (.ann [1, 3, 4] (.seq (.seq (.reg [⟨some 17, none, .fa (.s 3) 0, .none⟩,
       ⟨some 18, none, .ld (.s 17) 1 false, .none⟩,
       ⟨some 19, none, .mv (.s 18), .none⟩,
       ⟨some 20, some (19, true), .fa (.s 3) 1, .none⟩,
       ⟨some 21, some (19, true), .fa (.s 20) 1, .none⟩,
       ⟨some 22, some (19, true), .ld (.s 21) 1 false, .none⟩,
       ⟨some 23, some (19, true), .ld (.s 1) 1 false, .none⟩,
       ⟨some 24, some (19, true), .bin .leq (.s 22) (.s 23), .none⟩,
       ⟨some 25, none, .pick (.s 19) (.s 24) (.c (.d (.bool false))), .none⟩])
   (.cond (.s 25)
    (.reg [⟨some 26, none, .build [.int .i64 0, .int .i64 0, .str [], .int .i64 0, .int .i64 0] [], .none⟩,
       ⟨some 27, none, .build [.int .i64 0, .int .i64 0] [], .none⟩,
       ⟨some 28, none, .fa (.s 3) 0, .none⟩,
       ⟨none, none, .st (.s 28) (.c (.d (.bool false))) 1, .none⟩,
       ⟨some 29, none, .fa (.s 3) 1, .none⟩,
       ⟨none, none, .st (.s 29) (.s 26) 5, .none⟩,
       ⟨some 30, none, .fa (.s 3) 6, .none⟩,
       ⟨none, none, .st (.s 30) (.s 27) 2, .none⟩,
       ⟨some 31, none, .fa (.s 3) 8, .none⟩,
       ⟨none, none, .st (.s 31) (.c (.d .nilm)) 1, .none⟩])
    .skip))
  (.ann [3, 4] (.seq (.reg [⟨some 32, none, .ld (.s 3) 12 true, .none⟩,
      ⟨none, none, .st (.s 4) (.s 32) 12, .none⟩])
  (.ret none)))))))
def ir56 : F := { n := 33, res := [.cell 4 12 true], body := bd56 }
@[go_sem] theorem n56 : ir56.n = 33 := rfl
@[go_sem] theorem r56 : ir56.res = [.cell 4 12 true] := rfl
@[go_sem] theorem b56 : ir56.body = bd56 := rfl
/-- (spence/index.Index).Bound$1 -/
def bd57 : C :=
  (.seq (.reg [⟨some 3, none, .box 36 (.s 0), .none⟩,
      ⟨some 4, none, .alloc 36 [.bool false, .int .i64 0, .int .i64 0, .str [], .int .i64 0, .int .i64 0, .int .i64 0, .int .i64 0, .nilm, .int .i64 0, .int .i64 0, .int .i64 0], .none⟩])
  (.seq (.block 0 (.seq (.reg [⟨some 6, none, .fa (.s 1) 1, .none⟩,
        ⟨some 7, none, .ld (.s 6) 1 false, .none⟩,
        ⟨some 8, none, .fa (.s 3) 9, .none⟩,
        ⟨some 9, none, .ld (.s 8) 1 false, .none⟩,
        ⟨some 10, none, .bin .leq (.s 7) (.s 9), .none⟩,
        ⟨some 5, none, .mv (.s 10), .none⟩])
    (.cond (.s 5)
     .skip
     (.seq (.reg [⟨some 12, none, .fa (.s 3) 0, .none⟩,
         ⟨some 13, none, .ld (.s 12) 1 false, .none⟩,
         ⟨some 14, none, .un .not (.s 13), .none⟩,
         ⟨some 15, none, .mv (.s 14), .none⟩,
         ⟨some 16, some (15, false), .fa (.s 3) 1, .none⟩,
         ⟨some 17, some (15, false), .fa (.s 16) 1, .none⟩,
         ⟨some 18, some (15, false), .ld (.s 17) 1 false, .none⟩,
         ⟨some 19, some (15, false), .fa (.s 1) 1, .none⟩,
         ⟨some 20, some (15, false), .ld (.s 19) 1 false, .none⟩,
         ⟨some 21, some (15, false), .bin .lss (.s 18) (.s 20), .none⟩,
         ⟨some 22, none, .pick (.s 15) (.c (.d (.bool true))) (.s 21), .none⟩,
         ⟨some 11, none, .mv (.s 22), .none⟩])
     (.cond (.s 11)
      (.drw [⟨some 23, none, .ld (.s 1) 5 true, .none⟩,
         ⟨some 24, none, .ld (.s 2) 2 true, .none⟩,
         ⟨some 25, none, .fa (.s 3) 0, .none⟩,
         ⟨none, none, .st (.s 25) (.c (.d (.bool true))) 1, .none⟩,
         ⟨some 26, none, .fa (.s 3) 1, .none⟩,
         ⟨none, none, .st (.s 26) (.s 23) 5, .none⟩,
         ⟨some 27, none, .fa (.s 3) 6, .none⟩,
         ⟨none, none, .st (.s 27) (.s 24) 2, .none⟩,
         ⟨some 28, none, .fa (.s 3) 8, .none⟩,
         ⟨none, none, .st (.s 28) (.c (.d .nilm)) 1, .none⟩]
        [[], [], [], [2], [0, 2, 3], [4, 0, 3, 0, 2, 3], [0, 1, 2, 3, 4, 5], [6, 1, 5, 0, 1, 2, 3, 4, 5], [0, 1, 2, 3, 4, 5, 6, 7], [8, 7, 0, 1, 2, 3, 4, 5, 6, 7]] [(1, 25), (2, 25), (2, 26)])
      (.seq (.reg [⟨some 30, none, .fa (.s 3) 1, .none⟩,
          ⟨some 31, none, .fa (.s 30) 1, .none⟩,
          ⟨some 32, none, .ld (.s 31) 1 false, .none⟩,
          ⟨some 33, none, .fa (.s 1) 1, .none⟩,
          ⟨some 34, none, .ld (.s 33) 1 false, .none⟩,
          ⟨some 35, none, .bin .eql (.s 32) (.s 34), .none⟩,
          ⟨some 36, none, .mv (.s 35), .none⟩,
          ⟨some 37, some (36, true), .fa (.s 3) 1, .none⟩,
          ⟨some 38, some (36, true), .fa (.s 37) 2, .none⟩,
          ⟨some 39, some (36, true), .ld (.s 38) 1 false, .none⟩,
          ⟨some 40, some (36, true), .fa (.s 1) 2, .none⟩,
          ⟨some 41, some (36, true), .ld (.s 40) 1 false, .none⟩,
          ⟨some 42, some (36, true), .bin .eql (.s 39) (.s 41), .none⟩,
          ⟨some 43, none, .pick (.s 36) (.s 42) (.c (.d (.bool false))), .none⟩,
          ⟨some 44, none, .mv (.s 43), .none⟩,
          ⟨some 45, some (44, true), .fa (.s 3) 1, .none⟩,
          ⟨some 46, some (44, true), .fa (.s 45) 3, .none⟩,
          ⟨some 47, some (44, true), .ld (.s 46) 1 false, .none⟩,
          ⟨some 48, some (44, true), .fa (.s 1) 3, .none⟩,
          ⟨some 49, some (44, true), .ld (.s 48) 1 false, .none⟩,
          ⟨some 50, some (44, true), .bin .eql (.s 47) (.s 49), .none⟩,
          ⟨some 51, none, .pick (.s 44) (.s 50) (.c (.d (.bool false))), .none⟩,
          ⟨some 52, none, .mv (.s 51), .none⟩,
          ⟨some 53, some (52, true), .fa (.s 3) 1, .none⟩,
          ⟨some 54, some (52, true), .fa (.s 53) 4, .none⟩,
          ⟨some 55, some (52, true), .ld (.s 54) 1 false, .none⟩,
          ⟨some 56, some (52, true), .fa (.s 1) 4, .none⟩,
          ⟨some 57, some (52, true), .ld (.s 56) 1 false, .none⟩,
          ⟨some 58, some (52, true), .bin .leq (.s 55) (.s 57), .none⟩,
          ⟨some 59, none, .pick (.s 52) (.s 58) (.c (.d (.bool false))), .none⟩,
          ⟨some 29, none, .mv (.s 59), .none⟩])
      (.cond (.s 29)
       (.drw [⟨some 60, none, .fa (.s 1) 4, .none⟩,
          ⟨some 61, none, .ld (.s 60) 1 false, .none⟩,
          ⟨some 62, none, .ld (.s 2) 2 true, .none⟩,
          ⟨some 63, none, .fa (.s 3) 1, .none⟩,
          ⟨some 64, none, .fa (.s 63) 4, .none⟩,
          ⟨none, none, .st (.s 64) (.s 61) 1, .none⟩,
          ⟨some 65, none, .fa (.s 3) 6, .none⟩,
          ⟨none, none, .st (.s 65) (.s 62) 2, .none⟩]
         [[], [0], [], [0, 1], [3, 0, 1], [4, 1, 0, 1], [0, 1, 2, 3, 4, 5], [6, 2, 5, 0, 1, 2, 3, 4, 5]] [(2, 64)])
       .skip)))))))
  (.seq (.reg [⟨some 66, none, .ld (.s 3) 12 true, .none⟩,
      ⟨none, none, .st (.s 4) (.s 66) 12, .none⟩])
  (.ret none))))
def ir57 : F := { n := 67, res := [.cell 4 12 true], body := bd57 }
@[go_sem] theorem n57 : ir57.n = 67 := rfl
@[go_sem] theorem r57 : ir57.res = [.cell 4 12 true] := rfl
@[go_sem] theorem b57 : ir57.body = bd57 := rfl
/-- spence/index.may -/
def bd58 : C :=
  (.seq (.reg [⟨some 2, none, .mv (.c (.d (.bool false))), .none⟩])
  (.seq (.reg [⟨some 3, none, .mv (.s 0), .none⟩,
      ⟨some 4, none, .bin .geq (.s 3) (.c (.d (.int .i64 0))), .none⟩,
      ⟨some 5, none, .mv (.s 4), .none⟩,
      ⟨some 6, some (5, true), .mv (.s 0), .none⟩,
      ⟨some 7, some (5, true), .bin .lss (.s 6) (.c (.d (.int .i64 16))), .none⟩,
      ⟨some 8, none, .pick (.s 5) (.s 7) (.c (.d (.bool false))), .none⟩,
      ⟨some 2, none, .mv (.s 8), .none⟩])
  (.ret none)))
def ir58 : F := { n := 9, res := [.tmp 2], body := bd58 }
@[go_sem] theorem n58 : ir58.n = 9 := rfl
@[go_sem] theorem r58 : ir58.res = [.tmp 2] := rfl
@[go_sem] theorem b58 : ir58.body = bd58 := rfl
@[go_sem] theorem ks59_0 (v0 v1 v2 v3 v4 v5 v6 v7 v8 v9 v10 v11 v12 v13 v14 v15 v16 v17 v18 : AV) : keepS [2, 4] [v0, v1, v2, v3, v4, v5, v6, v7, v8, v9, v10, v11, v12, v13, v14, v15, v16, v17, v18] 0 = [.unk, .unk, v2, .unk, v4, .unk, .unk, .unk, .unk, .unk, .unk, .unk, .unk, .unk, .unk, .unk, .unk, .unk, .unk] := rfl
/-- (spence/bitmap.Map).With -/
def bd59 : C :=
  (.seq (.reg [⟨some 2, none, .box 54 (.s 0), .none⟩,
      ⟨some 4, none, .alloc 54 [.int .u64 0, .int .u64 0, .int .u64 0, .int .u64 0, .int .u64 0, .int .u64 0, .int .u64 0, .int .u64 0, .int .u64 0, .int .u64 0, .int .u64 0, .int .u64 0, .int .u64 0, .int .u64 0, .int .u64 0, .int .u64 0, .int .u64 0, .int .u64 0, .int .u64 0, .int .u64 0, .int .u64 0, .int .u64 0, .int .u64 0, .int .u64 0, .int .u64 0, .int .u64 0, .int .u64 0, .int .u64 0, .int .u64 0, .int .u64 0, .int .u64 0, .int .u64 0, .int .u64 0, .int .u64 0, .int .u64 0, .int .u64 0, .int .u64 0, .int .u64 0, .int .u64 0, .int .u64 0, .int .u64 0, .int .u64 0, .int .u64 0, .int .u64 0, .int .u64 0, .int .u64 0, .int .u64 0, .int .u64 0, .int .u64 0, .int .u64 0, .int .u64 0, .int .u64 0, .int .u64 0, .int .u64 0, .int .u64 0, .int .u64 0, .int .u64 0, .int .u64 0, .int .u64 0, .int .u64 0, .int .u64 0, .int .u64 0, .int .u64 0, .int .u64 0, .int .u64 0], .none⟩])
  (.seq (.seq (.reg [⟨some 5, none, .mv (.s 1), .none⟩,
       ⟨some 6, none, .call 68 [.s 5] 2, .none⟩])
   (.cond (.s 6)
    (.drw [⟨some 7, none, .mv (.s 1), .none⟩,
       ⟨some 8, none, .bin .quo (.s 7) (.c (.d (.int .i64 64))), .none⟩,
       ⟨some 9, none, .fa (.s 2) 0, .none⟩,
       ⟨some 10, none, .ia (.s 9) (.s 8) 65 1, .none⟩,
       ⟨some 11, none, .ld (.s 10) 1 false, .none⟩,
       ⟨some 12, none, .mv (.s 1), .none⟩,
       ⟨some 13, none, .bin .rem (.s 12) (.c (.d (.int .i64 64))), .none⟩,
       ⟨some 14, none, .bin .shl (.c (.d (.int .u64 1))) (.s 13), .none⟩,
       ⟨some 15, none, .bin .or (.s 11) (.s 14), .none⟩,
       ⟨some 16, none, .fa (.s 2) 0, .none⟩,
       ⟨some 17, none, .ia (.s 16) (.s 8) 65 1, .none⟩,
       ⟨none, none, .st (.s 17) (.s 15) 1, .none⟩]
      [[], [0], [], [2, 1], [3], [], [5], [6], [4, 7], [], [9, 1, 0, 1, 2, 3, 4, 5, 6, 7, 8], [10, 8, 0, 1, 2, 3, 4, 5, 6, 7, 8]] [])
    .skip))
  (.ann [2, 4] (.seq (.reg [⟨some 18, none, .ld (.s 2) 65 true, .none⟩,
      ⟨none, none, .st (.s 4) (.s 18) 65, .none⟩])
  (.ret none)))))
def ir59 : F := { n := 19, res := [.cell 4 65 true], body := bd59 }
@[go_sem] theorem n59 : ir59.n = 19 := rfl
@[go_sem] theorem r59 : ir59.res = [.cell 4 65 true] := rfl
@[go_sem] theorem b59 : ir59.body = bd59 := rfl
def lb62_0 : C :=
  (.seq (.reg [⟨some 6, none, .bad, .none⟩,
      ⟨some 7, none, .ext (.s 6) 0, .none⟩])
  (.seq (.cond (.s 7)
    .skip
    (.exit 0 (some [])))
  (.block 1 (.seq (.reg [⟨some 8, none, .bad, .none⟩,
       ⟨some 9, none, .ext (.s 8) 0, .none⟩,
       ⟨some 3, none, .mv (.s 9), .none⟩])
   (.seq (.reg [⟨some 10, none, .mv (.s 0), .none⟩,
       ⟨some 11, none, .mv (.s 3), .none⟩,
       ⟨some 12, none, .callv (.s 10) [.s 11] 0, .none⟩,
       ⟨some 13, none, .un .not (.s 12), .none⟩])
   (.cond (.s 13)
    (.ret (some []))
    .skip))))))
def lp62_0 : C := lb62_0
theorem u62_0 (c : Ev.Callee) (l : Ev.Looper) (s : St) : evC c l lp62_0 s = evC c l lb62_0 s := rfl
abbrev st62_0 (m : Nat) (s0 : AV) (h : Heap) : St := ⟨m, [s0, .unk, .unk, .unk, .unk, .unk, .unk, .unk, .unk, .unk, .unk, .unk, .unk, .unk], h⟩
@[go_sem] theorem ks62_0 (v0 v1 v2 v3 v4 v5 v6 v7 v8 v9 v10 v11 v12 v13 : AV) : keepS [0] [v0, v1, v2, v3, v4, v5, v6, v7, v8, v9, v10, v11, v12, v13] 0 = [v0, .unk, .unk, .unk, .unk, .unk, .unk, .unk, .unk, .unk, .unk, .unk, .unk, .unk] := rfl
@[go_sem] theorem ks62_1 (v0 v1 v2 v3 v4 v5 v6 v7 v8 v9 v10 v11 v12 v13 : AV) : keepS [] [v0, v1, v2, v3, v4, v5, v6, v7, v8, v9, v10, v11, v12, v13] 0 = [.unk, .unk, .unk, .unk, .unk, .unk, .unk, .unk, .unk, .unk, .unk, .unk, .unk, .unk] := rfl
/-- maps.Keys[map[int]spence/api.Addr,int,spence/api.Addr]$1 -/
def bd62 : C :=
  (.seq (.reg [⟨some 4, none, .ld (.s 1) 1 false, .none⟩,
      ⟨some 5, none, .bad, .none⟩])
  (.block 0 (.loop [0] lp62_0)))
def ir62 : F := { n := 14, res := [], body := bd62 }
@[go_sem] theorem n62 : ir62.n = 14 := rfl
@[go_sem] theorem r62 : ir62.res = [] := rfl
@[go_sem] theorem b62 : ir62.body = bd62 := rfl
/-- spence/bitmap.And -/
def bd63 : C :=
  (.seq (.reg [⟨some 2, none, .box 54 (.s 0), .none⟩,
      ⟨some 3, none, .box 54 (.s 1), .none⟩,
      ⟨some 4, none, .alloc 54 [.int .u64 0, .int .u64 0, .int .u64 0, .int .u64 0, .int .u64 0, .int .u64 0, .int .u64 0, .int .u64 0, .int .u64 0, .int .u64 0, .int .u64 0, .int .u64 0, .int .u64 0, .int .u64 0, .int .u64 0, .int .u64 0, .int .u64 0, .int .u64 0, .int .u64 0, .int .u64 0, .int .u64 0, .int .u64 0, .int .u64 0, .int .u64 0, .int .u64 0, .int .u64 0, .int .u64 0, .int .u64 0, .int .u64 0, .int .u64 0, .int .u64 0, .int .u64 0, .int .u64 0, .int .u64 0, .int .u64 0, .int .u64 0, .int .u64 0, .int .u64 0, .int .u64 0, .int .u64 0, .int .u64 0, .int .u64 0, .int .u64 0, .int .u64 0, .int .u64 0, .int .u64 0, .int .u64 0, .int .u64 0, .int .u64 0, .int .u64 0, .int .u64 0, .int .u64 0, .int .u64 0, .int .u64 0, .int .u64 0, .int .u64 0, .int .u64 0, .int .u64 0, .int .u64 0, .int .u64 0, .int .u64 0, .int .u64 0, .int .u64 0, .int .u64 0, .int .u64 0], .none⟩])
  (.seq (.reg [⟨some 5, none, .ld (.s 2) 65 true, .none⟩,
      ⟨some 6, none, .ld (.s 3) 65 true, .none⟩,
      ⟨some 7, none, .call 72 [.s 5, .s 6, .c (.clo (.func 73) [] [])] 2, .none⟩,
      ⟨none, none, .st (.s 4) (.s 7) 65, .none⟩])
  (.ret none)))
def ir63 : F := { n := 8, res := [.cell 4 65 true], body := bd63 }
@[go_sem] theorem n63 : ir63.n = 8 := rfl
@[go_sem] theorem r63 : ir63.res = [.cell 4 65 true] := rfl
@[go_sem] theorem b63 : ir63.body = bd63 := rfl
def lb64_0 : C :=
  (.seq (.reg [⟨some 40, none, .bin .lss (.s 39) (.s 38), .none⟩])
  (.seq (.cond (.s 40)
    .skip
    (.exit 0 (some [8])))
  (.seq (.block 1 (.seq (.reg [⟨some 41, none, .is (.s 37) (.s 39) 1, .none⟩,
        ⟨some 42, none, .ld (.s 41) 1 false, .none⟩,
        ⟨some 10, none, .mv (.s 42), .none⟩])
    (.reg [⟨some 43, none, .mv (.s 8), .none⟩,
       ⟨some 44, none, .bin .shl (.s 43) (.c (.d (.int .u64 8))), .none⟩,
       ⟨some 45, none, .mv (.s 10), .none⟩,
       ⟨some 46, none, .cvi .u64 (.s 45), .none⟩,
       ⟨some 47, none, .bin .or (.s 44) (.s 46), .none⟩,
       ⟨some 8, none, .mv (.s 47), .none⟩])))
  (.reg [⟨some 48, none, .bin .add (.s 39) (.c (.d (.int .i64 1))), .none⟩,
     ⟨some 39, none, .mv (.s 48), .none⟩]))))
def lp64_0 : C := lb64_0
theorem u64_0 (c : Ev.Callee) (l : Ev.Looper) (s : St) : evC c l lp64_0 s = evC c l lb64_0 s := rfl
abbrev st64_0 (m : Nat) (s8 s37 s38 s39 : AV) (h : Heap) : St := ⟨m, [.unk, .unk, .unk, .unk, .unk, .unk, .unk, .unk, s8, .unk, .unk, .unk, .unk, .unk, .unk, .unk, .unk, .unk, .unk, .unk, .unk, .unk, .unk, .unk, .unk, .unk, .unk, .unk, .unk, .unk, .unk, .unk, .unk, .unk, .unk, .unk, .unk, s37, s38, s39, .unk, .unk, .unk, .unk, .unk, .unk, .unk, .unk, .unk, .unk], h⟩
@[go_sem] theorem ks64_0 (v0 v1 v2 v3 v4 v5 v6 v7 v8 v9 v10 v11 v12 v13 v14 v15 v16 v17 v18 v19 v20 v21 v22 v23 v24 v25 v26 v27 v28 v29 v30 v31 v32 v33 v34 v35 v36 v37 v38 v39 v40 v41 v42 v43 v44 v45 v46 v47 v48 v49 : AV) : keepS [8, 37, 38, 39] [v0, v1, v2, v3, v4, v5, v6, v7, v8, v9, v10, v11, v12, v13, v14, v15, v16, v17, v18, v19, v20, v21, v22, v23, v24, v25, v26, v27, v28, v29, v30, v31, v32, v33, v34, v35, v36, v37, v38, v39, v40, v41, v42, v43, v44, v45, v46, v47, v48, v49] 0 = [.unk, .unk, .unk, .unk, .unk, .unk, .unk, .unk, v8, .unk, .unk, .unk, .unk, .unk, .unk, .unk, .unk, .unk, .unk, .unk, .unk, .unk, .unk, .unk, .unk, .unk, .unk, .unk, .unk, .unk, .unk, .unk, .unk, .unk, .unk, .unk, .unk, v37, v38, v39, .unk, .unk, .unk, .unk, .unk, .unk, .unk, .unk, .unk, .unk] := rfl
@[go_sem] theorem ks64_1 (v0 v1 v2 v3 v4 v5 v6 v7 v8 v9 v10 v11 v12 v13 v14 v15 v16 v17 v18 v19 v20 v21 v22 v23 v24 v25 v26 v27 v28 v29 v30 v31 v32 v33 v34 v35 v36 v37 v38 v39 v40 v41 v42 v43 v44 v45 v46 v47 v48 v49 : AV) : keepS [8] [v0, v1, v2, v3, v4, v5, v6, v7, v8, v9, v10, v11, v12, v13, v14, v15, v16, v17, v18, v19, v20, v21, v22, v23, v24, v25, v26, v27, v28, v29, v30, v31, v32, v33, v34, v35, v36, v37, v38, v39, v40, v41, v42, v43, v44, v45, v46, v47, v48, v49] 0 = [.unk, .unk, .unk, .unk, .unk, .unk, .unk, .unk, v8, .unk, .unk, .unk, .unk, .unk, .unk, .unk, .unk, .unk, .unk, .unk, .unk, .unk, .unk, .unk, .unk, .unk, .unk, .unk, .unk, .unk, .unk, .unk, .unk, .unk, .unk, .unk, .unk, .unk, .unk, .unk, .unk, .unk, .unk, .unk, .unk, .unk, .unk, .unk, .unk, .unk] := rfl
/-- spence/nums.Get -/
def bd64 : C :=
  (.seq (.reg [⟨some 6, none, .mv (.c (.d (.int .u64 0))), .none⟩,
      ⟨some 7, none, .mv (.c (.d (.bool false))), .none⟩])
  (.seq (.seq (.reg [⟨some 11, none, .mv (.s 2), .none⟩,
       ⟨some 12, none, .call 65 [.s 11, .c (.d (.int .i64 0)), .c (.d (.int .i64 8))] 2, .none⟩,
       ⟨some 13, none, .un .not (.s 12), .none⟩,
       ⟨some 14, none, .mv (.s 13), .none⟩,
       ⟨some 15, some (14, false), .mv (.s 1), .none⟩,
       ⟨some 16, some (14, false), .bin .lss (.s 15) (.c (.d (.int .i64 0))), .none⟩,
       ⟨some 17, none, .pick (.s 14) (.c (.d (.bool true))) (.s 16), .none⟩,
       ⟨some 18, none, .mv (.s 17), .none⟩,
       ⟨some 19, some (18, false), .mv (.s 1), .none⟩,
       ⟨some 20, some (18, false), .mv (.s 0), .none⟩,
       ⟨some 21, some (18, false), .len (.s 20), .none⟩,
       ⟨some 22, some (18, false), .bin .gtr (.s 19) (.s 21), .none⟩,
       ⟨some 23, none, .pick (.s 18) (.c (.d (.bool true))) (.s 22), .none⟩,
       ⟨some 24, none, .mv (.s 23), .none⟩,
       ⟨some 25, some (24, false), .mv (.s 2), .none⟩,
       ⟨some 26, some (24, false), .mv (.s 0), .none⟩,
       ⟨some 27, some (24, false), .len (.s 26), .none⟩,
       ⟨some 28, some (24, false), .mv (.s 1), .none⟩,
       ⟨some 29, some (24, false), .bin .sub (.s 27) (.s 28), .none⟩,
       ⟨some 30, some (24, false), .bin .gtr (.s 25) (.s 29), .none⟩,
       ⟨some 31, none, .pick (.s 24) (.c (.d (.bool true))) (.s 30), .none⟩])
   (.cond (.s 31)
    (.seq (.reg [⟨some 6, none, .mv (.c (.d (.int .u64 0))), .none⟩,
        ⟨some 7, none, .mv (.c (.d (.bool false))), .none⟩])
    (.ret none))
    .skip))
  (.seq (.reg [⟨some 8, none, .mv (.c (.d (.int .u64 0))), .none⟩])
  (.seq (.seq (.reg [⟨some 32, none, .mv (.s 0), .none⟩,
       ⟨some 33, none, .mv (.s 1), .none⟩,
       ⟨some 34, none, .mv (.s 1), .none⟩,
       ⟨some 35, none, .mv (.s 2), .none⟩,
       ⟨some 36, none, .bin .add (.s 34) (.s 35), .none⟩,
       ⟨some 37, none, .sl (.s 32) (some (.s 33)) (some (.s 36)) none 1, .none⟩,
       ⟨some 38, none, .len (.s 37), .none⟩,
       ⟨some 39, none, .mv (.c (.d (.int .i64 0))), .none⟩])
   (.block 0 (.loop [8, 37, 38, 39] lp64_0)))
  (.seq (.reg [⟨some 49, none, .mv (.s 8), .none⟩,
      ⟨some 6, none, .mv (.s 49), .none⟩,
      ⟨some 7, none, .mv (.c (.d (.bool true))), .none⟩])
  (.ret none))))))
def ir64 : F := { n := 50, res := [.tmp 6, .tmp 7], body := bd64 }
@[go_sem] theorem n64 : ir64.n = 50 := rfl
@[go_sem] theorem r64 : ir64.res = [.tmp 6, .tmp 7] := rfl
@[go_sem] theorem b64 : ir64.body = bd64 := rfl
/-- spence/nums.Fits -/
def bd65 : C :=
  (.seq (.reg [⟨some 6, none, .mv (.c (.d (.bool false))), .none⟩])
  (.seq (.reg [⟨some 7, none, .mv (.s 0), .none⟩,
      ⟨some 8, none, .mv (.s 1), .none⟩,
      ⟨some 9, none, .bin .geq (.s 7) (.s 8), .none⟩,
      ⟨some 10, none, .mv (.s 9), .none⟩,
      ⟨some 11, some (10, true), .mv (.s 0), .none⟩,
      ⟨some 12, some (10, true), .mv (.s 2), .none⟩,
      ⟨some 13, some (10, true), .bin .leq (.s 11) (.s 12), .none⟩,
      ⟨some 14, none, .pick (.s 10) (.s 13) (.c (.d (.bool false))), .none⟩,
      ⟨some 6, none, .mv (.s 14), .none⟩])
  (.ret none)))
def ir65 : F := { n := 15, res := [.tmp 6], body := bd65 }
@[go_sem] theorem n65 : ir65.n = 15 := rfl
@[go_sem] theorem r65 : ir65.res = [.tmp 6] := rfl
@[go_sem] theorem b65 : ir65.body = bd65 := rfl
/-- spence/etag.Right -/
def bd66 : C :=
  (.seq (.reg [⟨some 1, none, .box 128 (.s 0), .none⟩,
      ⟨some 2, none, .mv (.c (.d (.bool false))), .none⟩])
  (.seq (.reg [⟨some 3, none, .fa (.s 1) 1, .none⟩,
      ⟨some 4, none, .ld (.s 3) 1 false, .none⟩,
      ⟨some 5, none, .call 74 [.s 4] 2, .none⟩,
      ⟨some 6, none, .mv (.s 5), .none⟩,
      ⟨some 7, some (6, true), .fa (.s 1) 1, .none⟩,
      ⟨some 8, some (6, true), .ld (.s 7) 1 false, .none⟩,
      ⟨some 9, some (6, true), .lens (.s 8), .none⟩,
      ⟨some 10, some (6, true), .bin .leq (.s 9) (.c (.d (.int .i64 40))), .none⟩,
      ⟨some 11, none, .pick (.s 6) (.s 10) (.c (.d (.bool false))), .none⟩,
      ⟨some 2, none, .mv (.s 11), .none⟩])
  (.ret none)))
def ir66 : F := { n := 12, res := [.tmp 2], body := bd66 }
@[go_sem] theorem n66 : ir66.n = 12 := rfl
@[go_sem] theorem r66 : ir66.res = [.tmp 2] := rfl
@[go_sem] theorem b66 : ir66.body = bd66 := rfl
/-- spence/bitmap.may -/
def bd68 : C :=
  (.seq (.reg [⟨some 2, none, .mv (.c (.d (.bool false))), .none⟩])
  (.seq (.reg [⟨some 3, none, .mv (.s 0), .none⟩,
      ⟨some 4, none, .bin .geq (.s 3) (.c (.d (.int .i64 0))), .none⟩,
      ⟨some 5, none, .mv (.s 4), .none⟩,
      ⟨some 6, some (5, true), .mv (.s 0), .none⟩,
      ⟨some 7, some (5, true), .bin .leq (.s 6) (.c (.d (.int .i64 4096))), .none⟩,
      ⟨some 8, none, .pick (.s 5) (.s 7) (.c (.d (.bool false))), .none⟩,
      ⟨some 2, none, .mv (.s 8), .none⟩])
  (.ret none)))
def ir68 : F := { n := 9, res := [.tmp 2], body := bd68 }
@[go_sem] theorem n68 : ir68.n = 9 := rfl
@[go_sem] theorem r68 : ir68.res = [.tmp 2] := rfl
@[go_sem] theorem b68 : ir68.body = bd68 := rfl
def lb72_0 : C :=
  (.seq (.reg [⟨some 9, none, .bin .lss (.s 8) (.c (.d (.int .i64 65))), .none⟩])
  (.seq (.cond (.s 9)
    .skip
    (.exit 0 (some [3, 6])))
  (.seq (.block 1 (.seq (.reg [⟨some 10, none, .mv (.s 8), .none⟩,
        ⟨some 7, none, .mv (.s 10), .none⟩])
    (.drw [⟨some 11, none, .mv (.s 7), .none⟩,
       ⟨some 12, none, .mv (.s 2), .none⟩,
       ⟨some 13, none, .mv (.s 7), .none⟩,
       ⟨some 14, none, .fa (.s 3) 0, .none⟩,
       ⟨some 15, none, .ia (.s 14) (.s 13) 65 1, .none⟩,
       ⟨some 16, none, .ld (.s 15) 1 false, .none⟩,
       ⟨some 17, none, .mv (.s 7), .none⟩,
       ⟨some 18, none, .fa (.s 4) 0, .none⟩,
       ⟨some 19, none, .ia (.s 18) (.s 17) 65 1, .none⟩,
       ⟨some 20, none, .ld (.s 19) 1 false, .none⟩,
       ⟨some 21, none, .callv (.s 12) [.s 16, .s 20] 2, .none⟩,
       ⟨some 22, none, .fa (.s 3) 0, .none⟩,
       ⟨some 23, none, .ia (.s 22) (.s 11) 65 1, .none⟩,
       ⟨none, none, .st (.s 23) (.s 21) 1, .none⟩]
      [[], [], [], [], [3, 2], [4], [], [], [7, 6], [8], [1, 5, 9], [], [11, 0, 0, 1, 2, 3, 4, 5, 6, 7, 8, 9, 10], [12, 10, 10, 0, 1, 2, 3, 4, 5, 6, 7, 8, 9, 10]] [])))
  (.reg [⟨some 24, none, .bin .add (.s 8) (.c (.d (.int .i64 1))), .none⟩,
     ⟨some 8, none, .mv (.s 24), .none⟩]))))
def lp72_0 : C := lb72_0
theorem u72_0 (c : Ev.Callee) (l : Ev.Looper) (s : St) : evC c l lp72_0 s = evC c l lb72_0 s := rfl
abbrev st72_0 (m : Nat) (s2 s3 s4 s6 s8 : AV) (h : Heap) : St := ⟨m, [.unk, .unk, s2, s3, s4, .unk, s6, .unk, s8, .unk, .unk, .unk, .unk, .unk, .unk, .unk, .unk, .unk, .unk, .unk, .unk, .unk, .unk, .unk, .unk, .unk], h⟩
@[go_sem] theorem ks72_0 (v0 v1 v2 v3 v4 v5 v6 v7 v8 v9 v10 v11 v12 v13 v14 v15 v16 v17 v18 v19 v20 v21 v22 v23 v24 v25 : AV) : keepS [2, 3, 4, 6, 8] [v0, v1, v2, v3, v4, v5, v6, v7, v8, v9, v10, v11, v12, v13, v14, v15, v16, v17, v18, v19, v20, v21, v22, v23, v24, v25] 0 = [.unk, .unk, v2, v3, v4, .unk, v6, .unk, v8, .unk, .unk, .unk, .unk, .unk, .unk, .unk, .unk, .unk, .unk, .unk, .unk, .unk, .unk, .unk, .unk, .unk] := rfl
@[go_sem] theorem ks72_1 (v0 v1 v2 v3 v4 v5 v6 v7 v8 v9 v10 v11 v12 v13 v14 v15 v16 v17 v18 v19 v20 v21 v22 v23 v24 v25 : AV) : keepS [3, 6] [v0, v1, v2, v3, v4, v5, v6, v7, v8, v9, v10, v11, v12, v13, v14, v15, v16, v17, v18, v19, v20, v21, v22, v23, v24, v25] 0 = [.unk, .unk, .unk, v3, .unk, .unk, v6, .unk, .unk, .unk, .unk, .unk, .unk, .unk, .unk, .unk, .unk, .unk, .unk, .unk, .unk, .unk, .unk, .unk, .unk, .unk] := rfl
/-- spence/bitmap.joined -/
def bd72 : C :=
  (.seq (.reg [⟨some 3, none, .box 54 (.s 0), .none⟩,
      ⟨some 4, none, .box 54 (.s 1), .none⟩,
      ⟨some 6, none, .alloc 54 [.int .u64 0, .int .u64 0, .int .u64 0, .int .u64 0, .int .u64 0, .int .u64 0, .int .u64 0, .int .u64 0, .int .u64 0, .int .u64 0, .int .u64 0, .int .u64 0, .int .u64 0, .int .u64 0, .int .u64 0, .int .u64 0, .int .u64 0, .int .u64 0, .int .u64 0, .int .u64 0, .int .u64 0, .int .u64 0, .int .u64 0, .int .u64 0, .int .u64 0, .int .u64 0, .int .u64 0, .int .u64 0, .int .u64 0, .int .u64 0, .int .u64 0, .int .u64 0, .int .u64 0, .int .u64 0, .int .u64 0, .int .u64 0, .int .u64 0, .int .u64 0, .int .u64 0, .int .u64 0, .int .u64 0, .int .u64 0, .int .u64 0, .int .u64 0, .int .u64 0, .int .u64 0, .int .u64 0, .int .u64 0, .int .u64 0, .int .u64 0, .int .u64 0, .int .u64 0, .int .u64 0, .int .u64 0, .int .u64 0, .int .u64 0, .int .u64 0, .int .u64 0, .int .u64 0, .int .u64 0, .int .u64 0, .int .u64 0, .int .u64 0, .int .u64 0, .int .u64 0], .none⟩])
  (.seq (.seq (.reg [⟨some 8, none, .mv (.c (.d (.int .i64 0))), .none⟩])
   (.block 0 (.loop [2, 3, 4, 6, 8] lp72_0)))
  (.seq (.reg [⟨some 25, none, .ld (.s 3) 65 true, .none⟩,
      ⟨none, none, .st (.s 6) (.s 25) 65, .none⟩])
  (.ret none))))
def ir72 : F := { n := 26, res := [.cell 6 65 true], body := bd72 }
@[go_sem] theorem n72 : ir72.n = 26 := rfl
@[go_sem] theorem r72 : ir72.res = [.cell 6 65 true] := rfl
@[go_sem] theorem b72 : ir72.body = bd72 := rfl
/-- spence/bitmap.And$1 -/
def bd73 : C :=
  (.seq (.reg [⟨some 4, none, .mv (.c (.d (.int .u64 0))), .none⟩])
  (.seq (.reg [⟨some 5, none, .mv (.s 0), .none⟩,
      ⟨some 6, none, .mv (.s 1), .none⟩,
      ⟨some 7, none, .bin .and (.s 5) (.s 6), .none⟩,
      ⟨some 4, none, .mv (.s 7), .none⟩])
  (.ret none)))
def ir73 : F := { n := 8, res := [.tmp 4], body := bd73 }
@[go_sem] theorem n73 : ir73.n = 8 := rfl
@[go_sem] theorem r73 : ir73.res = [.tmp 4] := rfl
@[go_sem] theorem b73 : ir73.body = bd73 := rfl
def lb74_0 : C :=
  (.seq (.reg [⟨some 7, none, .bin .lss (.s 6) (.s 5), .none⟩])
  (.seq (.cond (.s 7)
    .skip
    (.exit 0 (some [])))
  (.seq (.block 1 (.seq (.reg [⟨some 8, none, .mv (.s 6), .none⟩,
        ⟨some 3, none, .mv (.s 8), .none⟩])
    (.seq (.reg [⟨some 9, none, .mv (.s 0), .none⟩,
        ⟨some 10, none, .mv (.s 3), .none⟩,
        ⟨some 11, none, .sti (.s 9) (.s 10), .none⟩,
        ⟨some 12, none, .call 86 [.s 11] 2, .none⟩,
        ⟨some 13, none, .un .not (.s 12), .none⟩])
    (.cond (.s 13)
     (.seq (.reg [⟨some 2, none, .mv (.c (.d (.bool false))), .none⟩])
     (.ret (some [2])))
     .skip))))
  (.reg [⟨some 14, none, .bin .add (.s 6) (.c (.d (.int .i64 1))), .none⟩,
     ⟨some 6, none, .mv (.s 14), .none⟩]))))
def lp74_0 : C := lb74_0
theorem u74_0 (c : Ev.Callee) (l : Ev.Looper) (s : St) : evC c l lp74_0 s = evC c l lb74_0 s := rfl
abbrev st74_0 (m : Nat) (s0 s5 s6 : AV) (h : Heap) : St := ⟨m, [s0, .unk, .unk, .unk, .unk, s5, s6, .unk, .unk, .unk, .unk, .unk, .unk, .unk, .unk], h⟩
@[go_sem] theorem ks74_0 (v0 v1 v2 v3 v4 v5 v6 v7 v8 v9 v10 v11 v12 v13 v14 : AV) : keepS [0, 5, 6] [v0, v1, v2, v3, v4, v5, v6, v7, v8, v9, v10, v11, v12, v13, v14] 0 = [v0, .unk, .unk, .unk, .unk, v5, v6, .unk, .unk, .unk, .unk, .unk, .unk, .unk, .unk] := rfl
@[go_sem] theorem ks74_1 (v0 v1 v2 v3 v4 v5 v6 v7 v8 v9 v10 v11 v12 v13 v14 : AV) : keepS [] [v0, v1, v2, v3, v4, v5, v6, v7, v8, v9, v10, v11, v12, v13, v14] 0 = [.unk, .unk, .unk, .unk, .unk, .unk, .unk, .unk, .unk, .unk, .unk, .unk, .unk, .unk, .unk] := rfl
@[go_sem] theorem ks74_2 (v0 v1 v2 v3 v4 v5 v6 v7 v8 v9 v10 v11 v12 v13 v14 : AV) : keepS [2] [v0, v1, v2, v3, v4, v5, v6, v7, v8, v9, v10, v11, v12, v13, v14] 0 = [.unk, .unk, v2, .unk, .unk, .unk, .unk, .unk, .unk, .unk, .unk, .unk, .unk, .unk, .unk] := rfl
/-- spence/etag.plain -/
def bd74 : C :=
  (.seq (.reg [⟨some 2, none, .mv (.c (.d (.bool false))), .none⟩])
  (.seq (.seq (.reg [⟨some 4, none, .mv (.s 0), .none⟩,
       ⟨some 5, none, .lens (.s 4), .none⟩,
       ⟨some 6, none, .mv (.c (.d (.int .i64 0))), .none⟩])
   (.block 0 (.loop [0, 5, 6] lp74_0)))
  (.seq (.reg [⟨some 2, none, .mv (.c (.d (.bool true))), .none⟩])
  (.ret none))))
def ir74 : F := { n := 15, res := [.tmp 2], body := bd74 }
@[go_sem] theorem n74 : ir74.n = 15 := rfl
@[go_sem] theorem r74 : ir74.res = [.tmp 2] := rfl
@[go_sem] theorem b74 : ir74.body = bd74 := rfl
/-- spence/etag.may -/
def bd86 : C :=
  (.seq (.reg [⟨some 2, none, .mv (.c (.d (.bool false))), .none⟩])
  (.seq (.block 0 (.seq (.block 3 (.seq (.block 2 (.block 1 (.seq (.seq (.seq (.reg [⟨some 4, none, .mv (.s 0), .none⟩,
               ⟨some 5, none, .bin .geq (.s 4) (.c (.d (.int .u8 128))), .none⟩,
               ⟨some 3, none, .mv (.s 5), .none⟩])
           (.cond (.s 3)
            (.exit 1 none)
            .skip))
          (.seq (.seq (.reg [⟨some 7, none, .mv (.s 0), .none⟩,
               ⟨some 8, none, .bin .eql (.s 7) (.c (.d (.int .u8 33))), .none⟩,
               ⟨some 6, none, .mv (.s 8), .none⟩])
           (.cond (.s 6)
            (.exit 2 none)
            .skip))
          (.seq (.reg [⟨some 10, none, .mv (.s 0), .none⟩,
              ⟨some 11, none, .bin .eql (.s 10) (.c (.d (.int .u8 127))), .none⟩,
              ⟨some 9, none, .mv (.s 11), .none⟩])
          (.cond (.s 9)
           (.exit 3 none)
           .skip))))
         (.exit 0 none))))
      (.seq (.seq (.reg [⟨some 2, none, .mv (.c (.d (.bool true))), .none⟩])
       (.ret none))
      (.exit 0 none))))
    (.seq (.seq (.reg [⟨some 2, none, .mv (.c (.d (.bool false))), .none⟩])
     (.ret none))
    (.exit 0 none))))
  (.seq (.reg [⟨some 12, none, .mv (.s 0), .none⟩,
      ⟨some 13, none, .bin .geq (.s 12) (.c (.d (.int .u8 35))), .none⟩,
      ⟨some 2, none, .mv (.s 13), .none⟩])
  (.ret none))))
def ir86 : F := { n := 14, res := [.tmp 2], body := bd86 }
@[go_sem] theorem n86 : ir86.n = 14 := rfl
@[go_sem] theorem r86 : ir86.res = [.tmp 2] := rfl
@[go_sem] theorem b86 : ir86.body = bd86 := rfl

def irf : FuncId → Option F
  | 3 => some ir3
  | 4 => some ir4
  | 5 => some ir5
  | 6 => some ir6
  | 7 => some ir7
  | 8 => some ir8
  | 9 => some ir9
  | 10 => some ir10
  | 11 => some ir11
  | 12 => some ir12
  | 13 => some ir13
  | 14 => some ir14
  | 15 => some ir15
  | 16 => some ir16
  | 17 => some ir17
  | 18 => some ir18
  | 19 => some ir19
  | 20 => some ir20
  | 22 => some ir22
  | 23 => some ir23
  | 24 => some ir24
  | 25 => some ir25
  | 26 => some ir26
  | 27 => some ir27
  | 28 => some ir28
  | 29 => some ir29
  | 30 => some ir30
  | 31 => some ir31
  | 32 => some ir32
  | 33 => some ir33
  | 34 => some ir34
  | 35 => some ir35
  | 36 => some ir36
  | 37 => some ir37
  | 38 => some ir38
  | 39 => some ir39
  | 40 => some ir40
  | 41 => some ir41
  | 43 => some ir43
  | 44 => some ir44
  | 45 => some ir45
  | 46 => some ir46
  | 47 => some ir47
  | 48 => some ir48
  | 49 => some ir49
  | 51 => some ir51
  | 52 => some ir52
  | 53 => some ir53
  | 54 => some ir54
  | 56 => some ir56
  | 57 => some ir57
  | 58 => some ir58
  | 59 => some ir59
  | 62 => some ir62
  | 63 => some ir63
  | 64 => some ir64
  | 65 => some ir65
  | 66 => some ir66
  | 68 => some ir68
  | 72 => some ir72
  | 73 => some ir73
  | 74 => some ir74
  | 86 => some ir86
  | _ => none
def ir : IR := ⟨irf, natOr (natME 21) (natOr (natMC 55) (natOr (natBC 50) (natOr (natSO 42 62) (natNo))))⟩
theorem c3 : cF Try.prog 3 = some ir3.strip := by kernel_rfl
theorem k3 : ir3.body.okD = true := by kernel_rfl
theorem c4 : cF Try.prog 4 = some ir4.strip := by kernel_rfl
theorem k4 : ir4.body.okD = true := by kernel_rfl
theorem c5 : cF Try.prog 5 = some ir5.strip := by kernel_rfl
theorem k5 : ir5.body.okD = true := by kernel_rfl
theorem c6 : cF Try.prog 6 = some ir6.strip := by kernel_rfl
theorem k6 : ir6.body.okD = true := by kernel_rfl
theorem c7 : cF Try.prog 7 = some ir7.strip := by kernel_rfl
theorem k7 : ir7.body.okD = true := by kernel_rfl
theorem c8 : cF Try.prog 8 = some ir8.strip := by kernel_rfl
theorem k8 : ir8.body.okD = true := by kernel_rfl
theorem c9 : cF Try.prog 9 = some ir9.strip := by kernel_rfl
theorem k9 : ir9.body.okD = true := by kernel_rfl
theorem c10 : cF Try.prog 10 = some ir10.strip := by kernel_rfl
theorem k10 : ir10.body.okD = true := by kernel_rfl
theorem c11 : cF Try.prog 11 = some ir11.strip := by kernel_rfl
theorem k11 : ir11.body.okD = true := by kernel_rfl
theorem c12 : cF Try.prog 12 = some ir12.strip := by kernel_rfl
theorem k12 : ir12.body.okD = true := by kernel_rfl
theorem c13 : cF Try.prog 13 = some ir13.strip := by kernel_rfl
theorem k13 : ir13.body.okD = true := by kernel_rfl
theorem c14 : cF Try.prog 14 = some ir14.strip := by kernel_rfl
theorem k14 : ir14.body.okD = true := by kernel_rfl
theorem c15 : cF Try.prog 15 = some ir15.strip := by kernel_rfl
theorem k15 : ir15.body.okD = true := by kernel_rfl
theorem c16 : cF Try.prog 16 = some ir16.strip := by kernel_rfl
theorem k16 : ir16.body.okD = true := by kernel_rfl
theorem c17 : cF Try.prog 17 = some ir17.strip := by kernel_rfl
theorem k17 : ir17.body.okD = true := by kernel_rfl
theorem c18 : cF Try.prog 18 = some ir18.strip := by kernel_rfl
theorem k18 : ir18.body.okD = true := by kernel_rfl
theorem c19 : cF Try.prog 19 = some ir19.strip := by kernel_rfl
theorem k19 : ir19.body.okD = true := by kernel_rfl
theorem c20 : cF Try.prog 20 = some ir20.strip := by kernel_rfl
theorem k20 : ir20.body.okD = true := by kernel_rfl
theorem c22 : cF Try.prog 22 = some ir22.strip := by kernel_rfl
theorem k22 : ir22.body.okD = true := by kernel_rfl
theorem c23 : cF Try.prog 23 = some ir23.strip := by kernel_rfl
theorem k23 : ir23.body.okD = true := by kernel_rfl
theorem c24 : cF Try.prog 24 = some ir24.strip := by kernel_rfl
theorem k24 : ir24.body.okD = true := by kernel_rfl
theorem c25 : cF Try.prog 25 = some ir25.strip := by kernel_rfl
theorem k25 : ir25.body.okD = true := by kernel_rfl
theorem c26 : cF Try.prog 26 = some ir26.strip := by kernel_rfl
theorem k26 : ir26.body.okD = true := by kernel_rfl
theorem c27 : cF Try.prog 27 = some ir27.strip := by kernel_rfl
theorem k27 : ir27.body.okD = true := by kernel_rfl
theorem c28 : cF Try.prog 28 = some ir28.strip := by kernel_rfl
theorem k28 : ir28.body.okD = true := by kernel_rfl
theorem c29 : cF Try.prog 29 = some ir29.strip := by kernel_rfl
theorem k29 : ir29.body.okD = true := by kernel_rfl
theorem c30 : cF Try.prog 30 = some ir30.strip := by kernel_rfl
theorem k30 : ir30.body.okD = true := by kernel_rfl
theorem c31 : cF Try.prog 31 = some ir31.strip := by kernel_rfl
theorem k31 : ir31.body.okD = true := by kernel_rfl
theorem c32 : cF Try.prog 32 = some ir32.strip := by kernel_rfl
theorem k32 : ir32.body.okD = true := by kernel_rfl
theorem c33 : cF Try.prog 33 = some ir33.strip := by kernel_rfl
theorem k33 : ir33.body.okD = true := by kernel_rfl
theorem c34 : cF Try.prog 34 = some ir34.strip := by kernel_rfl
theorem k34 : ir34.body.okD = true := by kernel_rfl
theorem c35 : cF Try.prog 35 = some ir35.strip := by kernel_rfl
theorem k35 : ir35.body.okD = true := by kernel_rfl
theorem c36 : cF Try.prog 36 = some ir36.strip := by kernel_rfl
theorem k36 : ir36.body.okD = true := by kernel_rfl
theorem c37 : cF Try.prog 37 = some ir37.strip := by kernel_rfl
theorem k37 : ir37.body.okD = true := by kernel_rfl
theorem c38 : cF Try.prog 38 = some ir38.strip := by kernel_rfl
theorem k38 : ir38.body.okD = true := by kernel_rfl
theorem c39 : cF Try.prog 39 = some ir39.strip := by kernel_rfl
theorem k39 : ir39.body.okD = true := by kernel_rfl
theorem c40 : cF Try.prog 40 = some ir40.strip := by kernel_rfl
theorem k40 : ir40.body.okD = true := by kernel_rfl
theorem c41 : cF Try.prog 41 = some ir41.strip := by kernel_rfl
theorem k41 : ir41.body.okD = true := by kernel_rfl
theorem c43 : cF Try.prog 43 = some ir43.strip := by kernel_rfl
theorem k43 : ir43.body.okD = true := by kernel_rfl
theorem c44 : cF Try.prog 44 = some ir44.strip := by kernel_rfl
theorem k44 : ir44.body.okD = true := by kernel_rfl
theorem c45 : cF Try.prog 45 = some ir45.strip := by kernel_rfl
theorem k45 : ir45.body.okD = true := by kernel_rfl
theorem c46 : cF Try.prog 46 = some ir46.strip := by kernel_rfl
theorem k46 : ir46.body.okD = true := by kernel_rfl
theorem c47 : cF Try.prog 47 = some ir47.strip := by kernel_rfl
theorem k47 : ir47.body.okD = true := by kernel_rfl
theorem c48 : cF Try.prog 48 = some ir48.strip := by kernel_rfl
theorem k48 : ir48.body.okD = true := by kernel_rfl
theorem c49 : cF Try.prog 49 = some ir49.strip := by kernel_rfl
theorem k49 : ir49.body.okD = true := by kernel_rfl
theorem c51 : cF Try.prog 51 = some ir51.strip := by kernel_rfl
theorem k51 : ir51.body.okD = true := by kernel_rfl
theorem c52 : cF Try.prog 52 = some ir52.strip := by kernel_rfl
theorem k52 : ir52.body.okD = true := by kernel_rfl
theorem c53 : cF Try.prog 53 = some ir53.strip := by kernel_rfl
theorem k53 : ir53.body.okD = true := by kernel_rfl
theorem c54 : cF Try.prog 54 = some ir54.strip := by kernel_rfl
theorem k54 : ir54.body.okD = true := by kernel_rfl
theorem c56 : cF Try.prog 56 = some ir56.strip := by kernel_rfl
theorem k56 : ir56.body.okD = true := by kernel_rfl
theorem c57 : cF Try.prog 57 = some ir57.strip := by kernel_rfl
theorem k57 : ir57.body.okD = true := by kernel_rfl
theorem c58 : cF Try.prog 58 = some ir58.strip := by kernel_rfl
theorem k58 : ir58.body.okD = true := by kernel_rfl
theorem c59 : cF Try.prog 59 = some ir59.strip := by kernel_rfl
theorem k59 : ir59.body.okD = true := by kernel_rfl
theorem c62 : cF Try.prog 62 = some ir62.strip := by kernel_rfl
theorem k62 : ir62.body.okD = true := by kernel_rfl
theorem c63 : cF Try.prog 63 = some ir63.strip := by kernel_rfl
theorem k63 : ir63.body.okD = true := by kernel_rfl
theorem c64 : cF Try.prog 64 = some ir64.strip := by kernel_rfl
theorem k64 : ir64.body.okD = true := by kernel_rfl
theorem c65 : cF Try.prog 65 = some ir65.strip := by kernel_rfl
theorem k65 : ir65.body.okD = true := by kernel_rfl
theorem c66 : cF Try.prog 66 = some ir66.strip := by kernel_rfl
theorem k66 : ir66.body.okD = true := by kernel_rfl
theorem c68 : cF Try.prog 68 = some ir68.strip := by kernel_rfl
theorem k68 : ir68.body.okD = true := by kernel_rfl
theorem c72 : cF Try.prog 72 = some ir72.strip := by kernel_rfl
theorem k72 : ir72.body.okD = true := by kernel_rfl
theorem c73 : cF Try.prog 73 = some ir73.strip := by kernel_rfl
theorem k73 : ir73.body.okD = true := by kernel_rfl
theorem c74 : cF Try.prog 74 = some ir74.strip := by kernel_rfl
theorem k74 : ir74.body.okD = true := by kernel_rfl
theorem c86 : cF Try.prog 86 = some ir86.strip := by kernel_rfl
theorem k86 : ir86.body.okD = true := by kernel_rfl
theorem tab : Tab Try.prog ir := by
  refine ⟨by kernel_rfl, fun f fn h => ?_, natOr_snd (Try.equalN) (natOr_snd (Try.cloneN) (natOr_snd (Try.bcloneN) (natOr_snd (Try.sortedN) (natNo_snd))))⟩
  change irf f = some fn at h
  unfold irf at h
  split at h
  · cases h; exact ⟨c3, k3⟩
  · cases h; exact ⟨c4, k4⟩
  · cases h; exact ⟨c5, k5⟩
  · cases h; exact ⟨c6, k6⟩
  · cases h; exact ⟨c7, k7⟩
  · cases h; exact ⟨c8, k8⟩
  · cases h; exact ⟨c9, k9⟩
  · cases h; exact ⟨c10, k10⟩
  · cases h; exact ⟨c11, k11⟩
  · cases h; exact ⟨c12, k12⟩
  · cases h; exact ⟨c13, k13⟩
  · cases h; exact ⟨c14, k14⟩
  · cases h; exact ⟨c15, k15⟩
  · cases h; exact ⟨c16, k16⟩
  · cases h; exact ⟨c17, k17⟩
  · cases h; exact ⟨c18, k18⟩
  · cases h; exact ⟨c19, k19⟩
  · cases h; exact ⟨c20, k20⟩
  · cases h; exact ⟨c22, k22⟩
  · cases h; exact ⟨c23, k23⟩
  · cases h; exact ⟨c24, k24⟩
  · cases h; exact ⟨c25, k25⟩
  · cases h; exact ⟨c26, k26⟩
  · cases h; exact ⟨c27, k27⟩
  · cases h; exact ⟨c28, k28⟩
  · cases h; exact ⟨c29, k29⟩
  · cases h; exact ⟨c30, k30⟩
  · cases h; exact ⟨c31, k31⟩
  · cases h; exact ⟨c32, k32⟩
  · cases h; exact ⟨c33, k33⟩
  · cases h; exact ⟨c34, k34⟩
  · cases h; exact ⟨c35, k35⟩
  · cases h; exact ⟨c36, k36⟩
  · cases h; exact ⟨c37, k37⟩
  · cases h; exact ⟨c38, k38⟩
  · cases h; exact ⟨c39, k39⟩
  · cases h; exact ⟨c40, k40⟩
  · cases h; exact ⟨c41, k41⟩
  · cases h; exact ⟨c43, k43⟩
  · cases h; exact ⟨c44, k44⟩
  · cases h; exact ⟨c45, k45⟩
  · cases h; exact ⟨c46, k46⟩
  · cases h; exact ⟨c47, k47⟩
  · cases h; exact ⟨c48, k48⟩
  · cases h; exact ⟨c49, k49⟩
  · cases h; exact ⟨c51, k51⟩
  · cases h; exact ⟨c52, k52⟩
  · cases h; exact ⟨c53, k53⟩
  · cases h; exact ⟨c54, k54⟩
  · cases h; exact ⟨c56, k56⟩
  · cases h; exact ⟨c57, k57⟩
  · cases h; exact ⟨c58, k58⟩
  · cases h; exact ⟨c59, k59⟩
  · cases h; exact ⟨c62, k62⟩
  · cases h; exact ⟨c63, k63⟩
  · cases h; exact ⟨c64, k64⟩
  · cases h; exact ⟨c65, k65⟩
  · cases h; exact ⟨c66, k66⟩
  · cases h; exact ⟨c68, k68⟩
  · cases h; exact ⟨c72, k72⟩
  · cases h; exact ⟨c73, k73⟩
  · cases h; exact ⟨c74, k74⟩
  · cases h; exact ⟨c86, k86⟩
  · cases h
end Go.Proofs.Ytoipfdbdifoecaa.Ir
