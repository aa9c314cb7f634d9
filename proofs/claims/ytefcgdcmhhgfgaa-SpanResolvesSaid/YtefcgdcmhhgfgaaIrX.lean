/- The texts of the functions in the small language. Printed by a program of my own (irgen.py). -/
import Derived.Test.YtefcgdcmhhgfgaaEvSim
import Derived.Test.YtefcgdcmhhgfgaaProg
namespace Go.Proofs.Ytefcgdcmhhgfgaa.Ir
open Go Go.Ev

def lb5_0 : C :=
  (.seq (.reg [⟨some 19, none, .bin .lss (.s 18) (.s 17)⟩])
  (.seq (.cond (.s 19)
    .skip
    (.exit 0 (some [0, 1, 5])))
  (.seq (.block 1 (.seq (.reg [⟨some 20, none, .is (.s 16) (.s 18) 2⟩,
        ⟨some 21, none, .ld (.s 20) 2 true⟩,
        ⟨some 7, none, .alloc 38 [.int .i64 0, .int .i64 0]⟩,
        ⟨none, none, .st (.s 7) (.s 21) 2⟩])
    (.seq (.reg [⟨some 22, none, .fa (.s 7) 0⟩,
        ⟨some 23, none, .ld (.s 22) 1 false⟩,
        ⟨some 24, none, .bin .lss (.s 23) (.c (.d (.int .i64 0)))⟩,
        ⟨some 25, none, .mv (.s 24)⟩,
        ⟨some 26, some (25, false), .fa (.s 7) 0⟩,
        ⟨some 27, some (25, false), .ld (.s 26) 1 false⟩,
        ⟨some 28, some (25, false), .fa (.s 7) 1⟩,
        ⟨some 29, some (25, false), .ld (.s 28) 1 false⟩,
        ⟨some 30, some (25, false), .bin .geq (.s 27) (.s 29)⟩,
        ⟨some 31, none, .pick (.s 25) (.c (.d (.bool true))) (.s 30)⟩,
        ⟨some 32, none, .mv (.s 31)⟩,
        ⟨some 33, some (32, false), .fa (.s 7) 1⟩,
        ⟨some 34, some (32, false), .ld (.s 33) 1 false⟩,
        ⟨some 35, some (32, false), .mv (.s 1)⟩,
        ⟨some 36, some (32, false), .bin .gtr (.s 34) (.s 35)⟩,
        ⟨some 37, none, .pick (.s 32) (.c (.d (.bool true))) (.s 36)⟩])
    (.cond (.s 37)
     (.seq (.reg [⟨some 4, none, .mv (.c (.d (.bool false)))⟩])
     (.ret (some [4])))
     .skip))))
  (.reg [⟨some 38, none, .bin .add (.s 18) (.c (.d (.int .i64 1)))⟩,
     ⟨some 18, none, .mv (.s 38)⟩]))))
def lp5_0 : C := lb5_0
theorem u5_0 (c : Ev.Callee) (l : Ev.Looper) (s : St) : evC c l lp5_0 s = evC c l lb5_0 s := rfl
abbrev st5_0 (m : Nat) (s0 s1 s5 s16 s17 s18 : AV) (h : Heap) : St := ⟨m, [s0, s1, .unk, .unk, .unk, s5, .unk, .unk, .unk, .unk, .unk, .unk, .unk, .unk, .unk, .unk, s16, s17, s18, .unk, .unk, .unk, .unk, .unk, .unk, .unk, .unk, .unk, .unk, .unk, .unk, .unk, .unk, .unk, .unk, .unk, .unk, .unk, .unk, .unk, .unk, .unk, .unk, .unk], h⟩
@[go_sem] theorem ks5_0 (v0 v1 v2 v3 v4 v5 v6 v7 v8 v9 v10 v11 v12 v13 v14 v15 v16 v17 v18 v19 v20 v21 v22 v23 v24 v25 v26 v27 v28 v29 v30 v31 v32 v33 v34 v35 v36 v37 v38 v39 v40 v41 v42 v43 : AV) : keepS [0, 1, 5, 16, 17, 18] [v0, v1, v2, v3, v4, v5, v6, v7, v8, v9, v10, v11, v12, v13, v14, v15, v16, v17, v18, v19, v20, v21, v22, v23, v24, v25, v26, v27, v28, v29, v30, v31, v32, v33, v34, v35, v36, v37, v38, v39, v40, v41, v42, v43] 0 = [v0, v1, .unk, .unk, .unk, v5, .unk, .unk, .unk, .unk, .unk, .unk, .unk, .unk, .unk, .unk, v16, v17, v18, .unk, .unk, .unk, .unk, .unk, .unk, .unk, .unk, .unk, .unk, .unk, .unk, .unk, .unk, .unk, .unk, .unk, .unk, .unk, .unk, .unk, .unk, .unk, .unk, .unk] := rfl
@[go_sem] theorem ks5_1 (v0 v1 v2 v3 v4 v5 v6 v7 v8 v9 v10 v11 v12 v13 v14 v15 v16 v17 v18 v19 v20 v21 v22 v23 v24 v25 v26 v27 v28 v29 v30 v31 v32 v33 v34 v35 v36 v37 v38 v39 v40 v41 v42 v43 : AV) : keepS [0, 1, 5] [v0, v1, v2, v3, v4, v5, v6, v7, v8, v9, v10, v11, v12, v13, v14, v15, v16, v17, v18, v19, v20, v21, v22, v23, v24, v25, v26, v27, v28, v29, v30, v31, v32, v33, v34, v35, v36, v37, v38, v39, v40, v41, v42, v43] 0 = [v0, v1, .unk, .unk, .unk, v5, .unk, .unk, .unk, .unk, .unk, .unk, .unk, .unk, .unk, .unk, .unk, .unk, .unk, .unk, .unk, .unk, .unk, .unk, .unk, .unk, .unk, .unk, .unk, .unk, .unk, .unk, .unk, .unk, .unk, .unk, .unk, .unk, .unk, .unk, .unk, .unk, .unk, .unk] := rfl
@[go_sem] theorem ks5_2 (v0 v1 v2 v3 v4 v5 v6 v7 v8 v9 v10 v11 v12 v13 v14 v15 v16 v17 v18 v19 v20 v21 v22 v23 v24 v25 v26 v27 v28 v29 v30 v31 v32 v33 v34 v35 v36 v37 v38 v39 v40 v41 v42 v43 : AV) : keepS [4] [v0, v1, v2, v3, v4, v5, v6, v7, v8, v9, v10, v11, v12, v13, v14, v15, v16, v17, v18, v19, v20, v21, v22, v23, v24, v25, v26, v27, v28, v29, v30, v31, v32, v33, v34, v35, v36, v37, v38, v39, v40, v41, v42, v43] 0 = [.unk, .unk, .unk, .unk, v4, .unk, .unk, .unk, .unk, .unk, .unk, .unk, .unk, .unk, .unk, .unk, .unk, .unk, .unk, .unk, .unk, .unk, .unk, .unk, .unk, .unk, .unk, .unk, .unk, .unk, .unk, .unk, .unk, .unk, .unk, .unk, .unk, .unk, .unk, .unk, .unk, .unk, .unk, .unk] := rfl
/-- spence/spencelaw06.SpanResolves -/
def bd5 : C :=
  (.seq (.reg [⟨some 4, none, .mv (.c (.d (.bool false)))⟩])
  (.seq (.seq (.reg [⟨some 8, none, .call 18 [] 2⟩,
       ⟨some 9, none, .un .not (.s 8)⟩])
   (.cond (.s 9)
    (.seq (.reg [⟨some 4, none, .mv (.c (.d (.bool false)))⟩])
    (.ret none))
    .skip))
  (.seq (.seq (.reg [⟨some 10, none, .mv (.s 0)⟩,
       ⟨some 11, none, .len (.s 10)⟩,
       ⟨some 12, none, .bin .gtr (.s 11) (.c (.d (.int .i64 40)))⟩])
   (.cond (.s 12)
    (.seq (.reg [⟨some 4, none, .mv (.c (.d (.bool true)))⟩])
    (.ret none))
    .skip))
  (.seq (.reg [⟨some 13, none, .mv (.s 0)⟩,
      ⟨some 14, none, .mv (.s 1)⟩,
      ⟨some 15, none, .call 19 [.s 13, .s 14] 2⟩,
      ⟨some 5, none, .mv (.s 15)⟩])
  (.seq (.seq (.reg [⟨some 16, none, .mv (.s 5)⟩,
       ⟨some 17, none, .len (.s 16)⟩,
       ⟨some 18, none, .mv (.c (.d (.int .i64 0)))⟩])
   (.block 0 (.loop [0, 1, 5, 16, 17, 18] lp5_0)))
  (.seq (.reg [⟨some 39, none, .mv (.s 5)⟩,
      ⟨some 40, none, .mv (.s 0)⟩,
      ⟨some 41, none, .mv (.s 1)⟩,
      ⟨some 42, none, .call 21 [.s 40, .s 41] 2⟩,
      ⟨some 43, none, .call 20 [.s 39, .s 42] 2⟩,
      ⟨some 4, none, .mv (.s 43)⟩])
  (.ret none)))))))
def ir5 : F := { n := 44, res := [.tmp 4], body := bd5 }
@[go_sem] theorem n5 : ir5.n = 44 := rfl
@[go_sem] theorem r5 : ir5.res = [.tmp 4] := rfl
@[go_sem] theorem b5 : ir5.body = bd5 := rfl
/-- spence/spencelaw06.awake -/
def bd18 : C :=
  (.seq (.reg [⟨some 0, none, .mv (.c (.d (.bool false)))⟩])
  (.seq (.reg [⟨some 2, none, .build [.int .i64 0, .int .i64 0, .int .i64 0] [(0, (1, .c (.d (.int .i64 3)))), (1, (1, .c (.d (.int .i64 500))))]⟩,
      ⟨some 3, none, .bsl 96 3 1 [.int .i64 0, .int .i64 0, .int .i64 0] [(0, (3, .s 2))]⟩,
      ⟨some 4, none, .call 19 [.s 3, .c (.d (.int .i64 100))] 0⟩,
      ⟨some 1, none, .mv (.s 4)⟩])
  (.seq (.reg [⟨some 5, none, .mv (.s 1)⟩,
      ⟨some 6, none, .len (.s 5)⟩,
      ⟨some 7, none, .bin .eql (.s 6) (.c (.d (.int .i64 1)))⟩,
      ⟨some 8, none, .mv (.s 7)⟩,
      ⟨some 9, some (8, true), .mv (.s 1)⟩,
      ⟨some 10, some (8, true), .is (.s 9) (.c (.d (.int .i64 0))) 2⟩,
      ⟨some 11, some (8, true), .ld (.s 10) 2 true⟩,
      ⟨some 12, some (8, true), .build [.int .i64 0, .int .i64 0] [(1, (1, .c (.d (.int .i64 100))))]⟩,
      ⟨some 13, some (8, true), .eqs false [1, 1] (.s 11) (.s 12)⟩,
      ⟨some 14, none, .pick (.s 8) (.s 13) (.c (.d (.bool false)))⟩,
      ⟨some 0, none, .mv (.s 14)⟩])
  (.ret none))))
def ir18 : F := { n := 15, res := [.tmp 0], body := bd18 }
@[go_sem] theorem n18 : ir18.n = 15 := rfl
@[go_sem] theorem r18 : ir18.res = [.tmp 0] := rfl
@[go_sem] theorem b18 : ir18.body = bd18 := rfl
def lb19_0 : C :=
  (.seq (.reg [⟨some 15, none, .bin .lss (.s 14) (.s 13)⟩])
  (.seq (.cond (.s 15)
    .skip
    (.exit 0 (some [5])))
  (.seq (.block 1 (.seq (.reg [⟨some 16, none, .is (.s 12) (.s 14) 3⟩,
        ⟨some 17, none, .ld (.s 16) 3 true⟩,
        ⟨some 7, none, .alloc 96 [.int .i64 0, .int .i64 0, .int .i64 0]⟩,
        ⟨none, none, .st (.s 7) (.s 17) 3⟩])
    (.seq (.seq (.reg [⟨some 18, none, .ld (.s 7) 3 true⟩,
         ⟨some 19, none, .call 49 [.s 18] 2⟩,
         ⟨some 20, none, .un .not (.s 19)⟩])
     (.cond (.s 20)
      (.exit 1 none)
      .skip))
    (.seq (.reg [⟨some 21, none, .ld (.s 7) 3 true⟩,
        ⟨some 22, none, .mv (.s 1)⟩,
        ⟨some 23, none, .call 50 [.s 21, .s 22] 2⟩,
        ⟨some 8, none, .alloc 38 [.int .i64 0, .int .i64 0]⟩,
        ⟨none, none, .st (.s 8) (.s 23) 2⟩])
    (.seq (.reg [⟨some 24, none, .ld (.s 8) 2 true⟩,
        ⟨some 25, none, .call 25 [.s 24] 2⟩])
    (.cond (.s 25)
     (.reg [⟨some 26, none, .mv (.s 5)⟩,
        ⟨some 27, none, .ld (.s 8) 2 true⟩,
        ⟨some 28, none, .bsl 38 2 1 [.int .i64 0, .int .i64 0] [(0, (2, .s 27))]⟩,
        ⟨some 29, none, .app 38 2 16 (.s 26) (.s 28)⟩,
        ⟨some 5, none, .mv (.s 29)⟩])
     .skip))))))
  (.reg [⟨some 30, none, .bin .add (.s 14) (.c (.d (.int .i64 1)))⟩,
     ⟨some 14, none, .mv (.s 30)⟩]))))
def lp19_0 : C := lb19_0
theorem u19_0 (c : Ev.Callee) (l : Ev.Looper) (s : St) : evC c l lp19_0 s = evC c l lb19_0 s := rfl
abbrev st19_0 (m : Nat) (s1 s5 s12 s13 s14 : AV) (h : Heap) : St := ⟨m, [.unk, s1, .unk, .unk, .unk, s5, .unk, .unk, .unk, .unk, .unk, .unk, s12, s13, s14, .unk, .unk, .unk, .unk, .unk, .unk, .unk, .unk, .unk, .unk, .unk, .unk, .unk, .unk, .unk, .unk, .unk], h⟩
@[go_sem] theorem ks19_0 (v0 v1 v2 v3 v4 v5 v6 v7 v8 v9 v10 v11 v12 v13 v14 v15 v16 v17 v18 v19 v20 v21 v22 v23 v24 v25 v26 v27 v28 v29 v30 v31 : AV) : keepS [1, 5, 12, 13, 14] [v0, v1, v2, v3, v4, v5, v6, v7, v8, v9, v10, v11, v12, v13, v14, v15, v16, v17, v18, v19, v20, v21, v22, v23, v24, v25, v26, v27, v28, v29, v30, v31] 0 = [.unk, v1, .unk, .unk, .unk, v5, .unk, .unk, .unk, .unk, .unk, .unk, v12, v13, v14, .unk, .unk, .unk, .unk, .unk, .unk, .unk, .unk, .unk, .unk, .unk, .unk, .unk, .unk, .unk, .unk, .unk] := rfl
@[go_sem] theorem ks19_1 (v0 v1 v2 v3 v4 v5 v6 v7 v8 v9 v10 v11 v12 v13 v14 v15 v16 v17 v18 v19 v20 v21 v22 v23 v24 v25 v26 v27 v28 v29 v30 v31 : AV) : keepS [5] [v0, v1, v2, v3, v4, v5, v6, v7, v8, v9, v10, v11, v12, v13, v14, v15, v16, v17, v18, v19, v20, v21, v22, v23, v24, v25, v26, v27, v28, v29, v30, v31] 0 = [.unk, .unk, .unk, .unk, .unk, v5, .unk, .unk, .unk, .unk, .unk, .unk, .unk, .unk, .unk, .unk, .unk, .unk, .unk, .unk, .unk, .unk, .unk, .unk, .unk, .unk, .unk, .unk, .unk, .unk, .unk, .unk] := rfl
/-- spence/span.Resolve -/
def bd19 : C :=
  (.seq (.reg [⟨some 4, none, .mv (.c (.d .nils))⟩])
  (.seq (.seq (.reg [⟨some 9, none, .mv (.s 1)⟩,
       ⟨some 10, none, .call 48 [.s 9, .c (.d (.int .i64 1)), .c (.d (.int .i64 4611686018427387903))] 2⟩,
       ⟨some 11, none, .un .not (.s 10)⟩])
   (.cond (.s 11)
    (.seq (.reg [⟨some 4, none, .mv (.c (.d .nils))⟩])
    (.ret none))
    .skip))
  (.seq (.reg [⟨some 5, none, .mv (.c (.d .nils))⟩])
  (.seq (.seq (.reg [⟨some 12, none, .mv (.s 0)⟩,
       ⟨some 13, none, .len (.s 12)⟩,
       ⟨some 14, none, .mv (.c (.d (.int .i64 0)))⟩])
   (.block 0 (.loop [1, 5, 12, 13, 14] lp19_0)))
  (.seq (.reg [⟨some 31, none, .mv (.s 5)⟩,
      ⟨some 4, none, .mv (.s 31)⟩])
  (.ret none))))))
def ir19 : F := { n := 32, res := [.tmp 4], body := bd19 }
@[go_sem] theorem n19 : ir19.n = 32 := rfl
@[go_sem] theorem r19 : ir19.res = [.tmp 4] := rfl
@[go_sem] theorem b19 : ir19.body = bd19 := rfl
def lb20_0 : C :=
  (.seq (.reg [⟨some 14, none, .bin .lss (.s 13) (.s 12)⟩])
  (.seq (.cond (.s 14)
    .skip
    (.exit 0 (some [])))
  (.seq (.block 1 (.seq (.reg [⟨some 15, none, .mv (.s 13)⟩,
        ⟨some 5, none, .mv (.s 15)⟩])
    (.seq (.drw [⟨some 16, none, .mv (.s 0)⟩,
        ⟨some 17, none, .mv (.s 5)⟩,
        ⟨some 18, none, .is (.s 16) (.s 17) 2⟩,
        ⟨some 19, none, .ld (.s 18) 2 true⟩,
        ⟨some 20, none, .mv (.s 1)⟩,
        ⟨some 21, none, .mv (.s 5)⟩,
        ⟨some 22, none, .is (.s 20) (.s 21) 2⟩,
        ⟨some 23, none, .ld (.s 22) 2 true⟩,
        ⟨some 24, none, .eqs true [1, 1] (.s 19) (.s 23)⟩]
       [[], [], [0, 1], [2], [], [], [4, 5], [6], [3, 7]])
    (.cond (.s 24)
     (.seq (.reg [⟨some 4, none, .mv (.c (.d (.bool false)))⟩])
     (.ret (some [4])))
     .skip))))
  (.reg [⟨some 25, none, .bin .add (.s 13) (.c (.d (.int .i64 1)))⟩,
     ⟨some 13, none, .mv (.s 25)⟩]))))
def lp20_0 : C := lb20_0
theorem u20_0 (c : Ev.Callee) (l : Ev.Looper) (s : St) : evC c l lp20_0 s = evC c l lb20_0 s := rfl
abbrev st20_0 (m : Nat) (s0 s1 s12 s13 : AV) (h : Heap) : St := ⟨m, [s0, s1, .unk, .unk, .unk, .unk, .unk, .unk, .unk, .unk, .unk, .unk, s12, s13, .unk, .unk, .unk, .unk, .unk, .unk, .unk, .unk, .unk, .unk, .unk, .unk], h⟩
@[go_sem] theorem ks20_0 (v0 v1 v2 v3 v4 v5 v6 v7 v8 v9 v10 v11 v12 v13 v14 v15 v16 v17 v18 v19 v20 v21 v22 v23 v24 v25 : AV) : keepS [0, 1, 12, 13] [v0, v1, v2, v3, v4, v5, v6, v7, v8, v9, v10, v11, v12, v13, v14, v15, v16, v17, v18, v19, v20, v21, v22, v23, v24, v25] 0 = [v0, v1, .unk, .unk, .unk, .unk, .unk, .unk, .unk, .unk, .unk, .unk, v12, v13, .unk, .unk, .unk, .unk, .unk, .unk, .unk, .unk, .unk, .unk, .unk, .unk] := rfl
@[go_sem] theorem ks20_1 (v0 v1 v2 v3 v4 v5 v6 v7 v8 v9 v10 v11 v12 v13 v14 v15 v16 v17 v18 v19 v20 v21 v22 v23 v24 v25 : AV) : keepS [] [v0, v1, v2, v3, v4, v5, v6, v7, v8, v9, v10, v11, v12, v13, v14, v15, v16, v17, v18, v19, v20, v21, v22, v23, v24, v25] 0 = [.unk, .unk, .unk, .unk, .unk, .unk, .unk, .unk, .unk, .unk, .unk, .unk, .unk, .unk, .unk, .unk, .unk, .unk, .unk, .unk, .unk, .unk, .unk, .unk, .unk, .unk] := rfl
@[go_sem] theorem ks20_2 (v0 v1 v2 v3 v4 v5 v6 v7 v8 v9 v10 v11 v12 v13 v14 v15 v16 v17 v18 v19 v20 v21 v22 v23 v24 v25 : AV) : keepS [4] [v0, v1, v2, v3, v4, v5, v6, v7, v8, v9, v10, v11, v12, v13, v14, v15, v16, v17, v18, v19, v20, v21, v22, v23, v24, v25] 0 = [.unk, .unk, .unk, .unk, v4, .unk, .unk, .unk, .unk, .unk, .unk, .unk, .unk, .unk, .unk, .unk, .unk, .unk, .unk, .unk, .unk, .unk, .unk, .unk, .unk, .unk] := rfl
/-- spence/spenceref04.Spans -/
def bd20 : C :=
  (.seq (.reg [⟨some 4, none, .mv (.c (.d (.bool false)))⟩])
  (.seq (.seq (.reg [⟨some 6, none, .mv (.s 0)⟩,
       ⟨some 7, none, .len (.s 6)⟩,
       ⟨some 8, none, .mv (.s 1)⟩,
       ⟨some 9, none, .len (.s 8)⟩,
       ⟨some 10, none, .bin .neq (.s 7) (.s 9)⟩])
   (.cond (.s 10)
    (.seq (.reg [⟨some 4, none, .mv (.c (.d (.bool false)))⟩])
    (.ret none))
    .skip))
  (.seq (.seq (.reg [⟨some 11, none, .mv (.s 0)⟩,
       ⟨some 12, none, .len (.s 11)⟩,
       ⟨some 13, none, .mv (.c (.d (.int .i64 0)))⟩])
   (.block 0 (.loop [0, 1, 12, 13] lp20_0)))
  (.seq (.reg [⟨some 4, none, .mv (.c (.d (.bool true)))⟩])
  (.ret none)))))
def ir20 : F := { n := 26, res := [.tmp 4], body := bd20 }
@[go_sem] theorem n20 : ir20.n = 26 := rfl
@[go_sem] theorem r20 : ir20.res = [.tmp 4] := rfl
@[go_sem] theorem b20 : ir20.body = bd20 := rfl
def lb21_0 : C :=
  (.seq (.reg [⟨some 19, none, .bin .lss (.s 18) (.s 17)⟩])
  (.seq (.cond (.s 19)
    .skip
    (.exit 0 (some [5])))
  (.seq (.block 1 (.seq (.reg [⟨some 20, none, .is (.s 16) (.s 18) 3⟩,
        ⟨some 21, none, .ld (.s 20) 3 true⟩,
        ⟨some 7, none, .alloc 96 [.int .i64 0, .int .i64 0, .int .i64 0]⟩,
        ⟨none, none, .st (.s 7) (.s 21) 3⟩])
    (.seq (.seq (.reg [⟨some 22, none, .ld (.s 7) 3 true⟩,
         ⟨some 23, none, .call 51 [.s 22] 2⟩,
         ⟨some 24, none, .un .not (.s 23)⟩])
     (.cond (.s 24)
      (.exit 1 none)
      .skip))
    (.seq (.reg [⟨some 25, none, .fa (.s 7) 1⟩,
        ⟨some 26, none, .ld (.s 25) 1 false⟩,
        ⟨some 27, none, .mv (.s 1)⟩,
        ⟨some 28, none, .build [.int .i64 0, .int .i64 0] [(0, (1, .s 26)), (1, (1, .s 27))]⟩,
        ⟨some 8, none, .alloc 38 [.int .i64 0, .int .i64 0]⟩,
        ⟨none, none, .st (.s 8) (.s 28) 2⟩])
    (.seq (.seq (.reg [⟨some 29, none, .fa (.s 7) 0⟩,
         ⟨some 30, none, .ld (.s 29) 1 false⟩,
         ⟨some 31, none, .bin .eql (.s 30) (.c (.d (.int .i64 2)))⟩,
         ⟨some 32, none, .mv (.s 31)⟩,
         ⟨some 33, some (32, true), .fa (.s 7) 2⟩,
         ⟨some 34, some (32, true), .ld (.s 33) 1 false⟩,
         ⟨some 35, some (32, true), .mv (.s 1)⟩,
         ⟨some 36, some (32, true), .bin .sub (.s 35) (.c (.d (.int .i64 1)))⟩,
         ⟨some 37, some (32, true), .bin .lss (.s 34) (.s 36)⟩,
         ⟨some 38, none, .pick (.s 32) (.s 37) (.c (.d (.bool false)))⟩])
     (.cond (.s 38)
      (.reg [⟨some 39, none, .fa (.s 7) 2⟩,
         ⟨some 40, none, .ld (.s 39) 1 false⟩,
         ⟨some 41, none, .bin .add (.s 40) (.c (.d (.int .i64 1)))⟩,
         ⟨some 42, none, .fa (.s 8) 1⟩,
         ⟨none, none, .st (.s 42) (.s 41) 1⟩])
      .skip))
    (.seq (.seq (.reg [⟨some 43, none, .fa (.s 7) 0⟩,
         ⟨some 44, none, .ld (.s 43) 1 false⟩,
         ⟨some 45, none, .bin .eql (.s 44) (.c (.d (.int .i64 3)))⟩])
     (.cond (.s 45)
      (.seq (.reg [⟨some 46, none, .fa (.s 8) 0⟩,
          ⟨none, none, .st (.s 46) (.c (.d (.int .i64 0))) 1⟩])
      (.seq (.reg [⟨some 47, none, .fa (.s 7) 1⟩,
          ⟨some 48, none, .ld (.s 47) 1 false⟩,
          ⟨some 49, none, .mv (.s 1)⟩,
          ⟨some 50, none, .bin .lss (.s 48) (.s 49)⟩])
      (.cond (.s 50)
       (.reg [⟨some 51, none, .mv (.s 1)⟩,
          ⟨some 52, none, .fa (.s 7) 1⟩,
          ⟨some 53, none, .ld (.s 52) 1 false⟩,
          ⟨some 54, none, .bin .sub (.s 51) (.s 53)⟩,
          ⟨some 55, none, .fa (.s 8) 0⟩,
          ⟨none, none, .st (.s 55) (.s 54) 1⟩])
       .skip)))
      .skip))
    (.seq (.reg [⟨some 56, none, .ld (.s 8) 2 true⟩,
        ⟨some 57, none, .call 22 [.s 56] 2⟩])
    (.cond (.s 57)
     (.reg [⟨some 58, none, .mv (.s 5)⟩,
        ⟨some 59, none, .ld (.s 8) 2 true⟩,
        ⟨some 60, none, .bsl 38 2 1 [.int .i64 0, .int .i64 0] [(0, (2, .s 59))]⟩,
        ⟨some 61, none, .app 38 2 16 (.s 58) (.s 60)⟩,
        ⟨some 5, none, .mv (.s 61)⟩])
     .skip))))))))
  (.reg [⟨some 62, none, .bin .add (.s 18) (.c (.d (.int .i64 1)))⟩,
     ⟨some 18, none, .mv (.s 62)⟩]))))
def lp21_0 : C := lb21_0
theorem u21_0 (c : Ev.Callee) (l : Ev.Looper) (s : St) : evC c l lp21_0 s = evC c l lb21_0 s := rfl
abbrev st21_0 (m : Nat) (s1 s5 s16 s17 s18 : AV) (h : Heap) : St := ⟨m, [.unk, s1, .unk, .unk, .unk, s5, .unk, .unk, .unk, .unk, .unk, .unk, .unk, .unk, .unk, .unk, s16, s17, s18, .unk, .unk, .unk, .unk, .unk, .unk, .unk, .unk, .unk, .unk, .unk, .unk, .unk, .unk, .unk, .unk, .unk, .unk, .unk, .unk, .unk, .unk, .unk, .unk, .unk, .unk, .unk, .unk, .unk, .unk, .unk, .unk, .unk, .unk, .unk, .unk, .unk, .unk, .unk, .unk, .unk, .unk, .unk, .unk, .unk], h⟩
@[go_sem] theorem ks21_0 (v0 v1 v2 v3 v4 v5 v6 v7 v8 v9 v10 v11 v12 v13 v14 v15 v16 v17 v18 v19 v20 v21 v22 v23 v24 v25 v26 v27 v28 v29 v30 v31 v32 v33 v34 v35 v36 v37 v38 v39 v40 v41 v42 v43 v44 v45 v46 v47 v48 v49 v50 v51 v52 v53 v54 v55 v56 v57 v58 v59 v60 v61 v62 v63 : AV) : keepS [1, 5, 16, 17, 18] [v0, v1, v2, v3, v4, v5, v6, v7, v8, v9, v10, v11, v12, v13, v14, v15, v16, v17, v18, v19, v20, v21, v22, v23, v24, v25, v26, v27, v28, v29, v30, v31, v32, v33, v34, v35, v36, v37, v38, v39, v40, v41, v42, v43, v44, v45, v46, v47, v48, v49, v50, v51, v52, v53, v54, v55, v56, v57, v58, v59, v60, v61, v62, v63] 0 = [.unk, v1, .unk, .unk, .unk, v5, .unk, .unk, .unk, .unk, .unk, .unk, .unk, .unk, .unk, .unk, v16, v17, v18, .unk, .unk, .unk, .unk, .unk, .unk, .unk, .unk, .unk, .unk, .unk, .unk, .unk, .unk, .unk, .unk, .unk, .unk, .unk, .unk, .unk, .unk, .unk, .unk, .unk, .unk, .unk, .unk, .unk, .unk, .unk, .unk, .unk, .unk, .unk, .unk, .unk, .unk, .unk, .unk, .unk, .unk, .unk, .unk, .unk] := rfl
@[go_sem] theorem ks21_1 (v0 v1 v2 v3 v4 v5 v6 v7 v8 v9 v10 v11 v12 v13 v14 v15 v16 v17 v18 v19 v20 v21 v22 v23 v24 v25 v26 v27 v28 v29 v30 v31 v32 v33 v34 v35 v36 v37 v38 v39 v40 v41 v42 v43 v44 v45 v46 v47 v48 v49 v50 v51 v52 v53 v54 v55 v56 v57 v58 v59 v60 v61 v62 v63 : AV) : keepS [5] [v0, v1, v2, v3, v4, v5, v6, v7, v8, v9, v10, v11, v12, v13, v14, v15, v16, v17, v18, v19, v20, v21, v22, v23, v24, v25, v26, v27, v28, v29, v30, v31, v32, v33, v34, v35, v36, v37, v38, v39, v40, v41, v42, v43, v44, v45, v46, v47, v48, v49, v50, v51, v52, v53, v54, v55, v56, v57, v58, v59, v60, v61, v62, v63] 0 = [.unk, .unk, .unk, .unk, .unk, v5, .unk, .unk, .unk, .unk, .unk, .unk, .unk, .unk, .unk, .unk, .unk, .unk, .unk, .unk, .unk, .unk, .unk, .unk, .unk, .unk, .unk, .unk, .unk, .unk, .unk, .unk, .unk, .unk, .unk, .unk, .unk, .unk, .unk, .unk, .unk, .unk, .unk, .unk, .unk, .unk, .unk, .unk, .unk, .unk, .unk, .unk, .unk, .unk, .unk, .unk, .unk, .unk, .unk, .unk, .unk, .unk, .unk, .unk] := rfl
/-- spence/spenceref04.Resolve -/
def bd21 : C :=
  (.seq (.reg [⟨some 4, none, .mv (.c (.d .nils))⟩])
  (.seq (.reg [⟨some 5, none, .mv (.c (.d .nils))⟩])
  (.seq (.seq (.reg [⟨some 9, none, .mv (.s 1)⟩,
       ⟨some 10, none, .bin .lss (.s 9) (.c (.d (.int .i64 1)))⟩,
       ⟨some 11, none, .mv (.s 10)⟩,
       ⟨some 12, some (11, false), .mv (.s 1)⟩,
       ⟨some 13, some (11, false), .bin .gtr (.s 12) (.c (.d (.int .i64 4611686018427387903)))⟩,
       ⟨some 14, none, .pick (.s 11) (.c (.d (.bool true))) (.s 13)⟩])
   (.cond (.s 14)
    (.seq (.reg [⟨some 15, none, .mv (.s 5)⟩,
        ⟨some 4, none, .mv (.s 15)⟩])
    (.ret none))
    .skip))
  (.seq (.seq (.reg [⟨some 16, none, .mv (.s 0)⟩,
       ⟨some 17, none, .len (.s 16)⟩,
       ⟨some 18, none, .mv (.c (.d (.int .i64 0)))⟩])
   (.block 0 (.loop [1, 5, 16, 17, 18] lp21_0)))
  (.seq (.reg [⟨some 63, none, .mv (.s 5)⟩,
      ⟨some 4, none, .mv (.s 63)⟩])
  (.ret none))))))
def ir21 : F := { n := 64, res := [.tmp 4], body := bd21 }
@[go_sem] theorem n21 : ir21.n = 64 := rfl
@[go_sem] theorem r21 : ir21.res = [.tmp 4] := rfl
@[go_sem] theorem b21 : ir21.body = bd21 := rfl
/-- spence/spenceref04.Right -/
def bd22 : C :=
  (.seq (.reg [⟨some 1, none, .box 38 (.s 0)⟩,
      ⟨some 2, none, .mv (.c (.d (.bool false)))⟩])
  (.seq (.reg [⟨some 3, none, .fa (.s 1) 0⟩,
      ⟨some 4, none, .ld (.s 3) 1 false⟩,
      ⟨some 5, none, .bin .geq (.s 4) (.c (.d (.int .i64 0)))⟩,
      ⟨some 6, none, .mv (.s 5)⟩,
      ⟨some 7, some (6, true), .fa (.s 1) 1⟩,
      ⟨some 8, some (6, true), .ld (.s 7) 1 false⟩,
      ⟨some 9, some (6, true), .fa (.s 1) 0⟩,
      ⟨some 10, some (6, true), .ld (.s 9) 1 false⟩,
      ⟨some 11, some (6, true), .bin .gtr (.s 8) (.s 10)⟩,
      ⟨some 12, none, .pick (.s 6) (.s 11) (.c (.d (.bool false)))⟩,
      ⟨some 13, none, .mv (.s 12)⟩,
      ⟨some 14, some (13, true), .fa (.s 1) 1⟩,
      ⟨some 15, some (13, true), .ld (.s 14) 1 false⟩,
      ⟨some 16, some (13, true), .bin .leq (.s 15) (.c (.d (.int .i64 4611686018427387903)))⟩,
      ⟨some 17, none, .pick (.s 13) (.s 16) (.c (.d (.bool false)))⟩,
      ⟨some 2, none, .mv (.s 17)⟩])
  (.ret none)))
def ir22 : F := { n := 18, res := [.tmp 2], body := bd22 }
@[go_sem] theorem n22 : ir22.n = 18 := rfl
@[go_sem] theorem r22 : ir22.res = [.tmp 2] := rfl
@[go_sem] theorem b22 : ir22.body = bd22 := rfl
/-- spence/span.Right -/
def bd25 : C :=
  (.seq (.reg [⟨some 1, none, .box 38 (.s 0)⟩,
      ⟨some 2, none, .mv (.c (.d (.bool false)))⟩])
  (.seq (.reg [⟨some 3, none, .fa (.s 1) 0⟩,
      ⟨some 4, none, .ld (.s 3) 1 false⟩,
      ⟨some 5, none, .bin .geq (.s 4) (.c (.d (.int .i64 0)))⟩,
      ⟨some 6, none, .mv (.s 5)⟩,
      ⟨some 7, some (6, true), .fa (.s 1) 0⟩,
      ⟨some 8, some (6, true), .ld (.s 7) 1 false⟩,
      ⟨some 9, some (6, true), .fa (.s 1) 1⟩,
      ⟨some 10, some (6, true), .ld (.s 9) 1 false⟩,
      ⟨some 11, some (6, true), .bin .lss (.s 8) (.s 10)⟩,
      ⟨some 12, none, .pick (.s 6) (.s 11) (.c (.d (.bool false)))⟩,
      ⟨some 13, none, .mv (.s 12)⟩,
      ⟨some 14, some (13, true), .fa (.s 1) 1⟩,
      ⟨some 15, some (13, true), .ld (.s 14) 1 false⟩,
      ⟨some 16, some (13, true), .bin .leq (.s 15) (.c (.d (.int .i64 4611686018427387903)))⟩,
      ⟨some 17, none, .pick (.s 13) (.s 16) (.c (.d (.bool false)))⟩,
      ⟨some 2, none, .mv (.s 17)⟩])
  (.ret none)))
def ir25 : F := { n := 18, res := [.tmp 2], body := bd25 }
@[go_sem] theorem n25 : ir25.n = 18 := rfl
@[go_sem] theorem r25 : ir25.res = [.tmp 2] := rfl
@[go_sem] theorem b25 : ir25.body = bd25 := rfl
/-- spence/nums.Fits -/
def bd48 : C :=
  (.seq (.reg [⟨some 6, none, .mv (.c (.d (.bool false)))⟩])
  (.seq (.reg [⟨some 7, none, .mv (.s 0)⟩,
      ⟨some 8, none, .mv (.s 1)⟩,
      ⟨some 9, none, .bin .geq (.s 7) (.s 8)⟩,
      ⟨some 10, none, .mv (.s 9)⟩,
      ⟨some 11, some (10, true), .mv (.s 0)⟩,
      ⟨some 12, some (10, true), .mv (.s 2)⟩,
      ⟨some 13, some (10, true), .bin .leq (.s 11) (.s 12)⟩,
      ⟨some 14, none, .pick (.s 10) (.s 13) (.c (.d (.bool false)))⟩,
      ⟨some 6, none, .mv (.s 14)⟩])
  (.ret none)))
def ir48 : F := { n := 15, res := [.tmp 6], body := bd48 }
@[go_sem] theorem n48 : ir48.n = 15 := rfl
@[go_sem] theorem r48 : ir48.res = [.tmp 6] := rfl
@[go_sem] theorem b48 : ir48.body = bd48 := rfl
/-- spence/spec.Right -/
def bd49 : C :=
  (.seq (.reg [⟨some 1, none, .box 96 (.s 0)⟩,
      ⟨some 2, none, .mv (.c (.d (.bool false)))⟩])
  (.seq (.seq (.reg [⟨some 3, none, .fa (.s 1) 0⟩,
       ⟨some 4, none, .ld (.s 3) 1 false⟩])
   (.block 0 (.seq (.block 3 (.block 2 (.seq (.block 1 (.seq (.seq (.seq (.reg [⟨some 6, none, .bin .eql (.s 4) (.c (.d (.int .i64 2)))⟩,
               ⟨some 5, none, .mv (.s 6)⟩])
           (.cond (.s 5)
            (.exit 1 none)
            .skip))
          (.seq (.seq (.reg [⟨some 8, none, .bin .eql (.s 4) (.c (.d (.int .i64 1)))⟩,
               ⟨some 7, none, .mv (.s 8)⟩])
           (.cond (.s 7)
            (.exit 2 none)
            .skip))
          (.seq (.reg [⟨some 10, none, .bin .eql (.s 4) (.c (.d (.int .i64 3)))⟩,
              ⟨some 9, none, .mv (.s 10)⟩])
          (.cond (.s 9)
           (.exit 3 none)
           .skip))))
         (.exit 0 none)))
       (.seq (.seq (.reg [⟨some 11, none, .fa (.s 1) 1⟩,
            ⟨some 12, none, .ld (.s 11) 1 false⟩,
            ⟨some 13, none, .bin .geq (.s 12) (.c (.d (.int .i64 0)))⟩,
            ⟨some 14, none, .mv (.s 13)⟩,
            ⟨some 15, some (14, true), .fa (.s 1) 2⟩,
            ⟨some 16, some (14, true), .ld (.s 15) 1 false⟩,
            ⟨some 17, some (14, true), .fa (.s 1) 1⟩,
            ⟨some 18, some (14, true), .ld (.s 17) 1 false⟩,
            ⟨some 19, some (14, true), .bin .geq (.s 16) (.s 18)⟩,
            ⟨some 20, none, .pick (.s 14) (.s 19) (.c (.d (.bool false)))⟩,
            ⟨some 21, none, .mv (.s 20)⟩,
            ⟨some 22, some (21, true), .fa (.s 1) 2⟩,
            ⟨some 23, some (21, true), .ld (.s 22) 1 false⟩,
            ⟨some 24, some (21, true), .bin .leq (.s 23) (.c (.d (.int .i64 4611686018427387903)))⟩,
            ⟨some 25, none, .pick (.s 21) (.s 24) (.c (.d (.bool false)))⟩,
            ⟨some 2, none, .mv (.s 25)⟩])
        (.ret none))
       (.exit 0 none)))))
    (.seq (.seq (.reg [⟨some 26, none, .fa (.s 1) 1⟩,
         ⟨some 27, none, .ld (.s 26) 1 false⟩,
         ⟨some 28, none, .call 48 [.s 27, .c (.d (.int .i64 0)), .c (.d (.int .i64 4611686018427387903))] 2⟩,
         ⟨some 29, none, .mv (.s 28)⟩,
         ⟨some 30, some (29, true), .fa (.s 1) 2⟩,
         ⟨some 31, some (29, true), .ld (.s 30) 1 false⟩,
         ⟨some 32, some (29, true), .bin .eql (.s 31) (.c (.d (.int .i64 0)))⟩,
         ⟨some 33, none, .pick (.s 29) (.s 32) (.c (.d (.bool false)))⟩,
         ⟨some 2, none, .mv (.s 33)⟩])
     (.ret none))
    (.exit 0 none)))))
  (.seq (.reg [⟨some 2, none, .mv (.c (.d (.bool false)))⟩])
  (.ret none))))
def ir49 : F := { n := 34, res := [.tmp 2], body := bd49 }
@[go_sem] theorem n49 : ir49.n = 34 := rfl
@[go_sem] theorem r49 : ir49.res = [.tmp 2] := rfl
@[go_sem] theorem b49 : ir49.body = bd49 := rfl
/-- spence/span.one -/
def bd50 : C :=
  (.seq (.reg [⟨some 2, none, .box 96 (.s 0)⟩,
      ⟨some 4, none, .alloc 38 [.int .i64 0, .int .i64 0]⟩])
  (.seq (.seq (.reg [⟨some 5, none, .fa (.s 2) 0⟩,
       ⟨some 6, none, .ld (.s 5) 1 false⟩])
   (.block 0 (.seq (.reg [⟨some 8, none, .bin .eql (.s 6) (.c (.d (.int .i64 1)))⟩,
        ⟨some 7, none, .mv (.s 8)⟩])
    (.cond (.s 7)
     (.seq (.reg [⟨some 9, none, .fa (.s 2) 1⟩,
         ⟨some 10, none, .ld (.s 9) 1 false⟩,
         ⟨some 11, none, .mv (.s 1)⟩,
         ⟨some 12, none, .build [.int .i64 0, .int .i64 0] [(0, (1, .s 10)), (1, (1, .s 11))]⟩,
         ⟨none, none, .st (.s 4) (.s 12) 2⟩])
     (.ret none))
     (.seq (.reg [⟨some 14, none, .bin .eql (.s 6) (.c (.d (.int .i64 2)))⟩,
         ⟨some 13, none, .mv (.s 14)⟩])
     (.cond (.s 13)
      (.seq (.reg [⟨some 15, none, .fa (.s 2) 1⟩,
          ⟨some 16, none, .ld (.s 15) 1 false⟩,
          ⟨some 17, none, .fa (.s 2) 2⟩,
          ⟨some 18, none, .ld (.s 17) 1 false⟩,
          ⟨some 19, none, .mv (.s 1)⟩,
          ⟨some 20, none, .bin .sub (.s 19) (.c (.d (.int .i64 1)))⟩,
          ⟨some 21, none, .mn (.s 18) (.s 20)⟩,
          ⟨some 22, none, .bin .add (.s 21) (.c (.d (.int .i64 1)))⟩,
          ⟨some 23, none, .build [.int .i64 0, .int .i64 0] [(0, (1, .s 16)), (1, (1, .s 22))]⟩,
          ⟨none, none, .st (.s 4) (.s 23) 2⟩])
      (.ret none))
      .skip))))))
  (.seq (.reg [⟨some 24, none, .mv (.s 1)⟩,
      ⟨some 25, none, .fa (.s 2) 1⟩,
      ⟨some 26, none, .ld (.s 25) 1 false⟩,
      ⟨some 27, none, .mv (.s 1)⟩,
      ⟨some 28, none, .mn (.s 26) (.s 27)⟩,
      ⟨some 29, none, .bin .sub (.s 24) (.s 28)⟩,
      ⟨some 30, none, .mv (.s 1)⟩,
      ⟨some 31, none, .build [.int .i64 0, .int .i64 0] [(0, (1, .s 29)), (1, (1, .s 30))]⟩,
      ⟨none, none, .st (.s 4) (.s 31) 2⟩])
  (.ret none))))
def ir50 : F := { n := 32, res := [.cell 4 2 true], body := bd50 }
@[go_sem] theorem n50 : ir50.n = 32 := rfl
@[go_sem] theorem r50 : ir50.res = [.cell 4 2 true] := rfl
@[go_sem] theorem b50 : ir50.body = bd50 := rfl
/-- spence/spenceref04.RightSpec -/
def bd51 : C :=
  (.seq (.reg [⟨some 1, none, .box 96 (.s 0)⟩,
      ⟨some 2, none, .mv (.c (.d (.bool false)))⟩])
  (.seq (.seq (.reg [⟨some 3, none, .fa (.s 1) 1⟩,
       ⟨some 4, none, .ld (.s 3) 1 false⟩,
       ⟨some 5, none, .bin .lss (.s 4) (.c (.d (.int .i64 0)))⟩,
       ⟨some 6, none, .mv (.s 5)⟩,
       ⟨some 7, some (6, false), .fa (.s 1) 1⟩,
       ⟨some 8, some (6, false), .ld (.s 7) 1 false⟩,
       ⟨some 9, some (6, false), .bin .gtr (.s 8) (.c (.d (.int .i64 4611686018427387903)))⟩,
       ⟨some 10, none, .pick (.s 6) (.c (.d (.bool true))) (.s 9)⟩,
       ⟨some 11, none, .mv (.s 10)⟩,
       ⟨some 12, some (11, false), .fa (.s 1) 2⟩,
       ⟨some 13, some (11, false), .ld (.s 12) 1 false⟩,
       ⟨some 14, some (11, false), .bin .gtr (.s 13) (.c (.d (.int .i64 4611686018427387903)))⟩,
       ⟨some 15, none, .pick (.s 11) (.c (.d (.bool true))) (.s 14)⟩])
   (.cond (.s 15)
    (.seq (.reg [⟨some 2, none, .mv (.c (.d (.bool false)))⟩])
    (.ret none))
    .skip))
  (.seq (.reg [⟨some 16, none, .fa (.s 1) 0⟩,
      ⟨some 17, none, .ld (.s 16) 1 false⟩])
  (.block 0 (.seq (.reg [⟨some 19, none, .bin .eql (.s 17) (.c (.d (.int .i64 2)))⟩,
       ⟨some 18, none, .mv (.s 19)⟩])
   (.cond (.s 18)
    (.seq (.reg [⟨some 20, none, .fa (.s 1) 2⟩,
        ⟨some 21, none, .ld (.s 20) 1 false⟩,
        ⟨some 22, none, .fa (.s 1) 1⟩,
        ⟨some 23, none, .ld (.s 22) 1 false⟩,
        ⟨some 24, none, .bin .geq (.s 21) (.s 23)⟩,
        ⟨some 2, none, .mv (.s 24)⟩])
    (.ret none))
    (.seq (.seq (.reg [⟨some 26, none, .bin .eql (.s 17) (.c (.d (.int .i64 1)))⟩,
         ⟨some 25, none, .mv (.s 26)⟩])
     (.cond (.s 25)
      .skip
      (.reg [⟨some 27, none, .bin .eql (.s 17) (.c (.d (.int .i64 3)))⟩,
         ⟨some 25, none, .mv (.s 27)⟩])))
    (.cond (.s 25)
     (.seq (.reg [⟨some 28, none, .fa (.s 1) 2⟩,
         ⟨some 29, none, .ld (.s 28) 1 false⟩,
         ⟨some 30, none, .bin .eql (.s 29) (.c (.d (.int .i64 0)))⟩,
         ⟨some 2, none, .mv (.s 30)⟩])
     (.ret none))
     (.seq (.reg [⟨some 2, none, .mv (.c (.d (.bool false)))⟩])
     (.ret none))))))))))
def ir51 : F := { n := 31, res := [.tmp 2], body := bd51 }
@[go_sem] theorem n51 : ir51.n = 31 := rfl
@[go_sem] theorem r51 : ir51.res = [.tmp 2] := rfl
@[go_sem] theorem b51 : ir51.body = bd51 := rfl

def ir : FuncId → Option F
  | 5 => some ir5
  | 18 => some ir18
  | 19 => some ir19
  | 20 => some ir20
  | 21 => some ir21
  | 22 => some ir22
  | 25 => some ir25
  | 48 => some ir48
  | 49 => some ir49
  | 50 => some ir50
  | 51 => some ir51
  | _ => none
theorem c5 : cF Try.prog 5 = some ir5.strip := by kernel_rfl
theorem k5 : ir5.body.okD = true := by kernel_rfl
theorem c18 : cF Try.prog 18 = some ir18.strip := by kernel_rfl
theorem k18 : ir18.body.okD = true := by kernel_rfl
theorem c19 : cF Try.prog 19 = some ir19.strip := by kernel_rfl
theorem k19 : ir19.body.okD = true := by kernel_rfl
theorem c20 : cF Try.prog 20 = some ir20.strip := by kernel_rfl
theorem k20 : ir20.body.okD = true := by kernel_rfl
theorem c21 : cF Try.prog 21 = some ir21.strip := by kernel_rfl
theorem k21 : ir21.body.okD = true := by kernel_rfl
theorem c22 : cF Try.prog 22 = some ir22.strip := by kernel_rfl
theorem k22 : ir22.body.okD = true := by kernel_rfl
theorem c25 : cF Try.prog 25 = some ir25.strip := by kernel_rfl
theorem k25 : ir25.body.okD = true := by kernel_rfl
theorem c48 : cF Try.prog 48 = some ir48.strip := by kernel_rfl
theorem k48 : ir48.body.okD = true := by kernel_rfl
theorem c49 : cF Try.prog 49 = some ir49.strip := by kernel_rfl
theorem k49 : ir49.body.okD = true := by kernel_rfl
theorem c50 : cF Try.prog 50 = some ir50.strip := by kernel_rfl
theorem k50 : ir50.body.okD = true := by kernel_rfl
theorem c51 : cF Try.prog 51 = some ir51.strip := by kernel_rfl
theorem k51 : ir51.body.okD = true := by kernel_rfl
theorem tab : Tab Try.prog ir := by
  refine ⟨by kernel_rfl, fun f fn h => ?_⟩
  unfold ir at h
  split at h
  · cases h; exact ⟨c5, k5⟩
  · cases h; exact ⟨c18, k18⟩
  · cases h; exact ⟨c19, k19⟩
  · cases h; exact ⟨c20, k20⟩
  · cases h; exact ⟨c21, k21⟩
  · cases h; exact ⟨c22, k22⟩
  · cases h; exact ⟨c25, k25⟩
  · cases h; exact ⟨c48, k48⟩
  · cases h; exact ⟨c49, k49⟩
  · cases h; exact ⟨c50, k50⟩
  · cases h; exact ⟨c51, k51⟩
  · cases h
end Go.Proofs.Ytefcgdcmhhgfgaa.Ir
