/- The texts of the functions in the small language. Printed by a program of my own (irgen.py). -/
import Derived.Test.YtjcnmaogegfkoaaEvSim
import Derived.Test.YtjcnmaogegfkoaaProg
import Derived.Test.YtjcnmaogegfkoaaEvNatF
import Derived.Test.YtjcnmaogegfkoaaShSrt
import Derived.Test.YtjcnmaogegfkoaaShCln
namespace Go.Proofs.Ytjcnmaogegfkoaa.Ir
open Go Go.Ev
set_option maxRecDepth 10000

def lb3_0 : C :=
  (.seq (.reg [⟨some 52, none, .bin .lss (.s 51) (.s 50), .none⟩])
  (.seq (.cond (.s 52)
    .skip
    (.exit 0 (some [3, 6, 10, 11, 12])))
  (.seq (.block 1 (.seq (.reg [⟨some 53, none, .mv (.s 51), .none⟩,
        ⟨some 54, none, .is (.s 49) (.s 51) 2, .none⟩,
        ⟨some 55, none, .ld (.s 54) 2 true, .none⟩,
        ⟨some 14, none, .alloc 24 [.int .i64 0, .int .i64 0], .none⟩,
        ⟨some 13, none, .mv (.s 53), .none⟩,
        ⟨none, none, .st (.s 14) (.s 55) 2, .none⟩])
    (.seq (.drw [⟨some 56, none, .ld (.s 14) 2 true, .none⟩,
        ⟨some 57, none, .call 11 [.s 56] 2, .none⟩,
        ⟨some 58, none, .un .not (.s 57), .none⟩,
        ⟨some 59, none, .mv (.s 58), .none⟩,
        ⟨some 60, some (59, false), .mv (.s 13), .none⟩,
        ⟨some 61, some (59, false), .bin .gtr (.s 60) (.c (.d (.int .i64 0))), .none⟩,
        ⟨some 62, some (59, false), .mv (.s 61), .none⟩,
        ⟨some 63, some (62, true), .mv (.s 10), .none⟩,
        ⟨some 64, some (62, true), .mv (.s 13), .none⟩,
        ⟨some 65, some (62, true), .bin .sub (.s 64) (.c (.d (.int .i64 1))), .none⟩,
        ⟨some 66, some (62, true), .is (.s 63) (.s 65) 2, .none⟩,
        ⟨some 67, some (62, true), .fa (.s 66) 1, .none⟩,
        ⟨some 68, some (62, true), .ld (.s 67) 1 false, .none⟩,
        ⟨some 69, some (62, true), .fa (.s 14) 0, .none⟩,
        ⟨some 70, some (62, true), .ld (.s 69) 1 false, .none⟩,
        ⟨some 71, some (62, true), .bin .geq (.s 68) (.s 70), .none⟩,
        ⟨some 72, some (59, false), .pick (.s 62) (.s 71) (.c (.d (.bool false))), .none⟩,
        ⟨some 73, none, .pick (.s 59) (.c (.d (.bool true))) (.s 72), .none⟩]
       [[], [0], [1], [2, 1], [3], [4, 3], [5, 3, 3], [6], [6], [8, 6], [7, 9, 6], [10, 6], [11, 6], [6], [13, 6], [12, 14, 6], [6, 15, 3], [3, 16]] [])
    (.cond (.s 73)
     (.seq (.reg [⟨some 8, none, .mv (.c (.d (.bool false))), .none⟩])
     (.ret (some [8])))
     .skip))))
  (.reg [⟨some 74, none, .bin .add (.s 51) (.c (.d (.int .i64 1))), .none⟩,
     ⟨some 51, none, .mv (.s 74), .none⟩]))))
def lp3_0 : C := lb3_0
theorem u3_0 (c : Ev.Callee) (l : Ev.Looper) (s : St) : evC c l lp3_0 s = evC c l lb3_0 s := rfl
abbrev st3_0 (m : Nat) (s3 s6 s10 s11 s12 s49 s50 s51 : AV) (h : Heap) : St := ⟨m, [.unk, .unk, .unk, s3, .unk, .unk, s6, .unk, .unk, .unk, s10, s11, s12, .unk, .unk, .unk, .unk, .unk, .unk, .unk, .unk, .unk, .unk, .unk, .unk, .unk, .unk, .unk, .unk, .unk, .unk, .unk, .unk, .unk, .unk, .unk, .unk, .unk, .unk, .unk, .unk, .unk, .unk, .unk, .unk, .unk, .unk, .unk, .unk, s49, s50, s51, .unk, .unk, .unk, .unk, .unk, .unk, .unk, .unk, .unk, .unk, .unk, .unk, .unk, .unk, .unk, .unk, .unk, .unk, .unk, .unk, .unk, .unk, .unk, .unk, .unk, .unk, .unk, .unk, .unk, .unk, .unk, .unk, .unk, .unk, .unk, .unk, .unk, .unk, .unk, .unk, .unk, .unk], h⟩
@[go_sem] theorem ks3_0 (v0 v1 v2 v3 v4 v5 v6 v7 v8 v9 v10 v11 v12 v13 v14 v15 v16 v17 v18 v19 v20 v21 v22 v23 v24 v25 v26 v27 v28 v29 v30 v31 v32 v33 v34 v35 v36 v37 v38 v39 v40 v41 v42 v43 v44 v45 v46 v47 v48 v49 v50 v51 v52 v53 v54 v55 v56 v57 v58 v59 v60 v61 v62 v63 v64 v65 v66 v67 v68 v69 v70 v71 v72 v73 v74 v75 v76 v77 v78 v79 v80 v81 v82 v83 v84 v85 v86 v87 v88 v89 v90 v91 v92 v93 : AV) : keepS [3, 6, 10, 11, 12, 49, 50, 51] [v0, v1, v2, v3, v4, v5, v6, v7, v8, v9, v10, v11, v12, v13, v14, v15, v16, v17, v18, v19, v20, v21, v22, v23, v24, v25, v26, v27, v28, v29, v30, v31, v32, v33, v34, v35, v36, v37, v38, v39, v40, v41, v42, v43, v44, v45, v46, v47, v48, v49, v50, v51, v52, v53, v54, v55, v56, v57, v58, v59, v60, v61, v62, v63, v64, v65, v66, v67, v68, v69, v70, v71, v72, v73, v74, v75, v76, v77, v78, v79, v80, v81, v82, v83, v84, v85, v86, v87, v88, v89, v90, v91, v92, v93] 0 = [.unk, .unk, .unk, v3, .unk, .unk, v6, .unk, .unk, .unk, v10, v11, v12, .unk, .unk, .unk, .unk, .unk, .unk, .unk, .unk, .unk, .unk, .unk, .unk, .unk, .unk, .unk, .unk, .unk, .unk, .unk, .unk, .unk, .unk, .unk, .unk, .unk, .unk, .unk, .unk, .unk, .unk, .unk, .unk, .unk, .unk, .unk, .unk, v49, v50, v51, .unk, .unk, .unk, .unk, .unk, .unk, .unk, .unk, .unk, .unk, .unk, .unk, .unk, .unk, .unk, .unk, .unk, .unk, .unk, .unk, .unk, .unk, .unk, .unk, .unk, .unk, .unk, .unk, .unk, .unk, .unk, .unk, .unk, .unk, .unk, .unk, .unk, .unk, .unk, .unk, .unk, .unk] := rfl
@[go_sem] theorem ks3_1 (v0 v1 v2 v3 v4 v5 v6 v7 v8 v9 v10 v11 v12 v13 v14 v15 v16 v17 v18 v19 v20 v21 v22 v23 v24 v25 v26 v27 v28 v29 v30 v31 v32 v33 v34 v35 v36 v37 v38 v39 v40 v41 v42 v43 v44 v45 v46 v47 v48 v49 v50 v51 v52 v53 v54 v55 v56 v57 v58 v59 v60 v61 v62 v63 v64 v65 v66 v67 v68 v69 v70 v71 v72 v73 v74 v75 v76 v77 v78 v79 v80 v81 v82 v83 v84 v85 v86 v87 v88 v89 v90 v91 v92 v93 : AV) : keepS [3, 6, 10, 11, 12] [v0, v1, v2, v3, v4, v5, v6, v7, v8, v9, v10, v11, v12, v13, v14, v15, v16, v17, v18, v19, v20, v21, v22, v23, v24, v25, v26, v27, v28, v29, v30, v31, v32, v33, v34, v35, v36, v37, v38, v39, v40, v41, v42, v43, v44, v45, v46, v47, v48, v49, v50, v51, v52, v53, v54, v55, v56, v57, v58, v59, v60, v61, v62, v63, v64, v65, v66, v67, v68, v69, v70, v71, v72, v73, v74, v75, v76, v77, v78, v79, v80, v81, v82, v83, v84, v85, v86, v87, v88, v89, v90, v91, v92, v93] 0 = [.unk, .unk, .unk, v3, .unk, .unk, v6, .unk, .unk, .unk, v10, v11, v12, .unk, .unk, .unk, .unk, .unk, .unk, .unk, .unk, .unk, .unk, .unk, .unk, .unk, .unk, .unk, .unk, .unk, .unk, .unk, .unk, .unk, .unk, .unk, .unk, .unk, .unk, .unk, .unk, .unk, .unk, .unk, .unk, .unk, .unk, .unk, .unk, .unk, .unk, .unk, .unk, .unk, .unk, .unk, .unk, .unk, .unk, .unk, .unk, .unk, .unk, .unk, .unk, .unk, .unk, .unk, .unk, .unk, .unk, .unk, .unk, .unk, .unk, .unk, .unk, .unk, .unk, .unk, .unk, .unk, .unk, .unk, .unk, .unk, .unk, .unk, .unk, .unk, .unk, .unk, .unk, .unk] := rfl
@[go_sem] theorem ks3_2 (v0 v1 v2 v3 v4 v5 v6 v7 v8 v9 v10 v11 v12 v13 v14 v15 v16 v17 v18 v19 v20 v21 v22 v23 v24 v25 v26 v27 v28 v29 v30 v31 v32 v33 v34 v35 v36 v37 v38 v39 v40 v41 v42 v43 v44 v45 v46 v47 v48 v49 v50 v51 v52 v53 v54 v55 v56 v57 v58 v59 v60 v61 v62 v63 v64 v65 v66 v67 v68 v69 v70 v71 v72 v73 v74 v75 v76 v77 v78 v79 v80 v81 v82 v83 v84 v85 v86 v87 v88 v89 v90 v91 v92 v93 : AV) : keepS [8] [v0, v1, v2, v3, v4, v5, v6, v7, v8, v9, v10, v11, v12, v13, v14, v15, v16, v17, v18, v19, v20, v21, v22, v23, v24, v25, v26, v27, v28, v29, v30, v31, v32, v33, v34, v35, v36, v37, v38, v39, v40, v41, v42, v43, v44, v45, v46, v47, v48, v49, v50, v51, v52, v53, v54, v55, v56, v57, v58, v59, v60, v61, v62, v63, v64, v65, v66, v67, v68, v69, v70, v71, v72, v73, v74, v75, v76, v77, v78, v79, v80, v81, v82, v83, v84, v85, v86, v87, v88, v89, v90, v91, v92, v93] 0 = [.unk, .unk, .unk, .unk, .unk, .unk, .unk, .unk, v8, .unk, .unk, .unk, .unk, .unk, .unk, .unk, .unk, .unk, .unk, .unk, .unk, .unk, .unk, .unk, .unk, .unk, .unk, .unk, .unk, .unk, .unk, .unk, .unk, .unk, .unk, .unk, .unk, .unk, .unk, .unk, .unk, .unk, .unk, .unk, .unk, .unk, .unk, .unk, .unk, .unk, .unk, .unk, .unk, .unk, .unk, .unk, .unk, .unk, .unk, .unk, .unk, .unk, .unk, .unk, .unk, .unk, .unk, .unk, .unk, .unk, .unk, .unk, .unk, .unk, .unk, .unk, .unk, .unk, .unk, .unk, .unk, .unk, .unk, .unk, .unk, .unk, .unk, .unk, .unk, .unk, .unk, .unk, .unk, .unk] := rfl
/-- spence/spencelaw06.SpanMerges -/
def bd3 : C :=
  (.seq (.reg [⟨some 6, none, .box 24 (.s 2), .none⟩,
      ⟨some 8, none, .mv (.c (.d (.bool false))), .none⟩])
  (.seq (.seq (.reg [⟨some 15, none, .call 4 [] 2, .none⟩,
       ⟨some 16, none, .un .not (.s 15), .none⟩])
   (.cond (.s 16)
    (.seq (.reg [⟨some 8, none, .mv (.c (.d (.bool false))), .none⟩])
    (.ret none))
    .skip))
  (.seq (.seq (.reg [⟨some 17, none, .mv (.s 0), .none⟩,
       ⟨some 18, none, .len (.s 17), .none⟩,
       ⟨some 19, none, .bin .gtr (.s 18) (.c (.d (.int .i64 30))), .none⟩])
   (.cond (.s 19)
    (.seq (.reg [⟨some 8, none, .mv (.c (.d (.bool true))), .none⟩])
    (.ret none))
    .skip))
  (.seq (.reg [⟨some 20, none, .mv (.s 0), .none⟩,
      ⟨some 21, none, .mv (.s 1), .none⟩,
      ⟨some 22, none, .call 5 [.s 20, .s 21] 2, .none⟩,
      ⟨some 9, none, .mv (.s 22), .none⟩])
  (.seq (.reg [⟨some 23, none, .mv (.s 0), .none⟩,
      ⟨some 24, none, .ld (.s 6) 2 true, .none⟩,
      ⟨some 25, none, .call 6 [.s 23, .s 24] 2, .none⟩,
      ⟨some 10, none, .mv (.s 25), .none⟩])
  (.seq (.reg [⟨some 26, none, .mv (.s 0), .none⟩,
      ⟨some 27, none, .call 5 [.s 26, .c (.d (.int .i64 0))] 2, .none⟩,
      ⟨some 11, none, .mv (.s 27), .none⟩])
  (.seq (.seq (.reg [⟨some 28, none, .mv (.s 9), .none⟩,
       ⟨some 29, none, .mv (.s 0), .none⟩,
       ⟨some 30, none, .mv (.s 1), .none⟩,
       ⟨some 31, none, .call 8 [.s 29, .s 30] 2, .none⟩,
       ⟨some 32, none, .call 7 [.s 28, .s 31] 2, .none⟩,
       ⟨some 33, none, .un .not (.s 32), .none⟩,
       ⟨some 34, none, .mv (.s 33), .none⟩,
       ⟨some 35, some (34, false), .mv (.s 11), .none⟩,
       ⟨some 36, some (34, false), .call 9 [.s 35] 2, .none⟩,
       ⟨some 37, some (34, false), .un .not (.s 36), .none⟩,
       ⟨some 38, none, .pick (.s 34) (.c (.d (.bool true))) (.s 37), .none⟩,
       ⟨some 39, none, .mv (.s 38), .none⟩,
       ⟨some 40, some (39, false), .mv (.s 11), .none⟩,
       ⟨some 41, some (39, false), .call 5 [.s 40, .c (.d (.int .i64 0))] 2, .none⟩,
       ⟨some 42, some (39, false), .mv (.s 11), .none⟩,
       ⟨some 43, some (39, false), .call 7 [.s 41, .s 42] 2, .none⟩,
       ⟨some 44, some (39, false), .un .not (.s 43), .none⟩,
       ⟨some 45, none, .pick (.s 39) (.c (.d (.bool true))) (.s 44), .none⟩])
   (.cond (.s 45)
    (.seq (.reg [⟨some 8, none, .mv (.c (.d (.bool false))), .none⟩])
    (.ret none))
    .skip))
  (.seq (.reg [⟨some 46, none, .mv (.s 0), .none⟩,
      ⟨some 47, none, .mv (.s 3), .none⟩,
      ⟨some 48, none, .call 10 [.s 46, .s 47] 2, .none⟩,
      ⟨some 12, none, .mv (.s 48), .none⟩])
  (.seq (.seq (.reg [⟨some 49, none, .mv (.s 10), .none⟩,
       ⟨some 50, none, .len (.s 49), .none⟩,
       ⟨some 51, none, .mv (.c (.d (.int .i64 0))), .none⟩])
   (.block 0 (.loop [3, 6, 10, 11, 12, 49, 50, 51] lp3_0)))
  (.seq (.reg [⟨some 75, none, .mv (.s 11), .none⟩,
      ⟨some 76, none, .mv (.s 3), .none⟩,
      ⟨some 77, none, .call 12 [.s 75, .s 76] 2, .none⟩,
      ⟨some 78, none, .mv (.s 12), .none⟩,
      ⟨some 79, none, .beq false (.s 77) (.s 78), .none⟩,
      ⟨some 80, none, .mv (.s 79), .none⟩,
      ⟨some 81, some (80, true), .mv (.s 10), .none⟩,
      ⟨some 82, some (80, true), .mv (.s 3), .none⟩,
      ⟨some 83, some (80, true), .call 12 [.s 81, .s 82] 2, .none⟩,
      ⟨some 84, some (80, true), .mv (.s 12), .none⟩,
      ⟨some 85, some (80, true), .mv (.s 84), .none⟩,
      ⟨some 86, some (85, true), .ld (.s 6) 2 true, .none⟩,
      ⟨some 87, some (85, true), .bsl 24 2 1 [.int .i64 0, .int .i64 0] [(0, (2, .s 86))], .none⟩,
      ⟨some 88, some (85, true), .mv (.s 3), .none⟩,
      ⟨some 89, some (85, true), .call 10 [.s 87, .s 88] 0, .none⟩,
      ⟨some 90, some (85, true), .un .not (.s 89), .none⟩,
      ⟨some 91, some (80, true), .pick (.s 85) (.s 90) (.c (.d (.bool false))), .none⟩,
      ⟨some 92, some (80, true), .beq false (.s 83) (.s 91), .none⟩,
      ⟨some 93, none, .pick (.s 80) (.s 92) (.c (.d (.bool false))), .none⟩,
      ⟨some 8, none, .mv (.s 93), .none⟩])
  (.ret none)))))))))))
def ir3 : F := { n := 94, res := [.tmp 8], body := bd3 }
@[go_sem] theorem n3 : ir3.n = 94 := rfl
@[go_sem] theorem r3 : ir3.res = [.tmp 8] := rfl
@[go_sem] theorem b3 : ir3.body = bd3 := rfl
/-- spence/spencelaw06.awake -/
def bd4 : C :=
  (.seq (.reg [⟨some 0, none, .mv (.c (.d (.bool false))), .none⟩])
  (.seq (.reg [⟨some 2, none, .build [.int .i64 0, .int .i64 0, .int .i64 0] [(0, (1, .c (.d (.int .i64 3)))), (1, (1, .c (.d (.int .i64 500))))], .none⟩,
      ⟨some 3, none, .bsl 35 3 1 [.int .i64 0, .int .i64 0, .int .i64 0] [(0, (3, .s 2))], .none⟩,
      ⟨some 4, none, .call 13 [.s 3, .c (.d (.int .i64 100))] 0, .none⟩,
      ⟨some 1, none, .mv (.s 4), .none⟩])
  (.seq (.reg [⟨some 5, none, .mv (.s 1), .none⟩,
      ⟨some 6, none, .len (.s 5), .none⟩,
      ⟨some 7, none, .bin .eql (.s 6) (.c (.d (.int .i64 1))), .none⟩,
      ⟨some 8, none, .mv (.s 7), .none⟩,
      ⟨some 9, some (8, true), .mv (.s 1), .none⟩,
      ⟨some 10, some (8, true), .is (.s 9) (.c (.d (.int .i64 0))) 2, .none⟩,
      ⟨some 11, some (8, true), .ld (.s 10) 2 true, .none⟩,
      ⟨some 12, some (8, true), .build [.int .i64 0, .int .i64 0] [(1, (1, .c (.d (.int .i64 100))))], .none⟩,
      ⟨some 13, some (8, true), .eqs false [1, 1] (.s 11) (.s 12), .none⟩,
      ⟨some 14, none, .pick (.s 8) (.s 13) (.c (.d (.bool false))), .none⟩,
      ⟨some 0, none, .mv (.s 14), .none⟩])
  (.ret none))))
def ir4 : F := { n := 15, res := [.tmp 0], body := bd4 }
@[go_sem] theorem n4 : ir4.n = 15 := rfl
@[go_sem] theorem r4 : ir4.res = [.tmp 0] := rfl
@[go_sem] theorem b4 : ir4.body = bd4 := rfl
def lb5_0 : C :=
  (.seq (.reg [⟨some 20, none, .bin .lss (.s 19) (.s 18), .none⟩])
  (.seq (.cond (.s 20)
    .skip
    (.exit 0 (some [6])))
  (.seq (.block 1 (.seq (.reg [⟨some 21, none, .is (.s 17) (.s 19) 2, .none⟩,
        ⟨some 22, none, .ld (.s 21) 2 true, .none⟩,
        ⟨some 8, none, .alloc 24 [.int .i64 0, .int .i64 0], .none⟩,
        ⟨none, none, .st (.s 8) (.s 22) 2, .none⟩])
    (.seq (.reg [⟨some 23, none, .mv (.s 6), .none⟩,
        ⟨some 24, none, .len (.s 23), .none⟩,
        ⟨some 9, none, .mv (.s 24), .none⟩])
    (.seq (.seq (.drw [⟨some 25, none, .mv (.s 9), .none⟩,
         ⟨some 26, none, .bin .gtr (.s 25) (.c (.d (.int .i64 0))), .none⟩,
         ⟨some 27, none, .mv (.s 26), .none⟩,
         ⟨some 28, some (27, true), .fa (.s 8) 0, .none⟩,
         ⟨some 29, some (27, true), .ld (.s 28) 1 false, .none⟩,
         ⟨some 30, some (27, true), .mv (.s 6), .none⟩,
         ⟨some 31, some (27, true), .mv (.s 9), .none⟩,
         ⟨some 32, some (27, true), .bin .sub (.s 31) (.c (.d (.int .i64 1))), .none⟩,
         ⟨some 33, some (27, true), .is (.s 30) (.s 32) 2, .none⟩,
         ⟨some 34, some (27, true), .fa (.s 33) 1, .none⟩,
         ⟨some 35, some (27, true), .ld (.s 34) 1 false, .none⟩,
         ⟨some 36, some (27, true), .bin .sub (.s 29) (.s 35), .none⟩,
         ⟨some 37, some (27, true), .mv (.s 1), .none⟩,
         ⟨some 38, some (27, true), .bin .leq (.s 36) (.s 37), .none⟩,
         ⟨some 39, none, .pick (.s 27) (.s 38) (.c (.d (.bool false))), .none⟩]
        [[], [0], [1], [2], [3, 2], [2], [2], [6, 2], [5, 7, 2], [8, 2], [9, 2], [4, 10, 2], [2], [11, 12, 2], [2, 13]] [])
     (.cond (.s 39)
      (.seq (.drw [⟨some 40, none, .mv (.s 6), .none⟩,
          ⟨some 41, none, .mv (.s 9), .none⟩,
          ⟨some 42, none, .bin .sub (.s 41) (.c (.d (.int .i64 1))), .none⟩,
          ⟨some 43, none, .mv (.s 6), .none⟩,
          ⟨some 44, none, .mv (.s 9), .none⟩,
          ⟨some 45, none, .bin .sub (.s 44) (.c (.d (.int .i64 1))), .none⟩,
          ⟨some 46, none, .is (.s 43) (.s 45) 2, .none⟩,
          ⟨some 47, none, .fa (.s 46) 1, .none⟩,
          ⟨some 48, none, .ld (.s 47) 1 false, .none⟩,
          ⟨some 49, none, .fa (.s 8) 1, .none⟩,
          ⟨some 50, none, .ld (.s 49) 1 false, .none⟩,
          ⟨some 51, none, .mx (.s 48) (.s 50), .none⟩,
          ⟨some 52, none, .is (.s 40) (.s 42) 2, .none⟩,
          ⟨some 53, none, .fa (.s 52) 1, .none⟩,
          ⟨none, none, .st (.s 53) (.s 51) 1, .none⟩]
         [[], [], [1], [], [], [4], [3, 5], [6], [7], [], [9], [8, 10], [0, 2, 0, 1, 2, 3, 4, 5, 6, 7, 8, 9, 10, 11], [12, 0, 1, 2, 3, 4, 5, 6, 7, 8, 9, 10, 11], [13, 11, 0, 1, 2, 3, 4, 5, 6, 7, 8, 9, 10, 11]] [])
      (.exit 1 none))
      .skip))
    (.reg [⟨some 54, none, .mv (.s 6), .none⟩,
       ⟨some 55, none, .ld (.s 8) 2 true, .none⟩,
       ⟨some 56, none, .bsl 24 2 1 [.int .i64 0, .int .i64 0] [(0, (2, .s 55))], .none⟩,
       ⟨some 57, none, .app 24 2 16 (.s 54) (.s 56), .none⟩,
       ⟨some 6, none, .mv (.s 57), .none⟩])))))
  (.reg [⟨some 58, none, .bin .add (.s 19) (.c (.d (.int .i64 1))), .none⟩,
     ⟨some 19, none, .mv (.s 58), .none⟩]))))
def lp5_0 : C := lb5_0
theorem u5_0 (c : Ev.Callee) (l : Ev.Looper) (s : St) : evC c l lp5_0 s = evC c l lb5_0 s := rfl
abbrev st5_0 (m : Nat) (s1 s6 s17 s18 s19 : AV) (h : Heap) : St := ⟨m, [.unk, s1, .unk, .unk, .unk, .unk, s6, .unk, .unk, .unk, .unk, .unk, .unk, .unk, .unk, .unk, .unk, s17, s18, s19, .unk, .unk, .unk, .unk, .unk, .unk, .unk, .unk, .unk, .unk, .unk, .unk, .unk, .unk, .unk, .unk, .unk, .unk, .unk, .unk, .unk, .unk, .unk, .unk, .unk, .unk, .unk, .unk, .unk, .unk, .unk, .unk, .unk, .unk, .unk, .unk, .unk, .unk, .unk, .unk], h⟩
@[go_sem] theorem ks5_0 (v0 v1 v2 v3 v4 v5 v6 v7 v8 v9 v10 v11 v12 v13 v14 v15 v16 v17 v18 v19 v20 v21 v22 v23 v24 v25 v26 v27 v28 v29 v30 v31 v32 v33 v34 v35 v36 v37 v38 v39 v40 v41 v42 v43 v44 v45 v46 v47 v48 v49 v50 v51 v52 v53 v54 v55 v56 v57 v58 v59 : AV) : keepS [1, 6, 17, 18, 19] [v0, v1, v2, v3, v4, v5, v6, v7, v8, v9, v10, v11, v12, v13, v14, v15, v16, v17, v18, v19, v20, v21, v22, v23, v24, v25, v26, v27, v28, v29, v30, v31, v32, v33, v34, v35, v36, v37, v38, v39, v40, v41, v42, v43, v44, v45, v46, v47, v48, v49, v50, v51, v52, v53, v54, v55, v56, v57, v58, v59] 0 = [.unk, v1, .unk, .unk, .unk, .unk, v6, .unk, .unk, .unk, .unk, .unk, .unk, .unk, .unk, .unk, .unk, v17, v18, v19, .unk, .unk, .unk, .unk, .unk, .unk, .unk, .unk, .unk, .unk, .unk, .unk, .unk, .unk, .unk, .unk, .unk, .unk, .unk, .unk, .unk, .unk, .unk, .unk, .unk, .unk, .unk, .unk, .unk, .unk, .unk, .unk, .unk, .unk, .unk, .unk, .unk, .unk, .unk, .unk] := rfl
@[go_sem] theorem ks5_1 (v0 v1 v2 v3 v4 v5 v6 v7 v8 v9 v10 v11 v12 v13 v14 v15 v16 v17 v18 v19 v20 v21 v22 v23 v24 v25 v26 v27 v28 v29 v30 v31 v32 v33 v34 v35 v36 v37 v38 v39 v40 v41 v42 v43 v44 v45 v46 v47 v48 v49 v50 v51 v52 v53 v54 v55 v56 v57 v58 v59 : AV) : keepS [6] [v0, v1, v2, v3, v4, v5, v6, v7, v8, v9, v10, v11, v12, v13, v14, v15, v16, v17, v18, v19, v20, v21, v22, v23, v24, v25, v26, v27, v28, v29, v30, v31, v32, v33, v34, v35, v36, v37, v38, v39, v40, v41, v42, v43, v44, v45, v46, v47, v48, v49, v50, v51, v52, v53, v54, v55, v56, v57, v58, v59] 0 = [.unk, .unk, .unk, .unk, .unk, .unk, v6, .unk, .unk, .unk, .unk, .unk, .unk, .unk, .unk, .unk, .unk, .unk, .unk, .unk, .unk, .unk, .unk, .unk, .unk, .unk, .unk, .unk, .unk, .unk, .unk, .unk, .unk, .unk, .unk, .unk, .unk, .unk, .unk, .unk, .unk, .unk, .unk, .unk, .unk, .unk, .unk, .unk, .unk, .unk, .unk, .unk, .unk, .unk, .unk, .unk, .unk, .unk, .unk, .unk] := rfl
/-- spence/span.Merge -/
def bd5 : C :=
  (.seq (.reg [⟨some 4, none, .mv (.c (.d .nils)), .one 2 true⟩])
  (.seq (.reg [⟨some 10, none, .mv (.s 1), .none⟩,
      ⟨some 11, none, .mx (.s 10) (.c (.d (.int .i64 0))), .none⟩,
      ⟨some 1, none, .mv (.s 11), .none⟩])
  (.seq (.reg [⟨some 12, none, .mv (.s 0), .none⟩,
      ⟨some 13, none, .call 15 [.s 12] 0, .none⟩,
      ⟨some 14, none, .call 14 [.s 13, .c (.clo (.func 16) [] [])] 1, .none⟩,
      ⟨some 5, none, .mv (.s 14), .none⟩])
  (.seq (.reg [⟨some 15, none, .mv (.s 5), .none⟩,
      ⟨some 16, none, .call 18 [.s 15, .c (.clo (.func 19) [] [])] 1, .none⟩])
  (.seq (.reg [⟨some 6, none, .mv (.c (.d .nils)), .one 2 true⟩])
  (.seq (.seq (.reg [⟨some 17, none, .mv (.s 5), .none⟩,
       ⟨some 18, none, .len (.s 17), .none⟩,
       ⟨some 19, none, .mv (.c (.d (.int .i64 0))), .none⟩])
   (.block 0 (.loop [1, 6, 17, 18, 19] lp5_0)))
  (.seq (.reg [⟨some 59, none, .mv (.s 6), .none⟩,
      ⟨some 4, none, .mv (.s 59), .none⟩])
  (.ret none))))))))
def ir5 : F := { n := 60, res := [.tmp 4], body := bd5 }
@[go_sem] theorem n5 : ir5.n = 60 := rfl
@[go_sem] theorem r5 : ir5.res = [.tmp 4] := rfl
@[go_sem] theorem b5 : ir5.body = bd5 := rfl
def lb6_0 : C :=
  (.seq (.reg [⟨some 14, none, .bin .lss (.s 13) (.s 12), .none⟩])
  (.seq (.cond (.s 14)
    .skip
    (.exit 0 (some [5])))
  (.seq (.block 1 (.seq (.reg [⟨some 15, none, .is (.s 11) (.s 13) 2, .none⟩,
        ⟨some 16, none, .ld (.s 15) 2 true, .none⟩,
        ⟨some 8, none, .alloc 24 [.int .i64 0, .int .i64 0], .none⟩,
        ⟨none, none, .st (.s 8) (.s 16) 2, .none⟩])
    (.seq (.seq (.reg [⟨some 17, none, .ld (.s 3) 2 true, .none⟩,
         ⟨some 18, none, .call 17 [.s 17] 2, .none⟩,
         ⟨some 19, none, .un .not (.s 18), .none⟩])
     (.cond (.s 19)
      (.seq (.reg [⟨some 20, none, .mv (.s 6), .none⟩,
          ⟨some 21, none, .ld (.s 8) 2 true, .none⟩,
          ⟨some 22, none, .callv (.s 20) [.s 21] 0, .none⟩])
      (.exit 1 none))
      .skip))
    (.seq (.reg [⟨some 23, none, .mv (.s 6), .none⟩,
        ⟨some 24, none, .fa (.s 8) 0, .none⟩,
        ⟨some 25, none, .ld (.s 24) 1 false, .none⟩,
        ⟨some 26, none, .fa (.s 8) 1, .none⟩,
        ⟨some 27, none, .ld (.s 26) 1 false, .none⟩,
        ⟨some 28, none, .fa (.s 3) 0, .none⟩,
        ⟨some 29, none, .ld (.s 28) 1 false, .none⟩,
        ⟨some 30, none, .mn (.s 27) (.s 29), .none⟩,
        ⟨some 31, none, .build [.int .i64 0, .int .i64 0] [(0, (1, .s 25)), (1, (1, .s 30))], .none⟩,
        ⟨some 32, none, .callv (.s 23) [.s 31] 0, .none⟩])
    (.reg [⟨some 33, none, .mv (.s 6), .none⟩,
       ⟨some 34, none, .fa (.s 8) 0, .none⟩,
       ⟨some 35, none, .ld (.s 34) 1 false, .none⟩,
       ⟨some 36, none, .fa (.s 3) 1, .none⟩,
       ⟨some 37, none, .ld (.s 36) 1 false, .none⟩,
       ⟨some 38, none, .mx (.s 35) (.s 37), .none⟩,
       ⟨some 39, none, .fa (.s 8) 1, .none⟩,
       ⟨some 40, none, .ld (.s 39) 1 false, .none⟩,
       ⟨some 41, none, .build [.int .i64 0, .int .i64 0] [(0, (1, .s 38)), (1, (1, .s 40))], .none⟩,
       ⟨some 42, none, .callv (.s 33) [.s 41] 0, .none⟩])))))
  (.reg [⟨some 43, none, .bin .add (.s 13) (.c (.d (.int .i64 1))), .none⟩,
     ⟨some 13, none, .mv (.s 43), .none⟩]))))
def lp6_0 : C := lb6_0
theorem u6_0 (c : Ev.Callee) (l : Ev.Looper) (s : St) : evC c l lp6_0 s = evC c l lb6_0 s := rfl
abbrev st6_0 (m : Nat) (s3 s5 s6 s11 s12 s13 : AV) (h : Heap) : St := ⟨m, [.unk, .unk, .unk, s3, .unk, s5, s6, .unk, .unk, .unk, .unk, s11, s12, s13, .unk, .unk, .unk, .unk, .unk, .unk, .unk, .unk, .unk, .unk, .unk, .unk, .unk, .unk, .unk, .unk, .unk, .unk, .unk, .unk, .unk, .unk, .unk, .unk, .unk, .unk, .unk, .unk, .unk, .unk, .unk], h⟩
@[go_sem] theorem ks6_0 (v0 v1 v2 v3 v4 v5 v6 v7 v8 v9 v10 v11 v12 v13 v14 v15 v16 v17 v18 v19 v20 v21 v22 v23 v24 v25 v26 v27 v28 v29 v30 v31 v32 v33 v34 v35 v36 v37 v38 v39 v40 v41 v42 v43 v44 : AV) : keepS [3, 5, 6, 11, 12, 13] [v0, v1, v2, v3, v4, v5, v6, v7, v8, v9, v10, v11, v12, v13, v14, v15, v16, v17, v18, v19, v20, v21, v22, v23, v24, v25, v26, v27, v28, v29, v30, v31, v32, v33, v34, v35, v36, v37, v38, v39, v40, v41, v42, v43, v44] 0 = [.unk, .unk, .unk, v3, .unk, v5, v6, .unk, .unk, .unk, .unk, v11, v12, v13, .unk, .unk, .unk, .unk, .unk, .unk, .unk, .unk, .unk, .unk, .unk, .unk, .unk, .unk, .unk, .unk, .unk, .unk, .unk, .unk, .unk, .unk, .unk, .unk, .unk, .unk, .unk, .unk, .unk, .unk, .unk] := rfl
@[go_sem] theorem ks6_1 (v0 v1 v2 v3 v4 v5 v6 v7 v8 v9 v10 v11 v12 v13 v14 v15 v16 v17 v18 v19 v20 v21 v22 v23 v24 v25 v26 v27 v28 v29 v30 v31 v32 v33 v34 v35 v36 v37 v38 v39 v40 v41 v42 v43 v44 : AV) : keepS [5] [v0, v1, v2, v3, v4, v5, v6, v7, v8, v9, v10, v11, v12, v13, v14, v15, v16, v17, v18, v19, v20, v21, v22, v23, v24, v25, v26, v27, v28, v29, v30, v31, v32, v33, v34, v35, v36, v37, v38, v39, v40, v41, v42, v43, v44] 0 = [.unk, .unk, .unk, .unk, .unk, v5, .unk, .unk, .unk, .unk, .unk, .unk, .unk, .unk, .unk, .unk, .unk, .unk, .unk, .unk, .unk, .unk, .unk, .unk, .unk, .unk, .unk, .unk, .unk, .unk, .unk, .unk, .unk, .unk, .unk, .unk, .unk, .unk, .unk, .unk, .unk, .unk, .unk, .unk, .unk] := rfl
/-- spence/span.Minus -/
def bd6 : C :=
  (.seq (.reg [⟨some 3, none, .box 24 (.s 1), .none⟩,
      ⟨some 4, none, .mv (.c (.d .nils)), .one 2 false⟩])
  (.seq (.reg [⟨some 5, none, .alloc 22 [.nils], .cells [(0, 2, true)]⟩])
  (.seq (.reg [⟨some 9, none, .fn (.func 20) [] [.s 5], .none⟩,
      ⟨some 6, none, .mv (.s 9), .none⟩])
  (.seq (.seq (.reg [⟨some 10, none, .mv (.s 0), .none⟩,
       ⟨some 11, none, .call 5 [.s 10, .c (.d (.int .i64 0))] 2, .none⟩,
       ⟨some 12, none, .len (.s 11), .none⟩,
       ⟨some 13, none, .mv (.c (.d (.int .i64 0))), .none⟩])
   (.block 0 (.loop [3, 5, 6, 11, 12, 13] lp6_0)))
  (.seq (.reg [⟨some 44, none, .ld (.s 5) 1 false, .none⟩,
      ⟨some 4, none, .mv (.s 44), .none⟩])
  (.ret none))))))
def ir6 : F := { n := 45, res := [.tmp 4], body := bd6 }
@[go_sem] theorem n6 : ir6.n = 45 := rfl
@[go_sem] theorem r6 : ir6.res = [.tmp 4] := rfl
@[go_sem] theorem b6 : ir6.body = bd6 := rfl
def lb7_0 : C :=
  (.seq (.reg [⟨some 14, none, .bin .lss (.s 13) (.s 12), .none⟩])
  (.seq (.cond (.s 14)
    .skip
    (.exit 0 (some [])))
  (.seq (.block 1 (.seq (.reg [⟨some 15, none, .mv (.s 13), .none⟩,
        ⟨some 5, none, .mv (.s 15), .none⟩])
    (.seq (.drw [⟨some 16, none, .mv (.s 0), .none⟩,
        ⟨some 17, none, .mv (.s 5), .none⟩,
        ⟨some 18, none, .is (.s 16) (.s 17) 2, .none⟩,
        ⟨some 19, none, .ld (.s 18) 2 true, .none⟩,
        ⟨some 20, none, .mv (.s 1), .none⟩,
        ⟨some 21, none, .mv (.s 5), .none⟩,
        ⟨some 22, none, .is (.s 20) (.s 21) 2, .none⟩,
        ⟨some 23, none, .ld (.s 22) 2 true, .none⟩,
        ⟨some 24, none, .eqs true [1, 1] (.s 19) (.s 23), .none⟩]
       [[], [], [0, 1], [2], [], [], [4, 5], [6], [3, 7]] [])
    (.cond (.s 24)
     (.seq (.reg [⟨some 4, none, .mv (.c (.d (.bool false))), .none⟩])
     (.ret (some [4])))
     .skip))))
  (.reg [⟨some 25, none, .bin .add (.s 13) (.c (.d (.int .i64 1))), .none⟩,
     ⟨some 13, none, .mv (.s 25), .none⟩]))))
def lp7_0 : C := lb7_0
theorem u7_0 (c : Ev.Callee) (l : Ev.Looper) (s : St) : evC c l lp7_0 s = evC c l lb7_0 s := rfl
abbrev st7_0 (m : Nat) (s0 s1 s12 s13 : AV) (h : Heap) : St := ⟨m, [s0, s1, .unk, .unk, .unk, .unk, .unk, .unk, .unk, .unk, .unk, .unk, s12, s13, .unk, .unk, .unk, .unk, .unk, .unk, .unk, .unk, .unk, .unk, .unk, .unk], h⟩
@[go_sem] theorem ks7_0 (v0 v1 v2 v3 v4 v5 v6 v7 v8 v9 v10 v11 v12 v13 v14 v15 v16 v17 v18 v19 v20 v21 v22 v23 v24 v25 : AV) : keepS [0, 1, 12, 13] [v0, v1, v2, v3, v4, v5, v6, v7, v8, v9, v10, v11, v12, v13, v14, v15, v16, v17, v18, v19, v20, v21, v22, v23, v24, v25] 0 = [v0, v1, .unk, .unk, .unk, .unk, .unk, .unk, .unk, .unk, .unk, .unk, v12, v13, .unk, .unk, .unk, .unk, .unk, .unk, .unk, .unk, .unk, .unk, .unk, .unk] := rfl
@[go_sem] theorem ks7_1 (v0 v1 v2 v3 v4 v5 v6 v7 v8 v9 v10 v11 v12 v13 v14 v15 v16 v17 v18 v19 v20 v21 v22 v23 v24 v25 : AV) : keepS [] [v0, v1, v2, v3, v4, v5, v6, v7, v8, v9, v10, v11, v12, v13, v14, v15, v16, v17, v18, v19, v20, v21, v22, v23, v24, v25] 0 = [.unk, .unk, .unk, .unk, .unk, .unk, .unk, .unk, .unk, .unk, .unk, .unk, .unk, .unk, .unk, .unk, .unk, .unk, .unk, .unk, .unk, .unk, .unk, .unk, .unk, .unk] := rfl
@[go_sem] theorem ks7_2 (v0 v1 v2 v3 v4 v5 v6 v7 v8 v9 v10 v11 v12 v13 v14 v15 v16 v17 v18 v19 v20 v21 v22 v23 v24 v25 : AV) : keepS [4] [v0, v1, v2, v3, v4, v5, v6, v7, v8, v9, v10, v11, v12, v13, v14, v15, v16, v17, v18, v19, v20, v21, v22, v23, v24, v25] 0 = [.unk, .unk, .unk, .unk, v4, .unk, .unk, .unk, .unk, .unk, .unk, .unk, .unk, .unk, .unk, .unk, .unk, .unk, .unk, .unk, .unk, .unk, .unk, .unk, .unk, .unk] := rfl
/-- spence/spenceref04.Spans -/
def bd7 : C :=
  (.seq (.reg [⟨some 4, none, .mv (.c (.d (.bool false))), .none⟩])
  (.seq (.seq (.reg [⟨some 6, none, .mv (.s 0), .none⟩,
       ⟨some 7, none, .len (.s 6), .none⟩,
       ⟨some 8, none, .mv (.s 1), .none⟩,
       ⟨some 9, none, .len (.s 8), .none⟩,
       ⟨some 10, none, .bin .neq (.s 7) (.s 9), .none⟩])
   (.cond (.s 10)
    (.seq (.reg [⟨some 4, none, .mv (.c (.d (.bool false))), .none⟩])
    (.ret none))
    .skip))
  (.seq (.seq (.reg [⟨some 11, none, .mv (.s 0), .none⟩,
       ⟨some 12, none, .len (.s 11), .none⟩,
       ⟨some 13, none, .mv (.c (.d (.int .i64 0))), .none⟩])
   (.block 0 (.loop [0, 1, 12, 13] lp7_0)))
  (.seq (.reg [⟨some 4, none, .mv (.c (.d (.bool true))), .none⟩])
  (.ret none)))))
def ir7 : F := { n := 26, res := [.tmp 4], body := bd7 }
@[go_sem] theorem n7 : ir7.n = 26 := rfl
@[go_sem] theorem r7 : ir7.res = [.tmp 4] := rfl
@[go_sem] theorem b7 : ir7.body = bd7 := rfl
def lb8_2 : C :=
  (.seq (.seq (.reg [⟨some 52, none, .mv (.s 9), .none⟩,
       ⟨some 53, none, .bin .add (.s 52) (.c (.d (.int .i64 1))), .none⟩,
       ⟨some 54, none, .mv (.s 5), .none⟩,
       ⟨some 55, none, .len (.s 54), .none⟩,
       ⟨some 56, none, .bin .lss (.s 53) (.s 55), .none⟩])
   (.cond (.s 56)
    .skip
    (.exit 4 (some [5]))))
  (.block 5 (.seq (.drr [⟨some 57, none, .mv (.s 5), .none⟩,
       ⟨some 58, none, .mv (.s 9), .none⟩,
       ⟨some 59, none, .is (.s 57) (.s 58) 2, .none⟩,
       ⟨some 60, none, .ld (.s 59) 2 true, .none⟩,
       ⟨some 61, none, .mv (.s 5), .none⟩,
       ⟨some 62, none, .mv (.s 9), .none⟩,
       ⟨some 63, none, .bin .add (.s 62) (.c (.d (.int .i64 1))), .none⟩,
       ⟨some 64, none, .is (.s 61) (.s 63) 2, .none⟩,
       ⟨some 65, none, .ld (.s 64) 2 true, .none⟩,
       ⟨some 10, none, .alloc 24 [.int .i64 0, .int .i64 0], .res []⟩,
       ⟨some 11, none, .alloc 24 [.int .i64 0, .int .i64 0], .res []⟩,
       ⟨none, none, .st (.s 10) (.s 60) 2, .none⟩,
       ⟨none, none, .st (.s 11) (.s 65) 2, .none⟩]
      [[], [], [0, 1], [2], [], [], [5], [4, 6], [7], [], [], [9, 3, 0, 1, 2, 3, 9, 10], [10, 8, 11, 0, 1, 2, 3, 4, 5, 6, 7, 8, 9, 10, 11]] [(64, 10)] [] [])
   (.seq (.seq (.reg [⟨some 66, none, .fa (.s 11) 0, .none⟩,
        ⟨some 67, none, .ld (.s 66) 1 false, .none⟩,
        ⟨some 68, none, .fa (.s 10) 1, .none⟩,
        ⟨some 69, none, .ld (.s 68) 1 false, .none⟩,
        ⟨some 70, none, .bin .sub (.s 67) (.s 69), .none⟩,
        ⟨some 71, none, .mv (.s 1), .none⟩,
        ⟨some 72, none, .bin .gtr (.s 70) (.s 71), .none⟩])
    (.cond (.s 72)
     (.seq (.reg [⟨some 73, none, .mv (.s 9), .none⟩,
         ⟨some 74, none, .bin .add (.s 73) (.c (.d (.int .i64 1))), .none⟩,
         ⟨some 9, none, .mv (.s 74), .none⟩])
     (.exit 5 none))
     .skip))
   (.seq (.seq (.reg [⟨some 75, none, .fa (.s 11) 1, .none⟩,
        ⟨some 76, none, .ld (.s 75) 1 false, .none⟩,
        ⟨some 77, none, .fa (.s 10) 1, .none⟩,
        ⟨some 78, none, .ld (.s 77) 1 false, .none⟩,
        ⟨some 79, none, .bin .gtr (.s 76) (.s 78), .none⟩])
    (.cond (.s 79)
     (.reg [⟨some 80, none, .fa (.s 11) 1, .none⟩,
        ⟨some 81, none, .ld (.s 80) 1 false, .none⟩,
        ⟨some 82, none, .fa (.s 10) 1, .none⟩,
        ⟨none, none, .st (.s 82) (.s 81) 1, .none⟩])
     .skip))
   (.ann [1, 5, 9, 10] (.drw [⟨some 83, none, .mv (.s 5), .none⟩,
      ⟨some 84, none, .mv (.s 9), .none⟩,
      ⟨some 85, none, .mv (.s 9), .none⟩,
      ⟨some 86, none, .sl (.s 83) none (some (.s 84)) (some (.s 85)) 2, .none⟩,
      ⟨some 87, none, .ld (.s 10) 2 true, .none⟩,
      ⟨some 88, none, .bsl 24 2 1 [.int .i64 0, .int .i64 0] [(0, (2, .s 87))], .none⟩,
      ⟨some 89, none, .app 24 2 16 (.s 86) (.s 88), .none⟩,
      ⟨some 90, none, .mv (.s 5), .none⟩,
      ⟨some 91, none, .mv (.s 9), .none⟩,
      ⟨some 92, none, .bin .add (.s 91) (.c (.d (.int .i64 2))), .none⟩,
      ⟨some 93, none, .sl (.s 90) (some (.s 92)) none none 2, .none⟩,
      ⟨some 94, none, .app 24 2 16 (.s 89) (.s 93), .none⟩,
      ⟨some 5, none, .mv (.s 94), .none⟩]
     [[], [], [], [0, 1, 2], [], [4], [3, 5], [], [], [8], [7, 9], [6, 10, 6], [11, 11, 0, 1, 2, 3, 4, 5, 6, 7, 8, 9, 10, 11]] [])))))))
def lp8_2 : C := lb8_2
theorem u8_2 (c : Ev.Callee) (l : Ev.Looper) (s : St) : evC c l lp8_2 s = evC c l lb8_2 s := rfl
abbrev st8_2 (m : Nat) (s1 s5 s9 : AV) (h : Heap) : St := ⟨m, [.unk, s1, .unk, .unk, .unk, s5, .unk, .unk, .unk, s9, .unk, .unk, .unk, .unk, .unk, .unk, .unk, .unk, .unk, .unk, .unk, .unk, .unk, .unk, .unk, .unk, .unk, .unk, .unk, .unk, .unk, .unk, .unk, .unk, .unk, .unk, .unk, .unk, .unk, .unk, .unk, .unk, .unk, .unk, .unk, .unk, .unk, .unk, .unk, .unk, .unk, .unk, .unk, .unk, .unk, .unk, .unk, .unk, .unk, .unk, .unk, .unk, .unk, .unk, .unk, .unk, .unk, .unk, .unk, .unk, .unk, .unk, .unk, .unk, .unk, .unk, .unk, .unk, .unk, .unk, .unk, .unk, .unk, .unk, .unk, .unk, .unk, .unk, .unk, .unk, .unk, .unk, .unk, .unk, .unk, .unk], h⟩
def lb8_1 : C :=
  (.seq (.seq (.drw [⟨some 25, none, .mv (.s 8), .none⟩,
       ⟨some 26, none, .bin .gtr (.s 25) (.c (.d (.int .i64 0))), .none⟩,
       ⟨some 27, none, .mv (.s 26), .none⟩,
       ⟨some 28, some (27, true), .mv (.s 5), .none⟩,
       ⟨some 29, some (27, true), .mv (.s 8), .none⟩,
       ⟨some 30, some (27, true), .bin .sub (.s 29) (.c (.d (.int .i64 1))), .none⟩,
       ⟨some 31, some (27, true), .is (.s 28) (.s 30) 2, .none⟩,
       ⟨some 32, some (27, true), .fa (.s 31) 0, .none⟩,
       ⟨some 33, some (27, true), .ld (.s 32) 1 false, .none⟩,
       ⟨some 34, some (27, true), .fa (.s 7) 0, .none⟩,
       ⟨some 35, some (27, true), .ld (.s 34) 1 false, .none⟩,
       ⟨some 36, some (27, true), .bin .gtr (.s 33) (.s 35), .none⟩,
       ⟨some 37, none, .pick (.s 27) (.s 36) (.c (.d (.bool false))), .none⟩]
      [[], [0], [1], [2], [2], [4, 2], [3, 5, 2], [6, 2], [7, 2], [2], [9, 2], [8, 10, 2], [2, 11]] [])
   (.cond (.s 37)
    .skip
    (.exit 2 (some [1, 5, 7, 8, 14, 15, 16]))))
  (.block 3 (.reg [⟨some 38, none, .mv (.s 8), .none⟩,
      ⟨some 39, none, .bin .sub (.s 38) (.c (.d (.int .i64 1))), .none⟩,
      ⟨some 8, none, .mv (.s 39), .none⟩])))
def lp8_1 : C := lb8_1
theorem u8_1 (c : Ev.Callee) (l : Ev.Looper) (s : St) : evC c l lp8_1 s = evC c l lb8_1 s := rfl
abbrev st8_1 (m : Nat) (s1 s5 s7 s8 s14 s15 s16 : AV) (h : Heap) : St := ⟨m, [.unk, s1, .unk, .unk, .unk, s5, .unk, s7, s8, .unk, .unk, .unk, .unk, .unk, s14, s15, s16, .unk, .unk, .unk, .unk, .unk, .unk, .unk, .unk, .unk, .unk, .unk, .unk, .unk, .unk, .unk, .unk, .unk, .unk, .unk, .unk, .unk, .unk, .unk, .unk, .unk, .unk, .unk, .unk, .unk, .unk, .unk, .unk, .unk, .unk, .unk, .unk, .unk, .unk, .unk, .unk, .unk, .unk, .unk, .unk, .unk, .unk, .unk, .unk, .unk, .unk, .unk, .unk, .unk, .unk, .unk, .unk, .unk, .unk, .unk, .unk, .unk, .unk, .unk, .unk, .unk, .unk, .unk, .unk, .unk, .unk, .unk, .unk, .unk, .unk, .unk, .unk, .unk, .unk, .unk], h⟩
def lb8_0 : C :=
  (.seq (.reg [⟨some 17, none, .bin .lss (.s 16) (.s 15), .none⟩])
  (.seq (.cond (.s 17)
    .skip
    (.exit 0 (some [1, 5])))
  (.seq (.block 1 (.seq (.reg [⟨some 18, none, .is (.s 14) (.s 16) 2, .none⟩,
        ⟨some 19, none, .ld (.s 18) 2 true, .none⟩,
        ⟨some 7, none, .alloc 24 [.int .i64 0, .int .i64 0], .none⟩,
        ⟨none, none, .st (.s 7) (.s 19) 2, .none⟩])
    (.seq (.seq (.reg [⟨some 20, none, .ld (.s 7) 2 true, .none⟩,
         ⟨some 21, none, .call 11 [.s 20] 2, .none⟩,
         ⟨some 22, none, .un .not (.s 21), .none⟩])
     (.cond (.s 22)
      (.exit 1 none)
      .skip))
    (.seq (.reg [⟨some 23, none, .mv (.s 5), .none⟩,
        ⟨some 24, none, .len (.s 23), .none⟩,
        ⟨some 8, none, .mv (.s 24), .none⟩])
    (.seq (.block 2 (.loop [1, 5, 7, 8, 14, 15, 16] lp8_1))
    (.drw [⟨some 40, none, .mv (.s 5), .none⟩,
       ⟨some 41, none, .mv (.s 8), .none⟩,
       ⟨some 42, none, .mv (.s 8), .none⟩,
       ⟨some 43, none, .sl (.s 40) none (some (.s 41)) (some (.s 42)) 2, .none⟩,
       ⟨some 44, none, .ld (.s 7) 2 true, .none⟩,
       ⟨some 45, none, .bsl 24 2 1 [.int .i64 0, .int .i64 0] [(0, (2, .s 44))], .none⟩,
       ⟨some 46, none, .mv (.s 5), .none⟩,
       ⟨some 47, none, .mv (.s 8), .none⟩,
       ⟨some 48, none, .sl (.s 46) (some (.s 47)) none none 2, .none⟩,
       ⟨some 49, none, .app 24 2 16 (.s 45) (.s 48), .none⟩,
       ⟨some 50, none, .app 24 2 16 (.s 43) (.s 49), .none⟩,
       ⟨some 5, none, .mv (.s 50), .none⟩]
      [[], [], [], [0, 1, 2], [], [4], [], [], [6, 7], [5, 8], [3, 9, 9], [10, 10, 0, 1, 2, 3, 4, 5, 6, 7, 8, 9, 10]] []))))))
  (.reg [⟨some 51, none, .bin .add (.s 16) (.c (.d (.int .i64 1))), .none⟩,
     ⟨some 16, none, .mv (.s 51), .none⟩]))))
def lp8_0 : C := lb8_0
theorem u8_0 (c : Ev.Callee) (l : Ev.Looper) (s : St) : evC c l lp8_0 s = evC c l lb8_0 s := rfl
abbrev st8_0 (m : Nat) (s1 s5 s14 s15 s16 : AV) (h : Heap) : St := ⟨m, [.unk, s1, .unk, .unk, .unk, s5, .unk, .unk, .unk, .unk, .unk, .unk, .unk, .unk, s14, s15, s16, .unk, .unk, .unk, .unk, .unk, .unk, .unk, .unk, .unk, .unk, .unk, .unk, .unk, .unk, .unk, .unk, .unk, .unk, .unk, .unk, .unk, .unk, .unk, .unk, .unk, .unk, .unk, .unk, .unk, .unk, .unk, .unk, .unk, .unk, .unk, .unk, .unk, .unk, .unk, .unk, .unk, .unk, .unk, .unk, .unk, .unk, .unk, .unk, .unk, .unk, .unk, .unk, .unk, .unk, .unk, .unk, .unk, .unk, .unk, .unk, .unk, .unk, .unk, .unk, .unk, .unk, .unk, .unk, .unk, .unk, .unk, .unk, .unk, .unk, .unk, .unk, .unk, .unk, .unk], h⟩
@[go_sem] theorem ks8_0 (v0 v1 v2 v3 v4 v5 v6 v7 v8 v9 v10 v11 v12 v13 v14 v15 v16 v17 v18 v19 v20 v21 v22 v23 v24 v25 v26 v27 v28 v29 v30 v31 v32 v33 v34 v35 v36 v37 v38 v39 v40 v41 v42 v43 v44 v45 v46 v47 v48 v49 v50 v51 v52 v53 v54 v55 v56 v57 v58 v59 v60 v61 v62 v63 v64 v65 v66 v67 v68 v69 v70 v71 v72 v73 v74 v75 v76 v77 v78 v79 v80 v81 v82 v83 v84 v85 v86 v87 v88 v89 v90 v91 v92 v93 v94 v95 : AV) : keepS [0, 1] [v0, v1, v2, v3, v4, v5, v6, v7, v8, v9, v10, v11, v12, v13, v14, v15, v16, v17, v18, v19, v20, v21, v22, v23, v24, v25, v26, v27, v28, v29, v30, v31, v32, v33, v34, v35, v36, v37, v38, v39, v40, v41, v42, v43, v44, v45, v46, v47, v48, v49, v50, v51, v52, v53, v54, v55, v56, v57, v58, v59, v60, v61, v62, v63, v64, v65, v66, v67, v68, v69, v70, v71, v72, v73, v74, v75, v76, v77, v78, v79, v80, v81, v82, v83, v84, v85, v86, v87, v88, v89, v90, v91, v92, v93, v94, v95] 0 = [v0, v1, .unk, .unk, .unk, .unk, .unk, .unk, .unk, .unk, .unk, .unk, .unk, .unk, .unk, .unk, .unk, .unk, .unk, .unk, .unk, .unk, .unk, .unk, .unk, .unk, .unk, .unk, .unk, .unk, .unk, .unk, .unk, .unk, .unk, .unk, .unk, .unk, .unk, .unk, .unk, .unk, .unk, .unk, .unk, .unk, .unk, .unk, .unk, .unk, .unk, .unk, .unk, .unk, .unk, .unk, .unk, .unk, .unk, .unk, .unk, .unk, .unk, .unk, .unk, .unk, .unk, .unk, .unk, .unk, .unk, .unk, .unk, .unk, .unk, .unk, .unk, .unk, .unk, .unk, .unk, .unk, .unk, .unk, .unk, .unk, .unk, .unk, .unk, .unk, .unk, .unk, .unk, .unk, .unk, .unk] := rfl
@[go_sem] theorem ks8_1 (v0 v1 v2 v3 v4 v5 v6 v7 v8 v9 v10 v11 v12 v13 v14 v15 v16 v17 v18 v19 v20 v21 v22 v23 v24 v25 v26 v27 v28 v29 v30 v31 v32 v33 v34 v35 v36 v37 v38 v39 v40 v41 v42 v43 v44 v45 v46 v47 v48 v49 v50 v51 v52 v53 v54 v55 v56 v57 v58 v59 v60 v61 v62 v63 v64 v65 v66 v67 v68 v69 v70 v71 v72 v73 v74 v75 v76 v77 v78 v79 v80 v81 v82 v83 v84 v85 v86 v87 v88 v89 v90 v91 v92 v93 v94 v95 : AV) : keepS [1, 5, 14, 15, 16] [v0, v1, v2, v3, v4, v5, v6, v7, v8, v9, v10, v11, v12, v13, v14, v15, v16, v17, v18, v19, v20, v21, v22, v23, v24, v25, v26, v27, v28, v29, v30, v31, v32, v33, v34, v35, v36, v37, v38, v39, v40, v41, v42, v43, v44, v45, v46, v47, v48, v49, v50, v51, v52, v53, v54, v55, v56, v57, v58, v59, v60, v61, v62, v63, v64, v65, v66, v67, v68, v69, v70, v71, v72, v73, v74, v75, v76, v77, v78, v79, v80, v81, v82, v83, v84, v85, v86, v87, v88, v89, v90, v91, v92, v93, v94, v95] 0 = [.unk, v1, .unk, .unk, .unk, v5, .unk, .unk, .unk, .unk, .unk, .unk, .unk, .unk, v14, v15, v16, .unk, .unk, .unk, .unk, .unk, .unk, .unk, .unk, .unk, .unk, .unk, .unk, .unk, .unk, .unk, .unk, .unk, .unk, .unk, .unk, .unk, .unk, .unk, .unk, .unk, .unk, .unk, .unk, .unk, .unk, .unk, .unk, .unk, .unk, .unk, .unk, .unk, .unk, .unk, .unk, .unk, .unk, .unk, .unk, .unk, .unk, .unk, .unk, .unk, .unk, .unk, .unk, .unk, .unk, .unk, .unk, .unk, .unk, .unk, .unk, .unk, .unk, .unk, .unk, .unk, .unk, .unk, .unk, .unk, .unk, .unk, .unk, .unk, .unk, .unk, .unk, .unk, .unk, .unk] := rfl
@[go_sem] theorem ks8_2 (v0 v1 v2 v3 v4 v5 v6 v7 v8 v9 v10 v11 v12 v13 v14 v15 v16 v17 v18 v19 v20 v21 v22 v23 v24 v25 v26 v27 v28 v29 v30 v31 v32 v33 v34 v35 v36 v37 v38 v39 v40 v41 v42 v43 v44 v45 v46 v47 v48 v49 v50 v51 v52 v53 v54 v55 v56 v57 v58 v59 v60 v61 v62 v63 v64 v65 v66 v67 v68 v69 v70 v71 v72 v73 v74 v75 v76 v77 v78 v79 v80 v81 v82 v83 v84 v85 v86 v87 v88 v89 v90 v91 v92 v93 v94 v95 : AV) : keepS [1, 5] [v0, v1, v2, v3, v4, v5, v6, v7, v8, v9, v10, v11, v12, v13, v14, v15, v16, v17, v18, v19, v20, v21, v22, v23, v24, v25, v26, v27, v28, v29, v30, v31, v32, v33, v34, v35, v36, v37, v38, v39, v40, v41, v42, v43, v44, v45, v46, v47, v48, v49, v50, v51, v52, v53, v54, v55, v56, v57, v58, v59, v60, v61, v62, v63, v64, v65, v66, v67, v68, v69, v70, v71, v72, v73, v74, v75, v76, v77, v78, v79, v80, v81, v82, v83, v84, v85, v86, v87, v88, v89, v90, v91, v92, v93, v94, v95] 0 = [.unk, v1, .unk, .unk, .unk, v5, .unk, .unk, .unk, .unk, .unk, .unk, .unk, .unk, .unk, .unk, .unk, .unk, .unk, .unk, .unk, .unk, .unk, .unk, .unk, .unk, .unk, .unk, .unk, .unk, .unk, .unk, .unk, .unk, .unk, .unk, .unk, .unk, .unk, .unk, .unk, .unk, .unk, .unk, .unk, .unk, .unk, .unk, .unk, .unk, .unk, .unk, .unk, .unk, .unk, .unk, .unk, .unk, .unk, .unk, .unk, .unk, .unk, .unk, .unk, .unk, .unk, .unk, .unk, .unk, .unk, .unk, .unk, .unk, .unk, .unk, .unk, .unk, .unk, .unk, .unk, .unk, .unk, .unk, .unk, .unk, .unk, .unk, .unk, .unk, .unk, .unk, .unk, .unk, .unk, .unk] := rfl
@[go_sem] theorem ks8_3 (v0 v1 v2 v3 v4 v5 v6 v7 v8 v9 v10 v11 v12 v13 v14 v15 v16 v17 v18 v19 v20 v21 v22 v23 v24 v25 v26 v27 v28 v29 v30 v31 v32 v33 v34 v35 v36 v37 v38 v39 v40 v41 v42 v43 v44 v45 v46 v47 v48 v49 v50 v51 v52 v53 v54 v55 v56 v57 v58 v59 v60 v61 v62 v63 v64 v65 v66 v67 v68 v69 v70 v71 v72 v73 v74 v75 v76 v77 v78 v79 v80 v81 v82 v83 v84 v85 v86 v87 v88 v89 v90 v91 v92 v93 v94 v95 : AV) : keepS [1, 5, 7, 8, 14, 15, 16] [v0, v1, v2, v3, v4, v5, v6, v7, v8, v9, v10, v11, v12, v13, v14, v15, v16, v17, v18, v19, v20, v21, v22, v23, v24, v25, v26, v27, v28, v29, v30, v31, v32, v33, v34, v35, v36, v37, v38, v39, v40, v41, v42, v43, v44, v45, v46, v47, v48, v49, v50, v51, v52, v53, v54, v55, v56, v57, v58, v59, v60, v61, v62, v63, v64, v65, v66, v67, v68, v69, v70, v71, v72, v73, v74, v75, v76, v77, v78, v79, v80, v81, v82, v83, v84, v85, v86, v87, v88, v89, v90, v91, v92, v93, v94, v95] 0 = [.unk, v1, .unk, .unk, .unk, v5, .unk, v7, v8, .unk, .unk, .unk, .unk, .unk, v14, v15, v16, .unk, .unk, .unk, .unk, .unk, .unk, .unk, .unk, .unk, .unk, .unk, .unk, .unk, .unk, .unk, .unk, .unk, .unk, .unk, .unk, .unk, .unk, .unk, .unk, .unk, .unk, .unk, .unk, .unk, .unk, .unk, .unk, .unk, .unk, .unk, .unk, .unk, .unk, .unk, .unk, .unk, .unk, .unk, .unk, .unk, .unk, .unk, .unk, .unk, .unk, .unk, .unk, .unk, .unk, .unk, .unk, .unk, .unk, .unk, .unk, .unk, .unk, .unk, .unk, .unk, .unk, .unk, .unk, .unk, .unk, .unk, .unk, .unk, .unk, .unk, .unk, .unk, .unk, .unk] := rfl
@[go_sem] theorem ks8_4 (v0 v1 v2 v3 v4 v5 v6 v7 v8 v9 v10 v11 v12 v13 v14 v15 v16 v17 v18 v19 v20 v21 v22 v23 v24 v25 v26 v27 v28 v29 v30 v31 v32 v33 v34 v35 v36 v37 v38 v39 v40 v41 v42 v43 v44 v45 v46 v47 v48 v49 v50 v51 v52 v53 v54 v55 v56 v57 v58 v59 v60 v61 v62 v63 v64 v65 v66 v67 v68 v69 v70 v71 v72 v73 v74 v75 v76 v77 v78 v79 v80 v81 v82 v83 v84 v85 v86 v87 v88 v89 v90 v91 v92 v93 v94 v95 : AV) : keepS [1, 5, 9] [v0, v1, v2, v3, v4, v5, v6, v7, v8, v9, v10, v11, v12, v13, v14, v15, v16, v17, v18, v19, v20, v21, v22, v23, v24, v25, v26, v27, v28, v29, v30, v31, v32, v33, v34, v35, v36, v37, v38, v39, v40, v41, v42, v43, v44, v45, v46, v47, v48, v49, v50, v51, v52, v53, v54, v55, v56, v57, v58, v59, v60, v61, v62, v63, v64, v65, v66, v67, v68, v69, v70, v71, v72, v73, v74, v75, v76, v77, v78, v79, v80, v81, v82, v83, v84, v85, v86, v87, v88, v89, v90, v91, v92, v93, v94, v95] 0 = [.unk, v1, .unk, .unk, .unk, v5, .unk, .unk, .unk, v9, .unk, .unk, .unk, .unk, .unk, .unk, .unk, .unk, .unk, .unk, .unk, .unk, .unk, .unk, .unk, .unk, .unk, .unk, .unk, .unk, .unk, .unk, .unk, .unk, .unk, .unk, .unk, .unk, .unk, .unk, .unk, .unk, .unk, .unk, .unk, .unk, .unk, .unk, .unk, .unk, .unk, .unk, .unk, .unk, .unk, .unk, .unk, .unk, .unk, .unk, .unk, .unk, .unk, .unk, .unk, .unk, .unk, .unk, .unk, .unk, .unk, .unk, .unk, .unk, .unk, .unk, .unk, .unk, .unk, .unk, .unk, .unk, .unk, .unk, .unk, .unk, .unk, .unk, .unk, .unk, .unk, .unk, .unk, .unk, .unk, .unk] := rfl
@[go_sem] theorem ks8_5 (v0 v1 v2 v3 v4 v5 v6 v7 v8 v9 v10 v11 v12 v13 v14 v15 v16 v17 v18 v19 v20 v21 v22 v23 v24 v25 v26 v27 v28 v29 v30 v31 v32 v33 v34 v35 v36 v37 v38 v39 v40 v41 v42 v43 v44 v45 v46 v47 v48 v49 v50 v51 v52 v53 v54 v55 v56 v57 v58 v59 v60 v61 v62 v63 v64 v65 v66 v67 v68 v69 v70 v71 v72 v73 v74 v75 v76 v77 v78 v79 v80 v81 v82 v83 v84 v85 v86 v87 v88 v89 v90 v91 v92 v93 v94 v95 : AV) : keepS [5] [v0, v1, v2, v3, v4, v5, v6, v7, v8, v9, v10, v11, v12, v13, v14, v15, v16, v17, v18, v19, v20, v21, v22, v23, v24, v25, v26, v27, v28, v29, v30, v31, v32, v33, v34, v35, v36, v37, v38, v39, v40, v41, v42, v43, v44, v45, v46, v47, v48, v49, v50, v51, v52, v53, v54, v55, v56, v57, v58, v59, v60, v61, v62, v63, v64, v65, v66, v67, v68, v69, v70, v71, v72, v73, v74, v75, v76, v77, v78, v79, v80, v81, v82, v83, v84, v85, v86, v87, v88, v89, v90, v91, v92, v93, v94, v95] 0 = [.unk, .unk, .unk, .unk, .unk, v5, .unk, .unk, .unk, .unk, .unk, .unk, .unk, .unk, .unk, .unk, .unk, .unk, .unk, .unk, .unk, .unk, .unk, .unk, .unk, .unk, .unk, .unk, .unk, .unk, .unk, .unk, .unk, .unk, .unk, .unk, .unk, .unk, .unk, .unk, .unk, .unk, .unk, .unk, .unk, .unk, .unk, .unk, .unk, .unk, .unk, .unk, .unk, .unk, .unk, .unk, .unk, .unk, .unk, .unk, .unk, .unk, .unk, .unk, .unk, .unk, .unk, .unk, .unk, .unk, .unk, .unk, .unk, .unk, .unk, .unk, .unk, .unk, .unk, .unk, .unk, .unk, .unk, .unk, .unk, .unk, .unk, .unk, .unk, .unk, .unk, .unk, .unk, .unk, .unk, .unk] := rfl
@[go_sem] theorem ks8_6 (v0 v1 v2 v3 v4 v5 v6 v7 v8 v9 v10 v11 v12 v13 v14 v15 v16 v17 v18 v19 v20 v21 v22 v23 v24 v25 v26 v27 v28 v29 v30 v31 v32 v33 v34 v35 v36 v37 v38 v39 v40 v41 v42 v43 v44 v45 v46 v47 v48 v49 v50 v51 v52 v53 v54 v55 v56 v57 v58 v59 v60 v61 v62 v63 v64 v65 v66 v67 v68 v69 v70 v71 v72 v73 v74 v75 v76 v77 v78 v79 v80 v81 v82 v83 v84 v85 v86 v87 v88 v89 v90 v91 v92 v93 v94 v95 : AV) : keepS [1, 5, 9, 10] [v0, v1, v2, v3, v4, v5, v6, v7, v8, v9, v10, v11, v12, v13, v14, v15, v16, v17, v18, v19, v20, v21, v22, v23, v24, v25, v26, v27, v28, v29, v30, v31, v32, v33, v34, v35, v36, v37, v38, v39, v40, v41, v42, v43, v44, v45, v46, v47, v48, v49, v50, v51, v52, v53, v54, v55, v56, v57, v58, v59, v60, v61, v62, v63, v64, v65, v66, v67, v68, v69, v70, v71, v72, v73, v74, v75, v76, v77, v78, v79, v80, v81, v82, v83, v84, v85, v86, v87, v88, v89, v90, v91, v92, v93, v94, v95] 0 = [.unk, v1, .unk, .unk, .unk, v5, .unk, .unk, .unk, v9, v10, .unk, .unk, .unk, .unk, .unk, .unk, .unk, .unk, .unk, .unk, .unk, .unk, .unk, .unk, .unk, .unk, .unk, .unk, .unk, .unk, .unk, .unk, .unk, .unk, .unk, .unk, .unk, .unk, .unk, .unk, .unk, .unk, .unk, .unk, .unk, .unk, .unk, .unk, .unk, .unk, .unk, .unk, .unk, .unk, .unk, .unk, .unk, .unk, .unk, .unk, .unk, .unk, .unk, .unk, .unk, .unk, .unk, .unk, .unk, .unk, .unk, .unk, .unk, .unk, .unk, .unk, .unk, .unk, .unk, .unk, .unk, .unk, .unk, .unk, .unk, .unk, .unk, .unk, .unk, .unk, .unk, .unk, .unk, .unk, .unk] := rfl
/-- spence/spenceref04.Merge -/
def bd8 : C :=
  (.seq (.reg [⟨some 4, none, .mv (.c (.d .nils)), .one 2 true⟩])
  (.seq (.seq (.reg [⟨some 12, none, .mv (.s 1), .none⟩,
       ⟨some 13, none, .bin .lss (.s 12) (.c (.d (.int .i64 0))), .none⟩])
   (.cond (.s 13)
    (.reg [⟨some 1, none, .mv (.c (.d (.int .i64 0))), .none⟩])
    .skip))
  (.ann [0, 1] (.seq (.reg [⟨some 5, none, .mv (.c (.d .nils)), .one 2 true⟩])
  (.seq (.seq (.reg [⟨some 14, none, .mv (.s 0), .none⟩,
       ⟨some 15, none, .len (.s 14), .none⟩,
       ⟨some 16, none, .mv (.c (.d (.int .i64 0))), .none⟩])
   (.block 0 (.loop [1, 5, 14, 15, 16] lp8_0)))
  (.seq (.seq (.reg [⟨some 9, none, .mv (.c (.d (.int .i64 0))), .none⟩])
   (.block 4 (.loop [1, 5, 9] lp8_2)))
  (.seq (.reg [⟨some 95, none, .mv (.s 5), .none⟩,
      ⟨some 4, none, .mv (.s 95), .none⟩])
  (.ret none))))))))
def ir8 : F := { n := 96, res := [.tmp 4], body := bd8 }
@[go_sem] theorem n8 : ir8.n = 96 := rfl
@[go_sem] theorem r8 : ir8.res = [.tmp 4] := rfl
@[go_sem] theorem b8 : ir8.body = bd8 := rfl
def lb9_0 : C :=
  (.seq (.reg [⟨some 8, none, .bin .lss (.s 7) (.s 6), .none⟩])
  (.seq (.cond (.s 8)
    .skip
    (.exit 0 (some [])))
  (.seq (.block 1 (.seq (.reg [⟨some 9, none, .mv (.s 7), .none⟩,
        ⟨some 10, none, .is (.s 5) (.s 7) 2, .none⟩,
        ⟨some 11, none, .ld (.s 10) 2 true, .none⟩,
        ⟨some 4, none, .alloc 24 [.int .i64 0, .int .i64 0], .none⟩,
        ⟨some 3, none, .mv (.s 9), .none⟩,
        ⟨none, none, .st (.s 4) (.s 11) 2, .none⟩])
    (.seq (.drw [⟨some 12, none, .ld (.s 4) 2 true, .none⟩,
        ⟨some 13, none, .call 17 [.s 12] 2, .none⟩,
        ⟨some 14, none, .un .not (.s 13), .none⟩,
        ⟨some 15, none, .mv (.s 14), .none⟩,
        ⟨some 16, some (15, false), .mv (.s 3), .none⟩,
        ⟨some 17, some (15, false), .bin .gtr (.s 16) (.c (.d (.int .i64 0))), .none⟩,
        ⟨some 18, some (15, false), .mv (.s 17), .none⟩,
        ⟨some 19, some (18, true), .mv (.s 0), .none⟩,
        ⟨some 20, some (18, true), .mv (.s 3), .none⟩,
        ⟨some 21, some (18, true), .bin .sub (.s 20) (.c (.d (.int .i64 1))), .none⟩,
        ⟨some 22, some (18, true), .is (.s 19) (.s 21) 2, .none⟩,
        ⟨some 23, some (18, true), .fa (.s 22) 1, .none⟩,
        ⟨some 24, some (18, true), .ld (.s 23) 1 false, .none⟩,
        ⟨some 25, some (18, true), .fa (.s 4) 0, .none⟩,
        ⟨some 26, some (18, true), .ld (.s 25) 1 false, .none⟩,
        ⟨some 27, some (18, true), .bin .geq (.s 24) (.s 26), .none⟩,
        ⟨some 28, some (15, false), .pick (.s 18) (.s 27) (.c (.d (.bool false))), .none⟩,
        ⟨some 29, none, .pick (.s 15) (.c (.d (.bool true))) (.s 28), .none⟩]
       [[], [0], [1], [2, 1], [3], [4, 3], [5, 3, 3], [6], [6], [8, 6], [7, 9, 6], [10, 6], [11, 6], [6], [13, 6], [12, 14, 6], [6, 15, 3], [3, 16]] [])
    (.cond (.s 29)
     (.seq (.reg [⟨some 2, none, .mv (.c (.d (.bool false))), .none⟩])
     (.ret (some [2])))
     .skip))))
  (.reg [⟨some 30, none, .bin .add (.s 7) (.c (.d (.int .i64 1))), .none⟩,
     ⟨some 7, none, .mv (.s 30), .none⟩]))))
def lp9_0 : C := lb9_0
theorem u9_0 (c : Ev.Callee) (l : Ev.Looper) (s : St) : evC c l lp9_0 s = evC c l lb9_0 s := rfl
abbrev st9_0 (m : Nat) (s0 s5 s6 s7 : AV) (h : Heap) : St := ⟨m, [s0, .unk, .unk, .unk, .unk, s5, s6, s7, .unk, .unk, .unk, .unk, .unk, .unk, .unk, .unk, .unk, .unk, .unk, .unk, .unk, .unk, .unk, .unk, .unk, .unk, .unk, .unk, .unk, .unk, .unk], h⟩
@[go_sem] theorem ks9_0 (v0 v1 v2 v3 v4 v5 v6 v7 v8 v9 v10 v11 v12 v13 v14 v15 v16 v17 v18 v19 v20 v21 v22 v23 v24 v25 v26 v27 v28 v29 v30 : AV) : keepS [0, 5, 6, 7] [v0, v1, v2, v3, v4, v5, v6, v7, v8, v9, v10, v11, v12, v13, v14, v15, v16, v17, v18, v19, v20, v21, v22, v23, v24, v25, v26, v27, v28, v29, v30] 0 = [v0, .unk, .unk, .unk, .unk, v5, v6, v7, .unk, .unk, .unk, .unk, .unk, .unk, .unk, .unk, .unk, .unk, .unk, .unk, .unk, .unk, .unk, .unk, .unk, .unk, .unk, .unk, .unk, .unk, .unk] := rfl
@[go_sem] theorem ks9_1 (v0 v1 v2 v3 v4 v5 v6 v7 v8 v9 v10 v11 v12 v13 v14 v15 v16 v17 v18 v19 v20 v21 v22 v23 v24 v25 v26 v27 v28 v29 v30 : AV) : keepS [] [v0, v1, v2, v3, v4, v5, v6, v7, v8, v9, v10, v11, v12, v13, v14, v15, v16, v17, v18, v19, v20, v21, v22, v23, v24, v25, v26, v27, v28, v29, v30] 0 = [.unk, .unk, .unk, .unk, .unk, .unk, .unk, .unk, .unk, .unk, .unk, .unk, .unk, .unk, .unk, .unk, .unk, .unk, .unk, .unk, .unk, .unk, .unk, .unk, .unk, .unk, .unk, .unk, .unk, .unk, .unk] := rfl
@[go_sem] theorem ks9_2 (v0 v1 v2 v3 v4 v5 v6 v7 v8 v9 v10 v11 v12 v13 v14 v15 v16 v17 v18 v19 v20 v21 v22 v23 v24 v25 v26 v27 v28 v29 v30 : AV) : keepS [2] [v0, v1, v2, v3, v4, v5, v6, v7, v8, v9, v10, v11, v12, v13, v14, v15, v16, v17, v18, v19, v20, v21, v22, v23, v24, v25, v26, v27, v28, v29, v30] 0 = [.unk, .unk, v2, .unk, .unk, .unk, .unk, .unk, .unk, .unk, .unk, .unk, .unk, .unk, .unk, .unk, .unk, .unk, .unk, .unk, .unk, .unk, .unk, .unk, .unk, .unk, .unk, .unk, .unk, .unk, .unk] := rfl
/-- spence/span.Apart -/
def bd9 : C :=
  (.seq (.reg [⟨some 2, none, .mv (.c (.d (.bool false))), .none⟩])
  (.seq (.seq (.reg [⟨some 5, none, .mv (.s 0), .none⟩,
       ⟨some 6, none, .len (.s 5), .none⟩,
       ⟨some 7, none, .mv (.c (.d (.int .i64 0))), .none⟩])
   (.block 0 (.loop [0, 5, 6, 7] lp9_0)))
  (.seq (.reg [⟨some 2, none, .mv (.c (.d (.bool true))), .none⟩])
  (.ret none))))
def ir9 : F := { n := 31, res := [.tmp 2], body := bd9 }
@[go_sem] theorem n9 : ir9.n = 31 := rfl
@[go_sem] theorem r9 : ir9.res = [.tmp 2] := rfl
@[go_sem] theorem b9 : ir9.body = bd9 := rfl
def lb10_0 : C :=
  (.seq (.reg [⟨some 10, none, .bin .lss (.s 9) (.s 8), .none⟩])
  (.seq (.cond (.s 10)
    .skip
    (.exit 0 (some [])))
  (.seq (.block 1 (.seq (.reg [⟨some 11, none, .is (.s 7) (.s 9) 2, .none⟩,
        ⟨some 12, none, .ld (.s 11) 2 true, .none⟩,
        ⟨some 6, none, .alloc 24 [.int .i64 0, .int .i64 0], .none⟩,
        ⟨none, none, .st (.s 6) (.s 12) 2, .none⟩])
    (.seq (.reg [⟨some 13, none, .ld (.s 6) 2 true, .none⟩,
        ⟨some 14, none, .call 11 [.s 13] 2, .none⟩,
        ⟨some 15, none, .mv (.s 14), .none⟩,
        ⟨some 16, some (15, true), .fa (.s 6) 0, .none⟩,
        ⟨some 17, some (15, true), .ld (.s 16) 1 false, .none⟩,
        ⟨some 18, some (15, true), .mv (.s 1), .none⟩,
        ⟨some 19, some (15, true), .bin .leq (.s 17) (.s 18), .none⟩,
        ⟨some 20, none, .pick (.s 15) (.s 19) (.c (.d (.bool false))), .none⟩,
        ⟨some 21, none, .mv (.s 20), .none⟩,
        ⟨some 22, some (21, true), .mv (.s 1), .none⟩,
        ⟨some 23, some (21, true), .fa (.s 6) 1, .none⟩,
        ⟨some 24, some (21, true), .ld (.s 23) 1 false, .none⟩,
        ⟨some 25, some (21, true), .bin .lss (.s 22) (.s 24), .none⟩,
        ⟨some 26, none, .pick (.s 21) (.s 25) (.c (.d (.bool false))), .none⟩])
    (.cond (.s 26)
     (.seq (.reg [⟨some 4, none, .mv (.c (.d (.bool true))), .none⟩])
     (.ret (some [4])))
     .skip))))
  (.reg [⟨some 27, none, .bin .add (.s 9) (.c (.d (.int .i64 1))), .none⟩,
     ⟨some 9, none, .mv (.s 27), .none⟩]))))
def lp10_0 : C := lb10_0
theorem u10_0 (c : Ev.Callee) (l : Ev.Looper) (s : St) : evC c l lp10_0 s = evC c l lb10_0 s := rfl
abbrev st10_0 (m : Nat) (s1 s7 s8 s9 : AV) (h : Heap) : St := ⟨m, [.unk, s1, .unk, .unk, .unk, .unk, .unk, s7, s8, s9, .unk, .unk, .unk, .unk, .unk, .unk, .unk, .unk, .unk, .unk, .unk, .unk, .unk, .unk, .unk, .unk, .unk, .unk], h⟩
@[go_sem] theorem ks10_0 (v0 v1 v2 v3 v4 v5 v6 v7 v8 v9 v10 v11 v12 v13 v14 v15 v16 v17 v18 v19 v20 v21 v22 v23 v24 v25 v26 v27 : AV) : keepS [1, 7, 8, 9] [v0, v1, v2, v3, v4, v5, v6, v7, v8, v9, v10, v11, v12, v13, v14, v15, v16, v17, v18, v19, v20, v21, v22, v23, v24, v25, v26, v27] 0 = [.unk, v1, .unk, .unk, .unk, .unk, .unk, v7, v8, v9, .unk, .unk, .unk, .unk, .unk, .unk, .unk, .unk, .unk, .unk, .unk, .unk, .unk, .unk, .unk, .unk, .unk, .unk] := rfl
@[go_sem] theorem ks10_1 (v0 v1 v2 v3 v4 v5 v6 v7 v8 v9 v10 v11 v12 v13 v14 v15 v16 v17 v18 v19 v20 v21 v22 v23 v24 v25 v26 v27 : AV) : keepS [] [v0, v1, v2, v3, v4, v5, v6, v7, v8, v9, v10, v11, v12, v13, v14, v15, v16, v17, v18, v19, v20, v21, v22, v23, v24, v25, v26, v27] 0 = [.unk, .unk, .unk, .unk, .unk, .unk, .unk, .unk, .unk, .unk, .unk, .unk, .unk, .unk, .unk, .unk, .unk, .unk, .unk, .unk, .unk, .unk, .unk, .unk, .unk, .unk, .unk, .unk] := rfl
@[go_sem] theorem ks10_2 (v0 v1 v2 v3 v4 v5 v6 v7 v8 v9 v10 v11 v12 v13 v14 v15 v16 v17 v18 v19 v20 v21 v22 v23 v24 v25 v26 v27 : AV) : keepS [4] [v0, v1, v2, v3, v4, v5, v6, v7, v8, v9, v10, v11, v12, v13, v14, v15, v16, v17, v18, v19, v20, v21, v22, v23, v24, v25, v26, v27] 0 = [.unk, .unk, .unk, .unk, v4, .unk, .unk, .unk, .unk, .unk, .unk, .unk, .unk, .unk, .unk, .unk, .unk, .unk, .unk, .unk, .unk, .unk, .unk, .unk, .unk, .unk, .unk, .unk] := rfl
/-- spence/spenceref04.Has -/
def bd10 : C :=
  (.seq (.reg [⟨some 4, none, .mv (.c (.d (.bool false))), .none⟩])
  (.seq (.seq (.reg [⟨some 7, none, .mv (.s 0), .none⟩,
       ⟨some 8, none, .len (.s 7), .none⟩,
       ⟨some 9, none, .mv (.c (.d (.int .i64 0))), .none⟩])
   (.block 0 (.loop [1, 7, 8, 9] lp10_0)))
  (.seq (.reg [⟨some 4, none, .mv (.c (.d (.bool false))), .none⟩])
  (.ret none))))
def ir10 : F := { n := 28, res := [.tmp 4], body := bd10 }
@[go_sem] theorem n10 : ir10.n = 28 := rfl
@[go_sem] theorem r10 : ir10.res = [.tmp 4] := rfl
@[go_sem] theorem b10 : ir10.body = bd10 := rfl
/-- spence/spenceref04.Right -/
def bd11 : C :=
  (.seq (.reg [⟨some 1, none, .box 24 (.s 0), .none⟩,
      ⟨some 2, none, .mv (.c (.d (.bool false))), .none⟩])
  (.seq (.reg [⟨some 3, none, .fa (.s 1) 0, .none⟩,
      ⟨some 4, none, .ld (.s 3) 1 false, .none⟩,
      ⟨some 5, none, .bin .geq (.s 4) (.c (.d (.int .i64 0))), .none⟩,
      ⟨some 6, none, .mv (.s 5), .none⟩,
      ⟨some 7, some (6, true), .fa (.s 1) 1, .none⟩,
      ⟨some 8, some (6, true), .ld (.s 7) 1 false, .none⟩,
      ⟨some 9, some (6, true), .fa (.s 1) 0, .none⟩,
      ⟨some 10, some (6, true), .ld (.s 9) 1 false, .none⟩,
      ⟨some 11, some (6, true), .bin .gtr (.s 8) (.s 10), .none⟩,
      ⟨some 12, none, .pick (.s 6) (.s 11) (.c (.d (.bool false))), .none⟩,
      ⟨some 13, none, .mv (.s 12), .none⟩,
      ⟨some 14, some (13, true), .fa (.s 1) 1, .none⟩,
      ⟨some 15, some (13, true), .ld (.s 14) 1 false, .none⟩,
      ⟨some 16, some (13, true), .bin .leq (.s 15) (.c (.d (.int .i64 4611686018427387903))), .none⟩,
      ⟨some 17, none, .pick (.s 13) (.s 16) (.c (.d (.bool false))), .none⟩,
      ⟨some 2, none, .mv (.s 17), .none⟩])
  (.ret none)))
def ir11 : F := { n := 18, res := [.tmp 2], body := bd11 }
@[go_sem] theorem n11 : ir11.n = 18 := rfl
@[go_sem] theorem r11 : ir11.res = [.tmp 2] := rfl
@[go_sem] theorem b11 : ir11.body = bd11 := rfl
/-- spence/span.Has -/
def bd12 : C :=
  (.seq (.reg [⟨some 3, none, .box 3 (.s 1), .none⟩,
      ⟨some 4, none, .mv (.c (.d (.bool false))), .none⟩])
  (.seq (.reg [⟨some 5, none, .mv (.s 0), .none⟩,
      ⟨some 6, none, .fn (.func 22) [] [.s 3], .none⟩,
      ⟨some 7, none, .call 21 [.s 5, .s 6] 0, .none⟩,
      ⟨some 4, none, .mv (.s 7), .none⟩])
  (.ret none)))
def ir12 : F := { n := 8, res := [.tmp 4], body := bd12 }
@[go_sem] theorem n12 : ir12.n = 8 := rfl
@[go_sem] theorem r12 : ir12.res = [.tmp 4] := rfl
@[go_sem] theorem b12 : ir12.body = bd12 := rfl
def lb13_0 : C :=
  (.seq (.reg [⟨some 15, none, .bin .lss (.s 14) (.s 13), .none⟩])
  (.seq (.cond (.s 15)
    .skip
    (.exit 0 (some [5])))
  (.seq (.block 1 (.seq (.reg [⟨some 16, none, .is (.s 12) (.s 14) 3, .none⟩,
        ⟨some 17, none, .ld (.s 16) 3 true, .none⟩,
        ⟨some 7, none, .alloc 35 [.int .i64 0, .int .i64 0, .int .i64 0], .none⟩,
        ⟨none, none, .st (.s 7) (.s 17) 3, .none⟩])
    (.seq (.seq (.reg [⟨some 18, none, .ld (.s 7) 3 true, .none⟩,
         ⟨some 19, none, .call 24 [.s 18] 2, .none⟩,
         ⟨some 20, none, .un .not (.s 19), .none⟩])
     (.cond (.s 20)
      (.exit 1 none)
      .skip))
    (.seq (.reg [⟨some 21, none, .ld (.s 7) 3 true, .none⟩,
        ⟨some 22, none, .mv (.s 1), .none⟩,
        ⟨some 23, none, .call 25 [.s 21, .s 22] 2, .none⟩,
        ⟨some 8, none, .alloc 24 [.int .i64 0, .int .i64 0], .none⟩,
        ⟨none, none, .st (.s 8) (.s 23) 2, .none⟩])
    (.seq (.reg [⟨some 24, none, .ld (.s 8) 2 true, .none⟩,
        ⟨some 25, none, .call 17 [.s 24] 2, .none⟩])
    (.cond (.s 25)
     (.reg [⟨some 26, none, .mv (.s 5), .none⟩,
        ⟨some 27, none, .ld (.s 8) 2 true, .none⟩,
        ⟨some 28, none, .bsl 24 2 1 [.int .i64 0, .int .i64 0] [(0, (2, .s 27))], .none⟩,
        ⟨some 29, none, .app 24 2 16 (.s 26) (.s 28), .none⟩,
        ⟨some 5, none, .mv (.s 29), .none⟩])
     .skip))))))
  (.reg [⟨some 30, none, .bin .add (.s 14) (.c (.d (.int .i64 1))), .none⟩,
     ⟨some 14, none, .mv (.s 30), .none⟩]))))
def lp13_0 : C := lb13_0
theorem u13_0 (c : Ev.Callee) (l : Ev.Looper) (s : St) : evC c l lp13_0 s = evC c l lb13_0 s := rfl
abbrev st13_0 (m : Nat) (s1 s5 s12 s13 s14 : AV) (h : Heap) : St := ⟨m, [.unk, s1, .unk, .unk, .unk, s5, .unk, .unk, .unk, .unk, .unk, .unk, s12, s13, s14, .unk, .unk, .unk, .unk, .unk, .unk, .unk, .unk, .unk, .unk, .unk, .unk, .unk, .unk, .unk, .unk, .unk], h⟩
@[go_sem] theorem ks13_0 (v0 v1 v2 v3 v4 v5 v6 v7 v8 v9 v10 v11 v12 v13 v14 v15 v16 v17 v18 v19 v20 v21 v22 v23 v24 v25 v26 v27 v28 v29 v30 v31 : AV) : keepS [1, 5, 12, 13, 14] [v0, v1, v2, v3, v4, v5, v6, v7, v8, v9, v10, v11, v12, v13, v14, v15, v16, v17, v18, v19, v20, v21, v22, v23, v24, v25, v26, v27, v28, v29, v30, v31] 0 = [.unk, v1, .unk, .unk, .unk, v5, .unk, .unk, .unk, .unk, .unk, .unk, v12, v13, v14, .unk, .unk, .unk, .unk, .unk, .unk, .unk, .unk, .unk, .unk, .unk, .unk, .unk, .unk, .unk, .unk, .unk] := rfl
@[go_sem] theorem ks13_1 (v0 v1 v2 v3 v4 v5 v6 v7 v8 v9 v10 v11 v12 v13 v14 v15 v16 v17 v18 v19 v20 v21 v22 v23 v24 v25 v26 v27 v28 v29 v30 v31 : AV) : keepS [5] [v0, v1, v2, v3, v4, v5, v6, v7, v8, v9, v10, v11, v12, v13, v14, v15, v16, v17, v18, v19, v20, v21, v22, v23, v24, v25, v26, v27, v28, v29, v30, v31] 0 = [.unk, .unk, .unk, .unk, .unk, v5, .unk, .unk, .unk, .unk, .unk, .unk, .unk, .unk, .unk, .unk, .unk, .unk, .unk, .unk, .unk, .unk, .unk, .unk, .unk, .unk, .unk, .unk, .unk, .unk, .unk, .unk] := rfl
/-- spence/span.Resolve -/
def bd13 : C :=
  (.seq (.reg [⟨some 4, none, .mv (.c (.d .nils)), .one 2 true⟩])
  (.seq (.seq (.reg [⟨some 9, none, .mv (.s 1), .none⟩,
       ⟨some 10, none, .call 23 [.s 9, .c (.d (.int .i64 1)), .c (.d (.int .i64 4611686018427387903))] 2, .none⟩,
       ⟨some 11, none, .un .not (.s 10), .none⟩])
   (.cond (.s 11)
    (.seq (.reg [⟨some 4, none, .mv (.c (.d .nils)), .one 2 true⟩])
    (.ret none))
    .skip))
  (.seq (.reg [⟨some 5, none, .mv (.c (.d .nils)), .one 2 true⟩])
  (.seq (.seq (.reg [⟨some 12, none, .mv (.s 0), .none⟩,
       ⟨some 13, none, .len (.s 12), .none⟩,
       ⟨some 14, none, .mv (.c (.d (.int .i64 0))), .none⟩])
   (.block 0 (.loop [1, 5, 12, 13, 14] lp13_0)))
  (.seq (.reg [⟨some 31, none, .mv (.s 5), .none⟩,
      ⟨some 4, none, .mv (.s 31), .none⟩])
  (.ret none))))))
def ir13 : F := { n := 32, res := [.tmp 4], body := bd13 }
@[go_sem] theorem n13 : ir13.n = 32 := rfl
@[go_sem] theorem r13 : ir13.res = [.tmp 4] := rfl
@[go_sem] theorem b13 : ir13.body = bd13 := rfl
def lb14_0 : C :=
  (.seq (.seq (.reg [⟨some 16, none, .mv (.s 6), .none⟩,
       ⟨some 17, none, .mv (.s 0), .none⟩,
       ⟨some 18, none, .len (.s 17), .none⟩,
       ⟨some 19, none, .bin .lss (.s 16) (.s 18), .none⟩])
   (.cond (.s 19)
    .skip
    (.exit 0 (some [0, 5]))))
  (.seq (.block 1 (.seq (.reg [⟨some 22, none, .mv (.s 0), .none⟩,
        ⟨some 23, none, .mv (.s 6), .none⟩,
        ⟨some 24, none, .is (.s 22) (.s 23) 2, .none⟩,
        ⟨some 25, none, .ld (.s 24) 2 true, .none⟩,
        ⟨some 7, none, .alloc 24 [.int .i64 0, .int .i64 0], .none⟩,
        ⟨none, none, .st (.s 7) (.s 25) 2, .none⟩])
    (.seq (.reg [⟨some 26, none, .mv (.s 1), .none⟩,
        ⟨some 27, none, .ld (.s 7) 2 true, .none⟩,
        ⟨some 28, none, .callv (.s 26) [.s 27] 0, .none⟩,
        ⟨some 29, none, .un .not (.s 28), .none⟩])
    (.cond (.s 29)
     (.seq (.reg [⟨some 30, none, .mv (.s 0), .none⟩,
         ⟨some 31, none, .mv (.s 5), .none⟩,
         ⟨some 32, none, .ld (.s 7) 2 true, .none⟩,
         ⟨some 33, none, .is (.s 30) (.s 31) 2, .none⟩,
         ⟨none, none, .st (.s 33) (.s 32) 2, .none⟩])
     (.reg [⟨some 34, none, .mv (.s 5), .none⟩,
        ⟨some 35, none, .bin .add (.s 34) (.c (.d (.int .i64 1))), .none⟩,
        ⟨some 5, none, .mv (.s 35), .none⟩]))
     .skip))))
  (.reg [⟨some 20, none, .mv (.s 6), .none⟩,
     ⟨some 21, none, .bin .add (.s 20) (.c (.d (.int .i64 1))), .none⟩,
     ⟨some 6, none, .mv (.s 21), .none⟩])))
def lp14_0 : C := lb14_0
theorem u14_0 (c : Ev.Callee) (l : Ev.Looper) (s : St) : evC c l lp14_0 s = evC c l lb14_0 s := rfl
abbrev st14_0 (m : Nat) (s0 s1 s5 s6 : AV) (h : Heap) : St := ⟨m, [s0, s1, .unk, .unk, .unk, s5, s6, .unk, .unk, .unk, .unk, .unk, .unk, .unk, .unk, .unk, .unk, .unk, .unk, .unk, .unk, .unk, .unk, .unk, .unk, .unk, .unk, .unk, .unk, .unk, .unk, .unk, .unk, .unk, .unk, .unk, .unk, .unk, .unk, .unk, .unk, .unk], h⟩
@[go_sem] theorem ks14_0 (v0 v1 v2 v3 v4 v5 v6 v7 v8 v9 v10 v11 v12 v13 v14 v15 v16 v17 v18 v19 v20 v21 v22 v23 v24 v25 v26 v27 v28 v29 v30 v31 v32 v33 v34 v35 v36 v37 v38 v39 v40 v41 : AV) : keepS [0, 1, 5, 6] [v0, v1, v2, v3, v4, v5, v6, v7, v8, v9, v10, v11, v12, v13, v14, v15, v16, v17, v18, v19, v20, v21, v22, v23, v24, v25, v26, v27, v28, v29, v30, v31, v32, v33, v34, v35, v36, v37, v38, v39, v40, v41] 0 = [v0, v1, .unk, .unk, .unk, v5, v6, .unk, .unk, .unk, .unk, .unk, .unk, .unk, .unk, .unk, .unk, .unk, .unk, .unk, .unk, .unk, .unk, .unk, .unk, .unk, .unk, .unk, .unk, .unk, .unk, .unk, .unk, .unk, .unk, .unk, .unk, .unk, .unk, .unk, .unk, .unk] := rfl
@[go_sem] theorem ks14_1 (v0 v1 v2 v3 v4 v5 v6 v7 v8 v9 v10 v11 v12 v13 v14 v15 v16 v17 v18 v19 v20 v21 v22 v23 v24 v25 v26 v27 v28 v29 v30 v31 v32 v33 v34 v35 v36 v37 v38 v39 v40 v41 : AV) : keepS [0, 5] [v0, v1, v2, v3, v4, v5, v6, v7, v8, v9, v10, v11, v12, v13, v14, v15, v16, v17, v18, v19, v20, v21, v22, v23, v24, v25, v26, v27, v28, v29, v30, v31, v32, v33, v34, v35, v36, v37, v38, v39, v40, v41] 0 = [v0, .unk, .unk, .unk, .unk, v5, .unk, .unk, .unk, .unk, .unk, .unk, .unk, .unk, .unk, .unk, .unk, .unk, .unk, .unk, .unk, .unk, .unk, .unk, .unk, .unk, .unk, .unk, .unk, .unk, .unk, .unk, .unk, .unk, .unk, .unk, .unk, .unk, .unk, .unk, .unk, .unk] := rfl
/-- slices.DeleteFunc[[]spence/api.Span,spence/api.Span] -/
def bd14 : C :=
  (.seq (.reg [⟨some 4, none, .mv (.c (.d .nils)), .one 2 false⟩])
  (.seq (.reg [⟨some 8, none, .mv (.s 0), .none⟩,
      ⟨some 9, none, .mv (.s 1), .none⟩,
      ⟨some 10, none, .call 26 [.s 8, .s 9] 1, .none⟩,
      ⟨some 5, none, .mv (.s 10), .none⟩])
  (.seq (.seq (.reg [⟨some 11, none, .mv (.s 5), .none⟩,
       ⟨some 12, none, .bin .eql (.s 11) (.c (.d (.int .i64 (-1)))), .none⟩])
   (.cond (.s 12)
    (.seq (.reg [⟨some 13, none, .mv (.s 0), .none⟩,
        ⟨some 4, none, .mv (.s 13), .none⟩])
    (.ret none))
    .skip))
  (.seq (.seq (.reg [⟨some 14, none, .mv (.s 5), .none⟩,
       ⟨some 15, none, .bin .add (.s 14) (.c (.d (.int .i64 1))), .none⟩,
       ⟨some 6, none, .mv (.s 15), .none⟩])
   (.block 0 (.loop [0, 1, 5, 6] lp14_0)))
  (.seq (.reg [⟨some 36, none, .mv (.s 0), .none⟩,
      ⟨some 37, none, .mv (.s 5), .none⟩,
      ⟨some 38, none, .sl (.s 36) (some (.s 37)) none none 2, .none⟩,
      ⟨none, none, .bcall (.clr [.int .i64 0, .int .i64 0]) [.s 38], .none⟩])
  (.seq (.reg [⟨some 39, none, .mv (.s 0), .none⟩,
      ⟨some 40, none, .mv (.s 5), .none⟩,
      ⟨some 41, none, .sl (.s 39) none (some (.s 40)) none 2, .none⟩,
      ⟨some 4, none, .mv (.s 41), .none⟩])
  (.ret none)))))))
def ir14 : F := { n := 42, res := [.tmp 4], body := bd14 }
@[go_sem] theorem n14 : ir14.n = 42 := rfl
@[go_sem] theorem r14 : ir14.res = [.tmp 4] := rfl
@[go_sem] theorem b14 : ir14.body = bd14 := rfl
/-- spence/span.Merge$1 -/
def bd16 : C :=
  (.seq (.reg [⟨some 1, none, .box 24 (.s 0), .none⟩,
      ⟨some 2, none, .mv (.c (.d (.bool false))), .none⟩])
  (.seq (.reg [⟨some 3, none, .ld (.s 1) 2 true, .none⟩,
      ⟨some 4, none, .call 17 [.s 3] 2, .none⟩,
      ⟨some 5, none, .un .not (.s 4), .none⟩,
      ⟨some 2, none, .mv (.s 5), .none⟩])
  (.ret none)))
def ir16 : F := { n := 6, res := [.tmp 2], body := bd16 }
@[go_sem] theorem n16 : ir16.n = 6 := rfl
@[go_sem] theorem r16 : ir16.res = [.tmp 2] := rfl
@[go_sem] theorem b16 : ir16.body = bd16 := rfl
/-- spence/span.Right -/
def bd17 : C :=
  (.seq (.reg [⟨some 1, none, .box 24 (.s 0), .none⟩,
      ⟨some 2, none, .mv (.c (.d (.bool false))), .none⟩])
  (.seq (.reg [⟨some 3, none, .fa (.s 1) 0, .none⟩,
      ⟨some 4, none, .ld (.s 3) 1 false, .none⟩,
      ⟨some 5, none, .bin .geq (.s 4) (.c (.d (.int .i64 0))), .none⟩,
      ⟨some 6, none, .mv (.s 5), .none⟩,
      ⟨some 7, some (6, true), .fa (.s 1) 0, .none⟩,
      ⟨some 8, some (6, true), .ld (.s 7) 1 false, .none⟩,
      ⟨some 9, some (6, true), .fa (.s 1) 1, .none⟩,
      ⟨some 10, some (6, true), .ld (.s 9) 1 false, .none⟩,
      ⟨some 11, some (6, true), .bin .lss (.s 8) (.s 10), .none⟩,
      ⟨some 12, none, .pick (.s 6) (.s 11) (.c (.d (.bool false))), .none⟩,
      ⟨some 13, none, .mv (.s 12), .none⟩,
      ⟨some 14, some (13, true), .fa (.s 1) 1, .none⟩,
      ⟨some 15, some (13, true), .ld (.s 14) 1 false, .none⟩,
      ⟨some 16, some (13, true), .bin .leq (.s 15) (.c (.d (.int .i64 4611686018427387903))), .none⟩,
      ⟨some 17, none, .pick (.s 13) (.s 16) (.c (.d (.bool false))), .none⟩,
      ⟨some 2, none, .mv (.s 17), .none⟩])
  (.ret none)))
def ir17 : F := { n := 18, res := [.tmp 2], body := bd17 }
@[go_sem] theorem n17 : ir17.n = 18 := rfl
@[go_sem] theorem r17 : ir17.res = [.tmp 2] := rfl
@[go_sem] theorem b17 : ir17.body = bd17 := rfl
/-- spence/span.Merge$2 -/
def bd19 : C :=
  (.seq (.reg [⟨some 2, none, .box 24 (.s 0), .none⟩,
      ⟨some 3, none, .box 24 (.s 1), .none⟩,
      ⟨some 4, none, .mv (.c (.d (.int .i64 0))), .none⟩])
  (.seq (.reg [⟨some 5, none, .fa (.s 2) 0, .none⟩,
      ⟨some 6, none, .ld (.s 5) 1 false, .none⟩,
      ⟨some 7, none, .fa (.s 3) 0, .none⟩,
      ⟨some 8, none, .ld (.s 7) 1 false, .none⟩,
      ⟨some 9, none, .bin .sub (.s 6) (.s 8), .none⟩,
      ⟨some 4, none, .mv (.s 9), .none⟩])
  (.ret none)))
def ir19 : F := { n := 10, res := [.tmp 4], body := bd19 }
@[go_sem] theorem n19 : ir19.n = 10 := rfl
@[go_sem] theorem r19 : ir19.res = [.tmp 4] := rfl
@[go_sem] theorem b19 : ir19.body = bd19 := rfl
/-- spence/span.Minus$1 -/
def bd20 : C :=
  (.seq (.reg [⟨some 2, none, .box 24 (.s 0), .none⟩])
  (.seq (.reg [⟨some 3, none, .ld (.s 2) 2 true, .none⟩,
      ⟨some 4, none, .call 17 [.s 3] 2, .none⟩])
  (.cond (.s 4)
   (.reg [⟨some 5, none, .ld (.s 1) 1 false, .none⟩,
      ⟨some 6, none, .ld (.s 2) 2 true, .none⟩,
      ⟨some 7, none, .bsl 24 2 1 [.int .i64 0, .int .i64 0] [(0, (2, .s 6))], .none⟩,
      ⟨some 8, none, .app 24 2 16 (.s 5) (.s 7), .none⟩,
      ⟨none, none, .st (.s 1) (.s 8) 1, .none⟩])
   .skip)))
def ir20 : F := { n := 9, res := [], body := bd20 }
@[go_sem] theorem n20 : ir20.n = 9 := rfl
@[go_sem] theorem r20 : ir20.res = [] := rfl
@[go_sem] theorem b20 : ir20.body = bd20 := rfl
/-- slices.ContainsFunc[[]spence/api.Span,spence/api.Span] -/
def bd21 : C :=
  (.seq (.reg [⟨some 4, none, .mv (.c (.d (.bool false))), .none⟩])
  (.seq (.reg [⟨some 5, none, .mv (.s 0), .none⟩,
      ⟨some 6, none, .mv (.s 1), .none⟩,
      ⟨some 7, none, .call 26 [.s 5, .s 6] 0, .none⟩,
      ⟨some 8, none, .bin .geq (.s 7) (.c (.d (.int .i64 0))), .none⟩,
      ⟨some 4, none, .mv (.s 8), .none⟩])
  (.ret none)))
def ir21 : F := { n := 9, res := [.tmp 4], body := bd21 }
@[go_sem] theorem n21 : ir21.n = 9 := rfl
@[go_sem] theorem r21 : ir21.res = [.tmp 4] := rfl
@[go_sem] theorem b21 : ir21.body = bd21 := rfl
/-- spence/span.Has$1 -/
def bd22 : C :=
  (.seq (.reg [⟨some 2, none, .box 24 (.s 0), .none⟩,
      ⟨some 3, none, .mv (.c (.d (.bool false))), .none⟩])
  (.seq (.reg [⟨some 4, none, .ld (.s 2) 2 true, .none⟩,
      ⟨some 5, none, .call 17 [.s 4] 2, .none⟩,
      ⟨some 6, none, .mv (.s 5), .none⟩,
      ⟨some 7, some (6, true), .ld (.s 1) 1 false, .none⟩,
      ⟨some 8, some (6, true), .fa (.s 2) 0, .none⟩,
      ⟨some 9, some (6, true), .ld (.s 8) 1 false, .none⟩,
      ⟨some 10, some (6, true), .bin .geq (.s 7) (.s 9), .none⟩,
      ⟨some 11, none, .pick (.s 6) (.s 10) (.c (.d (.bool false))), .none⟩,
      ⟨some 12, none, .mv (.s 11), .none⟩,
      ⟨some 13, some (12, true), .ld (.s 1) 1 false, .none⟩,
      ⟨some 14, some (12, true), .fa (.s 2) 1, .none⟩,
      ⟨some 15, some (12, true), .ld (.s 14) 1 false, .none⟩,
      ⟨some 16, some (12, true), .bin .lss (.s 13) (.s 15), .none⟩,
      ⟨some 17, none, .pick (.s 12) (.s 16) (.c (.d (.bool false))), .none⟩,
      ⟨some 3, none, .mv (.s 17), .none⟩])
  (.ret none)))
def ir22 : F := { n := 18, res := [.tmp 3], body := bd22 }
@[go_sem] theorem n22 : ir22.n = 18 := rfl
@[go_sem] theorem r22 : ir22.res = [.tmp 3] := rfl
@[go_sem] theorem b22 : ir22.body = bd22 := rfl
/-- spence/nums.Fits -/
def bd23 : C :=
  (.seq (.reg [⟨some 6, none, .mv (.c (.d (.bool false))), .none⟩])
  (.seq (.reg [⟨some 7, none, .mv (.s 0), .none⟩,
      ⟨some 8, none, .mv (.s 1), .none⟩,
      ⟨some 9, none, .bin .geq (.s 7) (.s 8), .none⟩,
      ⟨some 10, none, .mv (.s 9), .none⟩,
      ⟨some 11, some (10, true), .mv (.s 0), .none⟩,
      ⟨some 12, some (10, true), .mv (.s 2), .none⟩,
      ⟨some 13, some (10, true), .bin .leq (.s 11) (.s 12), .none⟩,
      ⟨some 14, none, .pick (.s 10) (.s 13) (.c (.d (.bool false))), .none⟩,
      ⟨some 6, none, .mv (.s 14), .none⟩])
  (.ret none)))
def ir23 : F := { n := 15, res := [.tmp 6], body := bd23 }
@[go_sem] theorem n23 : ir23.n = 15 := rfl
@[go_sem] theorem r23 : ir23.res = [.tmp 6] := rfl
@[go_sem] theorem b23 : ir23.body = bd23 := rfl
/-- spence/spec.Right -/
def bd24 : C :=
  (.seq (.reg [⟨some 1, none, .box 35 (.s 0), .none⟩,
      ⟨some 2, none, .mv (.c (.d (.bool false))), .none⟩])
  (.seq (.seq (.reg [⟨some 3, none, .fa (.s 1) 0, .none⟩,
       ⟨some 4, none, .ld (.s 3) 1 false, .none⟩])
   (.block 0 (.seq (.block 3 (.block 2 (.seq (.block 1 (.seq (.seq (.seq (.reg [⟨some 6, none, .bin .eql (.s 4) (.c (.d (.int .i64 2))), .none⟩,
               ⟨some 5, none, .mv (.s 6), .none⟩])
           (.cond (.s 5)
            (.exit 1 none)
            .skip))
          (.seq (.seq (.reg [⟨some 8, none, .bin .eql (.s 4) (.c (.d (.int .i64 1))), .none⟩,
               ⟨some 7, none, .mv (.s 8), .none⟩])
           (.cond (.s 7)
            (.exit 2 none)
            .skip))
          (.seq (.reg [⟨some 10, none, .bin .eql (.s 4) (.c (.d (.int .i64 3))), .none⟩,
              ⟨some 9, none, .mv (.s 10), .none⟩])
          (.cond (.s 9)
           (.exit 3 none)
           .skip))))
         (.exit 0 none)))
       (.seq (.seq (.reg [⟨some 11, none, .fa (.s 1) 1, .none⟩,
            ⟨some 12, none, .ld (.s 11) 1 false, .none⟩,
            ⟨some 13, none, .bin .geq (.s 12) (.c (.d (.int .i64 0))), .none⟩,
            ⟨some 14, none, .mv (.s 13), .none⟩,
            ⟨some 15, some (14, true), .fa (.s 1) 2, .none⟩,
            ⟨some 16, some (14, true), .ld (.s 15) 1 false, .none⟩,
            ⟨some 17, some (14, true), .fa (.s 1) 1, .none⟩,
            ⟨some 18, some (14, true), .ld (.s 17) 1 false, .none⟩,
            ⟨some 19, some (14, true), .bin .geq (.s 16) (.s 18), .none⟩,
            ⟨some 20, none, .pick (.s 14) (.s 19) (.c (.d (.bool false))), .none⟩,
            ⟨some 21, none, .mv (.s 20), .none⟩,
            ⟨some 22, some (21, true), .fa (.s 1) 2, .none⟩,
            ⟨some 23, some (21, true), .ld (.s 22) 1 false, .none⟩,
            ⟨some 24, some (21, true), .bin .leq (.s 23) (.c (.d (.int .i64 4611686018427387903))), .none⟩,
            ⟨some 25, none, .pick (.s 21) (.s 24) (.c (.d (.bool false))), .none⟩,
            ⟨some 2, none, .mv (.s 25), .none⟩])
        (.ret none))
       (.exit 0 none)))))
    (.seq (.seq (.reg [⟨some 26, none, .fa (.s 1) 1, .none⟩,
         ⟨some 27, none, .ld (.s 26) 1 false, .none⟩,
         ⟨some 28, none, .call 23 [.s 27, .c (.d (.int .i64 0)), .c (.d (.int .i64 4611686018427387903))] 2, .none⟩,
         ⟨some 29, none, .mv (.s 28), .none⟩,
         ⟨some 30, some (29, true), .fa (.s 1) 2, .none⟩,
         ⟨some 31, some (29, true), .ld (.s 30) 1 false, .none⟩,
         ⟨some 32, some (29, true), .bin .eql (.s 31) (.c (.d (.int .i64 0))), .none⟩,
         ⟨some 33, none, .pick (.s 29) (.s 32) (.c (.d (.bool false))), .none⟩,
         ⟨some 2, none, .mv (.s 33), .none⟩])
     (.ret none))
    (.exit 0 none)))))
  (.seq (.reg [⟨some 2, none, .mv (.c (.d (.bool false))), .none⟩])
  (.ret none))))
def ir24 : F := { n := 34, res := [.tmp 2], body := bd24 }
@[go_sem] theorem n24 : ir24.n = 34 := rfl
@[go_sem] theorem r24 : ir24.res = [.tmp 2] := rfl
@[go_sem] theorem b24 : ir24.body = bd24 := rfl
/-- spence/span.one -/
def bd25 : C :=
  (.seq (.reg [⟨some 2, none, .box 35 (.s 0), .none⟩,
      ⟨some 4, none, .alloc 24 [.int .i64 0, .int .i64 0], .none⟩])
  (.seq (.seq (.reg [⟨some 5, none, .fa (.s 2) 0, .none⟩,
       ⟨some 6, none, .ld (.s 5) 1 false, .none⟩])
   (.block 0 (.seq (.reg [⟨some 8, none, .bin .eql (.s 6) (.c (.d (.int .i64 1))), .none⟩,
        ⟨some 7, none, .mv (.s 8), .none⟩])
    (.cond (.s 7)
     (.seq (.reg [⟨some 9, none, .fa (.s 2) 1, .none⟩,
         ⟨some 10, none, .ld (.s 9) 1 false, .none⟩,
         ⟨some 11, none, .mv (.s 1), .none⟩,
         ⟨some 12, none, .build [.int .i64 0, .int .i64 0] [(0, (1, .s 10)), (1, (1, .s 11))], .none⟩,
         ⟨none, none, .st (.s 4) (.s 12) 2, .none⟩])
     (.ret none))
     (.seq (.reg [⟨some 14, none, .bin .eql (.s 6) (.c (.d (.int .i64 2))), .none⟩,
         ⟨some 13, none, .mv (.s 14), .none⟩])
     (.cond (.s 13)
      (.seq (.reg [⟨some 15, none, .fa (.s 2) 1, .none⟩,
          ⟨some 16, none, .ld (.s 15) 1 false, .none⟩,
          ⟨some 17, none, .fa (.s 2) 2, .none⟩,
          ⟨some 18, none, .ld (.s 17) 1 false, .none⟩,
          ⟨some 19, none, .mv (.s 1), .none⟩,
          ⟨some 20, none, .bin .sub (.s 19) (.c (.d (.int .i64 1))), .none⟩,
          ⟨some 21, none, .mn (.s 18) (.s 20), .none⟩,
          ⟨some 22, none, .bin .add (.s 21) (.c (.d (.int .i64 1))), .none⟩,
          ⟨some 23, none, .build [.int .i64 0, .int .i64 0] [(0, (1, .s 16)), (1, (1, .s 22))], .none⟩,
          ⟨none, none, .st (.s 4) (.s 23) 2, .none⟩])
      (.ret none))
      .skip))))))
  (.seq (.reg [⟨some 24, none, .mv (.s 1), .none⟩,
      ⟨some 25, none, .fa (.s 2) 1, .none⟩,
      ⟨some 26, none, .ld (.s 25) 1 false, .none⟩,
      ⟨some 27, none, .mv (.s 1), .none⟩,
      ⟨some 28, none, .mn (.s 26) (.s 27), .none⟩,
      ⟨some 29, none, .bin .sub (.s 24) (.s 28), .none⟩,
      ⟨some 30, none, .mv (.s 1), .none⟩,
      ⟨some 31, none, .build [.int .i64 0, .int .i64 0] [(0, (1, .s 29)), (1, (1, .s 30))], .none⟩,
      ⟨none, none, .st (.s 4) (.s 31) 2, .none⟩])
  (.ret none))))
def ir25 : F := { n := 32, res := [.cell 4 2 true], body := bd25 }
@[go_sem] theorem n25 : ir25.n = 32 := rfl
@[go_sem] theorem r25 : ir25.res = [.cell 4 2 true] := rfl
@[go_sem] theorem b25 : ir25.body = bd25 := rfl
def lb26_0 : C :=
  (.seq (.reg [⟨some 9, none, .bin .lss (.s 8) (.s 7), .none⟩])
  (.seq (.cond (.s 9)
    .skip
    (.exit 0 (some [])))
  (.seq (.block 1 (.seq (.reg [⟨some 10, none, .mv (.s 8), .none⟩,
        ⟨some 5, none, .mv (.s 10), .none⟩])
    (.seq (.reg [⟨some 11, none, .mv (.s 1), .none⟩,
        ⟨some 12, none, .mv (.s 0), .none⟩,
        ⟨some 13, none, .mv (.s 5), .none⟩,
        ⟨some 14, none, .is (.s 12) (.s 13) 2, .none⟩,
        ⟨some 15, none, .ld (.s 14) 2 true, .none⟩,
        ⟨some 16, none, .callv (.s 11) [.s 15] 0, .none⟩])
    (.cond (.s 16)
     (.seq (.reg [⟨some 17, none, .mv (.s 5), .none⟩,
         ⟨some 4, none, .mv (.s 17), .none⟩])
     (.ret (some [4])))
     .skip))))
  (.reg [⟨some 18, none, .bin .add (.s 8) (.c (.d (.int .i64 1))), .none⟩,
     ⟨some 8, none, .mv (.s 18), .none⟩]))))
def lp26_0 : C := lb26_0
theorem u26_0 (c : Ev.Callee) (l : Ev.Looper) (s : St) : evC c l lp26_0 s = evC c l lb26_0 s := rfl
abbrev st26_0 (m : Nat) (s0 s1 s7 s8 : AV) (h : Heap) : St := ⟨m, [s0, s1, .unk, .unk, .unk, .unk, .unk, s7, s8, .unk, .unk, .unk, .unk, .unk, .unk, .unk, .unk, .unk, .unk], h⟩
@[go_sem] theorem ks26_0 (v0 v1 v2 v3 v4 v5 v6 v7 v8 v9 v10 v11 v12 v13 v14 v15 v16 v17 v18 : AV) : keepS [0, 1, 7, 8] [v0, v1, v2, v3, v4, v5, v6, v7, v8, v9, v10, v11, v12, v13, v14, v15, v16, v17, v18] 0 = [v0, v1, .unk, .unk, .unk, .unk, .unk, v7, v8, .unk, .unk, .unk, .unk, .unk, .unk, .unk, .unk, .unk, .unk] := rfl
@[go_sem] theorem ks26_1 (v0 v1 v2 v3 v4 v5 v6 v7 v8 v9 v10 v11 v12 v13 v14 v15 v16 v17 v18 : AV) : keepS [] [v0, v1, v2, v3, v4, v5, v6, v7, v8, v9, v10, v11, v12, v13, v14, v15, v16, v17, v18] 0 = [.unk, .unk, .unk, .unk, .unk, .unk, .unk, .unk, .unk, .unk, .unk, .unk, .unk, .unk, .unk, .unk, .unk, .unk, .unk] := rfl
@[go_sem] theorem ks26_2 (v0 v1 v2 v3 v4 v5 v6 v7 v8 v9 v10 v11 v12 v13 v14 v15 v16 v17 v18 : AV) : keepS [4] [v0, v1, v2, v3, v4, v5, v6, v7, v8, v9, v10, v11, v12, v13, v14, v15, v16, v17, v18] 0 = [.unk, .unk, .unk, .unk, v4, .unk, .unk, .unk, .unk, .unk, .unk, .unk, .unk, .unk, .unk, .unk, .unk, .unk, .unk] := rfl
/-- slices.IndexFunc[[]spence/api.Span,spence/api.Span] -/
def bd26 : C :=
  (.seq (.reg [⟨some 4, none, .mv (.c (.d (.int .i64 0))), .none⟩])
  (.seq (.seq (.reg [⟨some 6, none, .mv (.s 0), .none⟩,
       ⟨some 7, none, .len (.s 6), .none⟩,
       ⟨some 8, none, .mv (.c (.d (.int .i64 0))), .none⟩])
   (.block 0 (.loop [0, 1, 7, 8] lp26_0)))
  (.seq (.reg [⟨some 4, none, .mv (.c (.d (.int .i64 (-1)))), .none⟩])
  (.ret none))))
def ir26 : F := { n := 19, res := [.tmp 4], body := bd26 }
@[go_sem] theorem n26 : ir26.n = 19 := rfl
@[go_sem] theorem r26 : ir26.res = [.tmp 4] := rfl
@[go_sem] theorem b26 : ir26.body = bd26 := rfl

def irf : FuncId → Option F
  | 3 => some ir3
  | 4 => some ir4
  | 5 => some ir5
  | 6 => some ir6
  | 7 => some ir7
  | 8 => some ir8
  | 9 => some ir9
  | 10 => some ir10
  | 11 => some ir11
  | 12 => some ir12
  | 13 => some ir13
  | 14 => some ir14
  | 16 => some ir16
  | 17 => some ir17
  | 19 => some ir19
  | 20 => some ir20
  | 21 => some ir21
  | 22 => some ir22
  | 23 => some ir23
  | 24 => some ir24
  | 25 => some ir25
  | 26 => some ir26
  | _ => none
def ir : IR := ⟨irf, natOr (natSF spanE spanS 18 19) (natOr (natSC 15 2 16) (natNo))⟩
theorem c3 : cF Try.prog 3 = some ir3.strip := by kernel_rfl
theorem k3 : ir3.body.okD = true := by kernel_rfl
theorem c4 : cF Try.prog 4 = some ir4.strip := by kernel_rfl
theorem k4 : ir4.body.okD = true := by kernel_rfl
theorem c5 : cF Try.prog 5 = some ir5.strip := by kernel_rfl
theorem k5 : ir5.body.okD = true := by kernel_rfl
theorem c6 : cF Try.prog 6 = some ir6.strip := by kernel_rfl
theorem k6 : ir6.body.okD = true := by kernel_rfl
theorem c7 : cF Try.prog 7 = some ir7.strip := by kernel_rfl
theorem k7 : ir7.body.okD = true := by kernel_rfl
theorem c8 : cF Try.prog 8 = some ir8.strip := by kernel_rfl
theorem k8 : ir8.body.okD = true := by kernel_rfl
theorem c9 : cF Try.prog 9 = some ir9.strip := by kernel_rfl
theorem k9 : ir9.body.okD = true := by kernel_rfl
theorem c10 : cF Try.prog 10 = some ir10.strip := by kernel_rfl
theorem k10 : ir10.body.okD = true := by kernel_rfl
theorem c11 : cF Try.prog 11 = some ir11.strip := by kernel_rfl
theorem k11 : ir11.body.okD = true := by kernel_rfl
theorem c12 : cF Try.prog 12 = some ir12.strip := by kernel_rfl
theorem k12 : ir12.body.okD = true := by kernel_rfl
theorem c13 : cF Try.prog 13 = some ir13.strip := by kernel_rfl
theorem k13 : ir13.body.okD = true := by kernel_rfl
theorem c14 : cF Try.prog 14 = some ir14.strip := by kernel_rfl
theorem k14 : ir14.body.okD = true := by kernel_rfl
theorem c16 : cF Try.prog 16 = some ir16.strip := by kernel_rfl
theorem k16 : ir16.body.okD = true := by kernel_rfl
theorem c17 : cF Try.prog 17 = some ir17.strip := by kernel_rfl
theorem k17 : ir17.body.okD = true := by kernel_rfl
theorem c19 : cF Try.prog 19 = some ir19.strip := by kernel_rfl
theorem k19 : ir19.body.okD = true := by kernel_rfl
theorem c20 : cF Try.prog 20 = some ir20.strip := by kernel_rfl
theorem k20 : ir20.body.okD = true := by kernel_rfl
theorem c21 : cF Try.prog 21 = some ir21.strip := by kernel_rfl
theorem k21 : ir21.body.okD = true := by kernel_rfl
theorem c22 : cF Try.prog 22 = some ir22.strip := by kernel_rfl
theorem k22 : ir22.body.okD = true := by kernel_rfl
theorem c23 : cF Try.prog 23 = some ir23.strip := by kernel_rfl
theorem k23 : ir23.body.okD = true := by kernel_rfl
theorem c24 : cF Try.prog 24 = some ir24.strip := by kernel_rfl
theorem k24 : ir24.body.okD = true := by kernel_rfl
theorem c25 : cF Try.prog 25 = some ir25.strip := by kernel_rfl
theorem k25 : ir25.body.okD = true := by kernel_rfl
theorem c26 : cF Try.prog 26 = some ir26.strip := by kernel_rfl
theorem k26 : ir26.body.okD = true := by kernel_rfl
theorem tab : Tab Try.prog ir := by
  refine ⟨by kernel_rfl, fun f fn h => ?_, natOr_snd (Try.sortN) (natOr_snd (Try.cloneSN) (natNo_snd))⟩
  change irf f = some fn at h
  unfold irf at h
  split at h
  · cases h; exact ⟨c3, k3⟩
  · cases h; exact ⟨c4, k4⟩
  · cases h; exact ⟨c5, k5⟩
  · cases h; exact ⟨c6, k6⟩
  · cases h; exact ⟨c7, k7⟩
  · cases h; exact ⟨c8, k8⟩
  · cases h; exact ⟨c9, k9⟩
  · cases h; exact ⟨c10, k10⟩
  · cases h; exact ⟨c11, k11⟩
  · cases h; exact ⟨c12, k12⟩
  · cases h; exact ⟨c13, k13⟩
  · cases h; exact ⟨c14, k14⟩
  · cases h; exact ⟨c16, k16⟩
  · cases h; exact ⟨c17, k17⟩
  · cases h; exact ⟨c19, k19⟩
  · cases h; exact ⟨c20, k20⟩
  · cases h; exact ⟨c21, k21⟩
  · cases h; exact ⟨c22, k22⟩
  · cases h; exact ⟨c23, k23⟩
  · cases h; exact ⟨c24, k24⟩
  · cases h; exact ⟨c25, k25⟩
  · cases h; exact ⟨c26, k26⟩
  · cases h
end Go.Proofs.Ytjcnmaogegfkoaa.Ir
