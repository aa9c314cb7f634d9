/- The texts of the functions in the small language. Printed by a program of my own (irgen.py). -/
import Derived.Test.YtoipfdbdifoecaaDoorEvSim
import Derived.Test.YtoipfdbdifoecaaDoorProg
import Derived.Test.YtoipfdbdifoecaaDoorEvNatM
import Derived.Test.YtoipfdbdifoecaaDoorEvNatS
import Derived.Test.YtoipfdbdifoecaaDoorShMap
import Derived.Test.YtoipfdbdifoecaaDoorShSort
import Derived.Test.YtoipfdbdifoecaaDoorEvNatB
import Derived.Test.YtoipfdbdifoecaaDoorShBl
namespace Go.Proofs.YtoipfdbdifoecaaDoor.Ir
open Go Go.Ev
set_option maxRecDepth 10000

def lb3_0 : C :=
  (.seq (.reg [⟨some 57, none, .bin .lss (.s 56) (.s 55), .none⟩])
  (.seq (.cond (.s 57)
    .skip
    (.exit 0 (some [7, 8, 10])))
  (.seq (.block 1 (.seq (.reg [⟨some 58, none, .is (.s 54) (.s 56) 3, .none⟩,
        ⟨some 59, none, .ld (.s 58) 3 true, .none⟩,
        ⟨some 12, none, .alloc 47 [.int .i64 0, .int .i64 0, .int .i64 0], .none⟩,
        ⟨none, none, .st (.s 12) (.s 59) 3, .none⟩])
    (.seq (.reg [⟨some 60, none, .fa (.s 12) 0, .none⟩,
        ⟨some 61, none, .ld (.s 60) 1 false, .none⟩,
        ⟨some 62, none, .mv (.s 2), .none⟩,
        ⟨some 63, none, .bin .eql (.s 61) (.s 62), .none⟩])
    (.cond (.s 63)
     (.seq (.reg [⟨some 64, none, .ld (.s 7) 192 true, .none⟩,
         ⟨some 65, none, .mv (.s 8), .none⟩,
         ⟨some 66, none, .call 8 [.s 64, .s 65] 0, .none⟩,
         ⟨some 67, none, .mv (.s 66), .none⟩,
         ⟨some 68, some (67, true), .mv (.s 10), .none⟩,
         ⟨some 69, none, .pick (.s 67) (.s 68) (.c (.d (.bool false))), .none⟩,
         ⟨some 70, none, .mv (.s 69), .none⟩,
         ⟨some 71, some (70, true), .ld (.s 9) 2 true, .none⟩,
         ⟨some 72, some (70, true), .fa (.s 12) 1, .none⟩,
         ⟨some 73, some (70, true), .ld (.s 72) 2 true, .none⟩,
         ⟨some 74, some (70, true), .eqs false [1, 1] (.s 71) (.s 73), .none⟩,
         ⟨some 75, none, .pick (.s 70) (.s 74) (.c (.d (.bool false))), .none⟩,
         ⟨some 6, none, .mv (.s 75), .none⟩])
     (.ret (some [6])))
     .skip))))
  (.reg [⟨some 76, none, .bin .add (.s 56) (.c (.d (.int .i64 1))), .none⟩,
     ⟨some 56, none, .mv (.s 76), .none⟩]))))
def lp3_0 : C := lb3_0
theorem u3_0 (c : Ev.Callee) (l : Ev.Looper) (s : St) : evC c l lp3_0 s = evC c l lb3_0 s := rfl
abbrev st3_0 (m : Nat) (s2 s7 s8 s9 s10 s54 s55 s56 : AV) (h : Heap) : St := ⟨m, [.unk, .unk, s2, .unk, .unk, .unk, .unk, s7, s8, s9, s10, .unk, .unk, .unk, .unk, .unk, .unk, .unk, .unk, .unk, .unk, .unk, .unk, .unk, .unk, .unk, .unk, .unk, .unk, .unk, .unk, .unk, .unk, .unk, .unk, .unk, .unk, .unk, .unk, .unk, .unk, .unk, .unk, .unk, .unk, .unk, .unk, .unk, .unk, .unk, .unk, .unk, .unk, .unk, s54, s55, s56, .unk, .unk, .unk, .unk, .unk, .unk, .unk, .unk, .unk, .unk, .unk, .unk, .unk, .unk, .unk, .unk, .unk, .unk, .unk, .unk, .unk, .unk, .unk, .unk, .unk, .unk, .unk], h⟩
@[go_sem] theorem ks3_0 (v0 v1 v2 v3 v4 v5 v6 v7 v8 v9 v10 v11 v12 v13 v14 v15 v16 v17 v18 v19 v20 v21 v22 v23 v24 v25 v26 v27 v28 v29 v30 v31 v32 v33 v34 v35 v36 v37 v38 v39 v40 v41 v42 v43 v44 v45 v46 v47 v48 v49 v50 v51 v52 v53 v54 v55 v56 v57 v58 v59 v60 v61 v62 v63 v64 v65 v66 v67 v68 v69 v70 v71 v72 v73 v74 v75 v76 v77 v78 v79 v80 v81 v82 v83 : AV) : keepS [2, 7, 8, 9, 10, 54, 55, 56] [v0, v1, v2, v3, v4, v5, v6, v7, v8, v9, v10, v11, v12, v13, v14, v15, v16, v17, v18, v19, v20, v21, v22, v23, v24, v25, v26, v27, v28, v29, v30, v31, v32, v33, v34, v35, v36, v37, v38, v39, v40, v41, v42, v43, v44, v45, v46, v47, v48, v49, v50, v51, v52, v53, v54, v55, v56, v57, v58, v59, v60, v61, v62, v63, v64, v65, v66, v67, v68, v69, v70, v71, v72, v73, v74, v75, v76, v77, v78, v79, v80, v81, v82, v83] 0 = [.unk, .unk, v2, .unk, .unk, .unk, .unk, v7, v8, v9, v10, .unk, .unk, .unk, .unk, .unk, .unk, .unk, .unk, .unk, .unk, .unk, .unk, .unk, .unk, .unk, .unk, .unk, .unk, .unk, .unk, .unk, .unk, .unk, .unk, .unk, .unk, .unk, .unk, .unk, .unk, .unk, .unk, .unk, .unk, .unk, .unk, .unk, .unk, .unk, .unk, .unk, .unk, .unk, v54, v55, v56, .unk, .unk, .unk, .unk, .unk, .unk, .unk, .unk, .unk, .unk, .unk, .unk, .unk, .unk, .unk, .unk, .unk, .unk, .unk, .unk, .unk, .unk, .unk, .unk, .unk, .unk, .unk] := rfl
@[go_sem] theorem ks3_1 (v0 v1 v2 v3 v4 v5 v6 v7 v8 v9 v10 v11 v12 v13 v14 v15 v16 v17 v18 v19 v20 v21 v22 v23 v24 v25 v26 v27 v28 v29 v30 v31 v32 v33 v34 v35 v36 v37 v38 v39 v40 v41 v42 v43 v44 v45 v46 v47 v48 v49 v50 v51 v52 v53 v54 v55 v56 v57 v58 v59 v60 v61 v62 v63 v64 v65 v66 v67 v68 v69 v70 v71 v72 v73 v74 v75 v76 v77 v78 v79 v80 v81 v82 v83 : AV) : keepS [7, 8, 10] [v0, v1, v2, v3, v4, v5, v6, v7, v8, v9, v10, v11, v12, v13, v14, v15, v16, v17, v18, v19, v20, v21, v22, v23, v24, v25, v26, v27, v28, v29, v30, v31, v32, v33, v34, v35, v36, v37, v38, v39, v40, v41, v42, v43, v44, v45, v46, v47, v48, v49, v50, v51, v52, v53, v54, v55, v56, v57, v58, v59, v60, v61, v62, v63, v64, v65, v66, v67, v68, v69, v70, v71, v72, v73, v74, v75, v76, v77, v78, v79, v80, v81, v82, v83] 0 = [.unk, .unk, .unk, .unk, .unk, .unk, .unk, v7, v8, .unk, v10, .unk, .unk, .unk, .unk, .unk, .unk, .unk, .unk, .unk, .unk, .unk, .unk, .unk, .unk, .unk, .unk, .unk, .unk, .unk, .unk, .unk, .unk, .unk, .unk, .unk, .unk, .unk, .unk, .unk, .unk, .unk, .unk, .unk, .unk, .unk, .unk, .unk, .unk, .unk, .unk, .unk, .unk, .unk, .unk, .unk, .unk, .unk, .unk, .unk, .unk, .unk, .unk, .unk, .unk, .unk, .unk, .unk, .unk, .unk, .unk, .unk, .unk, .unk, .unk, .unk, .unk, .unk, .unk, .unk, .unk, .unk, .unk, .unk] := rfl
@[go_sem] theorem ks3_2 (v0 v1 v2 v3 v4 v5 v6 v7 v8 v9 v10 v11 v12 v13 v14 v15 v16 v17 v18 v19 v20 v21 v22 v23 v24 v25 v26 v27 v28 v29 v30 v31 v32 v33 v34 v35 v36 v37 v38 v39 v40 v41 v42 v43 v44 v45 v46 v47 v48 v49 v50 v51 v52 v53 v54 v55 v56 v57 v58 v59 v60 v61 v62 v63 v64 v65 v66 v67 v68 v69 v70 v71 v72 v73 v74 v75 v76 v77 v78 v79 v80 v81 v82 v83 : AV) : keepS [6] [v0, v1, v2, v3, v4, v5, v6, v7, v8, v9, v10, v11, v12, v13, v14, v15, v16, v17, v18, v19, v20, v21, v22, v23, v24, v25, v26, v27, v28, v29, v30, v31, v32, v33, v34, v35, v36, v37, v38, v39, v40, v41, v42, v43, v44, v45, v46, v47, v48, v49, v50, v51, v52, v53, v54, v55, v56, v57, v58, v59, v60, v61, v62, v63, v64, v65, v66, v67, v68, v69, v70, v71, v72, v73, v74, v75, v76, v77, v78, v79, v80, v81, v82, v83] 0 = [.unk, .unk, .unk, .unk, .unk, .unk, v6, .unk, .unk, .unk, .unk, .unk, .unk, .unk, .unk, .unk, .unk, .unk, .unk, .unk, .unk, .unk, .unk, .unk, .unk, .unk, .unk, .unk, .unk, .unk, .unk, .unk, .unk, .unk, .unk, .unk, .unk, .unk, .unk, .unk, .unk, .unk, .unk, .unk, .unk, .unk, .unk, .unk, .unk, .unk, .unk, .unk, .unk, .unk, .unk, .unk, .unk, .unk, .unk, .unk, .unk, .unk, .unk, .unk, .unk, .unk, .unk, .unk, .unk, .unk, .unk, .unk, .unk, .unk, .unk, .unk, .unk, .unk, .unk, .unk, .unk, .unk, .unk, .unk] := rfl
/-- spence/spencelaw19.IndexDoes -/
def bd3 : C :=
  (.seq (.reg [⟨some 6, none, .mv (.c (.d (.bool false))), .none⟩])
  (.seq (.seq (.reg [⟨some 13, none, .call 5 [] 2, .none⟩,
       ⟨some 14, none, .un .not (.s 13), .none⟩])
   (.cond (.s 14)
    (.seq (.reg [⟨some 6, none, .mv (.c (.d (.bool false))), .none⟩])
    (.ret none))
    .skip))
  (.seq (.seq (.reg [⟨some 15, none, .mv (.s 0), .none⟩,
       ⟨some 16, none, .len (.s 15), .none⟩,
       ⟨some 17, none, .bin .gtr (.s 16) (.c (.d (.int .i64 60))), .none⟩])
   (.cond (.s 17)
    (.seq (.reg [⟨some 6, none, .mv (.c (.d (.bool true))), .none⟩])
    (.ret none))
    .skip))
  (.seq (.reg [⟨some 19, none, .mv (.s 0), .none⟩,
      ⟨some 20, none, .call 6 [.s 19] 0, .none⟩,
      ⟨some 18, none, .mv (.s 20), .none⟩,
      ⟨some 21, none, .ext (.s 18) 0, .none⟩,
      ⟨some 22, none, .ext (.s 18) 1, .none⟩,
      ⟨some 7, none, .alloc 33 [.bool false, .int .i64 0, .int .i64 0, .str [], .int .i64 0, .int .i64 0, .int .i64 0, .int .i64 0, .nilm, .int .i64 0, .int .i64 0, .int .i64 0, .bool false, .int .i64 0, .int .i64 0, .str [], .int .i64 0, .int .i64 0, .int .i64 0, .int .i64 0, .nilm, .int .i64 0, .int .i64 0, .int .i64 0, .bool false, .int .i64 0, .int .i64 0, .str [], .int .i64 0, .int .i64 0, .int .i64 0, .int .i64 0, .nilm, .int .i64 0, .int .i64 0, .int .i64 0, .bool false, .int .i64 0, .int .i64 0, .str [], .int .i64 0, .int .i64 0, .int .i64 0, .int .i64 0, .nilm, .int .i64 0, .int .i64 0, .int .i64 0, .bool false, .int .i64 0, .int .i64 0, .str [], .int .i64 0, .int .i64 0, .int .i64 0, .int .i64 0, .nilm, .int .i64 0, .int .i64 0, .int .i64 0, .bool false, .int .i64 0, .int .i64 0, .str [], .int .i64 0, .int .i64 0, .int .i64 0, .int .i64 0, .nilm, .int .i64 0, .int .i64 0, .int .i64 0, .bool false, .int .i64 0, .int .i64 0, .str [], .int .i64 0, .int .i64 0, .int .i64 0, .int .i64 0, .nilm, .int .i64 0, .int .i64 0, .int .i64 0, .bool false, .int .i64 0, .int .i64 0, .str [], .int .i64 0, .int .i64 0, .int .i64 0, .int .i64 0, .nilm, .int .i64 0, .int .i64 0, .int .i64 0, .bool false, .int .i64 0, .int .i64 0, .str [], .int .i64 0, .int .i64 0, .int .i64 0, .int .i64 0, .nilm, .int .i64 0, .int .i64 0, .int .i64 0, .bool false, .int .i64 0, .int .i64 0, .str [], .int .i64 0, .int .i64 0, .int .i64 0, .int .i64 0, .nilm, .int .i64 0, .int .i64 0, .int .i64 0, .bool false, .int .i64 0, .int .i64 0, .str [], .int .i64 0, .int .i64 0, .int .i64 0, .int .i64 0, .nilm, .int .i64 0, .int .i64 0, .int .i64 0, .bool false, .int .i64 0, .int .i64 0, .str [], .int .i64 0, .int .i64 0, .int .i64 0, .int .i64 0, .nilm, .int .i64 0, .int .i64 0, .int .i64 0, .bool false, .int .i64 0, .int .i64 0, .str [], .int .i64 0, .int .i64 0, .int .i64 0, .int .i64 0, .nilm, .int .i64 0, .int .i64 0, .int .i64 0, .bool false, .int .i64 0, .int .i64 0, .str [], .int .i64 0, .int .i64 0, .int .i64 0, .int .i64 0, .nilm, .int .i64 0, .int .i64 0, .int .i64 0, .bool false, .int .i64 0, .int .i64 0, .str [], .int .i64 0, .int .i64 0, .int .i64 0, .int .i64 0, .nilm, .int .i64 0, .int .i64 0, .int .i64 0, .bool false, .int .i64 0, .int .i64 0, .str [], .int .i64 0, .int .i64 0, .int .i64 0, .int .i64 0, .nilm, .int .i64 0, .int .i64 0, .int .i64 0], .none⟩,
      ⟨none, none, .st (.s 7) (.s 21) 192, .none⟩,
      ⟨some 8, none, .mv (.s 22), .none⟩])
  (.seq (.reg [⟨some 24, none, .ld (.s 7) 192 true, .none⟩,
      ⟨some 25, none, .mv (.s 1), .none⟩,
      ⟨some 26, none, .mv (.s 2), .none⟩,
      ⟨some 27, none, .call 7 [.s 24, .s 25, .s 26] 2, .none⟩,
      ⟨some 23, none, .mv (.s 27), .none⟩,
      ⟨some 28, none, .ext (.s 23) 0, .none⟩,
      ⟨some 29, none, .ext (.s 23) 1, .none⟩,
      ⟨some 9, none, .alloc 27 [.int .i64 0, .int .i64 0], .none⟩,
      ⟨none, none, .st (.s 9) (.s 28) 2, .none⟩,
      ⟨some 10, none, .mv (.s 29), .none⟩])
  (.seq (.seq (.reg [⟨some 30, none, .mv (.s 1), .none⟩,
       ⟨some 31, none, .bin .lss (.s 30) (.c (.d (.int .i64 0))), .none⟩,
       ⟨some 32, none, .mv (.s 31), .none⟩,
       ⟨some 33, some (32, false), .mv (.s 1), .none⟩,
       ⟨some 34, some (32, false), .bin .gtr (.s 33) (.c (.d (.int .i64 15))), .none⟩,
       ⟨some 35, none, .pick (.s 32) (.c (.d (.bool true))) (.s 34), .none⟩])
   (.cond (.s 35)
    (.seq (.reg [⟨some 36, none, .ld (.s 7) 192 true, .none⟩,
        ⟨some 37, none, .mv (.s 8), .none⟩,
        ⟨some 38, none, .call 8 [.s 36, .s 37] 0, .none⟩,
        ⟨some 39, none, .mv (.s 38), .none⟩,
        ⟨some 40, some (39, true), .mv (.s 10), .none⟩,
        ⟨some 41, some (39, true), .un .not (.s 40), .none⟩,
        ⟨some 42, none, .pick (.s 39) (.s 41) (.c (.d (.bool false))), .none⟩,
        ⟨some 43, none, .mv (.s 42), .none⟩,
        ⟨some 44, some (43, true), .ld (.s 9) 2 true, .none⟩,
        ⟨some 45, some (43, true), .build [.int .i64 0, .int .i64 0] [], .none⟩,
        ⟨some 46, some (43, true), .eqs false [1, 1] (.s 44) (.s 45), .none⟩,
        ⟨some 47, none, .pick (.s 43) (.s 46) (.c (.d (.bool false))), .none⟩,
        ⟨some 6, none, .mv (.s 47), .none⟩])
    (.ret none))
    .skip))
  (.seq (.seq (.reg [⟨some 48, none, .mv (.s 8), .none⟩,
       ⟨some 49, none, .mv (.s 1), .none⟩,
       ⟨some 50, none, .nc (.s 48), .none⟩,
       ⟨some 51, none, .fa (.s 50) 0, .none⟩,
       ⟨some 52, none, .ia (.s 51) (.s 49) 16 12, .none⟩,
       ⟨some 53, none, .fa (.s 52) 8, .none⟩,
       ⟨some 54, none, .ld (.s 53) 1 false, .none⟩,
       ⟨some 55, none, .len (.s 54), .none⟩,
       ⟨some 56, none, .mv (.c (.d (.int .i64 0))), .none⟩])
   (.block 0 (.loop [2, 7, 8, 9, 10, 54, 55, 56] lp3_0)))
  (.seq (.reg [⟨some 77, none, .ld (.s 7) 192 true, .none⟩,
      ⟨some 78, none, .mv (.s 8), .none⟩,
      ⟨some 79, none, .call 8 [.s 77, .s 78] 0, .none⟩,
      ⟨some 80, none, .mv (.s 79), .none⟩,
      ⟨some 81, some (80, true), .mv (.s 10), .none⟩,
      ⟨some 82, some (80, true), .un .not (.s 81), .none⟩,
      ⟨some 83, none, .pick (.s 80) (.s 82) (.c (.d (.bool false))), .none⟩,
      ⟨some 6, none, .mv (.s 83), .none⟩])
  (.ret none)))))))))
def ir3 : F := { n := 84, res := [.tmp 6], body := bd3 }
@[go_sem] theorem n3 : ir3.n = 84 := rfl
@[go_sem] theorem r3 : ir3.res = [.tmp 6] := rfl
@[go_sem] theorem b3 : ir3.body = bd3 := rfl
/-- spence/spencelaw19.IndexSame -/
def bd4 : C :=
  (.seq (.reg [⟨some 4, none, .box 50 (.s 1), .none⟩,
      ⟨some 6, none, .mv (.c (.d (.bool false))), .none⟩])
  (.seq (.seq (.reg [⟨some 15, none, .call 5 [] 2, .none⟩,
       ⟨some 16, none, .un .not (.s 15), .none⟩])
   (.cond (.s 16)
    (.seq (.reg [⟨some 6, none, .mv (.c (.d (.bool false))), .none⟩])
    (.ret none))
    .skip))
  (.seq (.seq (.reg [⟨some 17, none, .mv (.s 0), .none⟩,
       ⟨some 18, none, .len (.s 17), .none⟩,
       ⟨some 19, none, .bin .gtr (.s 18) (.c (.d (.int .i64 40))), .none⟩,
       ⟨some 20, none, .mv (.s 19), .none⟩,
       ⟨some 21, some (20, false), .mv (.s 2), .none⟩,
       ⟨some 22, some (20, false), .len (.s 21), .none⟩,
       ⟨some 23, some (20, false), .bin .gtr (.s 22) (.c (.d (.int .i64 40))), .none⟩,
       ⟨some 24, none, .pick (.s 20) (.c (.d (.bool true))) (.s 23), .none⟩])
   (.cond (.s 24)
    (.seq (.reg [⟨some 6, none, .mv (.c (.d (.bool true))), .none⟩])
    (.ret none))
    .skip))
  (.seq (.reg [⟨some 26, none, .mv (.s 0), .none⟩,
      ⟨some 27, none, .call 6 [.s 26] 0, .none⟩,
      ⟨some 25, none, .mv (.s 27), .none⟩,
      ⟨some 28, none, .ext (.s 25) 0, .none⟩,
      ⟨some 29, none, .ext (.s 25) 1, .none⟩,
      ⟨some 7, none, .alloc 33 [.bool false, .int .i64 0, .int .i64 0, .str [], .int .i64 0, .int .i64 0, .int .i64 0, .int .i64 0, .nilm, .int .i64 0, .int .i64 0, .int .i64 0, .bool false, .int .i64 0, .int .i64 0, .str [], .int .i64 0, .int .i64 0, .int .i64 0, .int .i64 0, .nilm, .int .i64 0, .int .i64 0, .int .i64 0, .bool false, .int .i64 0, .int .i64 0, .str [], .int .i64 0, .int .i64 0, .int .i64 0, .int .i64 0, .nilm, .int .i64 0, .int .i64 0, .int .i64 0, .bool false, .int .i64 0, .int .i64 0, .str [], .int .i64 0, .int .i64 0, .int .i64 0, .int .i64 0, .nilm, .int .i64 0, .int .i64 0, .int .i64 0, .bool false, .int .i64 0, .int .i64 0, .str [], .int .i64 0, .int .i64 0, .int .i64 0, .int .i64 0, .nilm, .int .i64 0, .int .i64 0, .int .i64 0, .bool false, .int .i64 0, .int .i64 0, .str [], .int .i64 0, .int .i64 0, .int .i64 0, .int .i64 0, .nilm, .int .i64 0, .int .i64 0, .int .i64 0, .bool false, .int .i64 0, .int .i64 0, .str [], .int .i64 0, .int .i64 0, .int .i64 0, .int .i64 0, .nilm, .int .i64 0, .int .i64 0, .int .i64 0, .bool false, .int .i64 0, .int .i64 0, .str [], .int .i64 0, .int .i64 0, .int .i64 0, .int .i64 0, .nilm, .int .i64 0, .int .i64 0, .int .i64 0, .bool false, .int .i64 0, .int .i64 0, .str [], .int .i64 0, .int .i64 0, .int .i64 0, .int .i64 0, .nilm, .int .i64 0, .int .i64 0, .int .i64 0, .bool false, .int .i64 0, .int .i64 0, .str [], .int .i64 0, .int .i64 0, .int .i64 0, .int .i64 0, .nilm, .int .i64 0, .int .i64 0, .int .i64 0, .bool false, .int .i64 0, .int .i64 0, .str [], .int .i64 0, .int .i64 0, .int .i64 0, .int .i64 0, .nilm, .int .i64 0, .int .i64 0, .int .i64 0, .bool false, .int .i64 0, .int .i64 0, .str [], .int .i64 0, .int .i64 0, .int .i64 0, .int .i64 0, .nilm, .int .i64 0, .int .i64 0, .int .i64 0, .bool false, .int .i64 0, .int .i64 0, .str [], .int .i64 0, .int .i64 0, .int .i64 0, .int .i64 0, .nilm, .int .i64 0, .int .i64 0, .int .i64 0, .bool false, .int .i64 0, .int .i64 0, .str [], .int .i64 0, .int .i64 0, .int .i64 0, .int .i64 0, .nilm, .int .i64 0, .int .i64 0, .int .i64 0, .bool false, .int .i64 0, .int .i64 0, .str [], .int .i64 0, .int .i64 0, .int .i64 0, .int .i64 0, .nilm, .int .i64 0, .int .i64 0, .int .i64 0, .bool false, .int .i64 0, .int .i64 0, .str [], .int .i64 0, .int .i64 0, .int .i64 0, .int .i64 0, .nilm, .int .i64 0, .int .i64 0, .int .i64 0], .none⟩,
      ⟨none, none, .st (.s 7) (.s 28) 192, .none⟩,
      ⟨some 8, none, .mv (.s 29), .none⟩])
  (.seq (.reg [⟨some 31, none, .mv (.s 2), .none⟩,
      ⟨some 32, none, .call 6 [.s 31] 0, .none⟩,
      ⟨some 30, none, .mv (.s 32), .none⟩,
      ⟨some 33, none, .ext (.s 30) 0, .none⟩,
      ⟨some 34, none, .ext (.s 30) 1, .none⟩,
      ⟨some 9, none, .alloc 33 [.bool false, .int .i64 0, .int .i64 0, .str [], .int .i64 0, .int .i64 0, .int .i64 0, .int .i64 0, .nilm, .int .i64 0, .int .i64 0, .int .i64 0, .bool false, .int .i64 0, .int .i64 0, .str [], .int .i64 0, .int .i64 0, .int .i64 0, .int .i64 0, .nilm, .int .i64 0, .int .i64 0, .int .i64 0, .bool false, .int .i64 0, .int .i64 0, .str [], .int .i64 0, .int .i64 0, .int .i64 0, .int .i64 0, .nilm, .int .i64 0, .int .i64 0, .int .i64 0, .bool false, .int .i64 0, .int .i64 0, .str [], .int .i64 0, .int .i64 0, .int .i64 0, .int .i64 0, .nilm, .int .i64 0, .int .i64 0, .int .i64 0, .bool false, .int .i64 0, .int .i64 0, .str [], .int .i64 0, .int .i64 0, .int .i64 0, .int .i64 0, .nilm, .int .i64 0, .int .i64 0, .int .i64 0, .bool false, .int .i64 0, .int .i64 0, .str [], .int .i64 0, .int .i64 0, .int .i64 0, .int .i64 0, .nilm, .int .i64 0, .int .i64 0, .int .i64 0, .bool false, .int .i64 0, .int .i64 0, .str [], .int .i64 0, .int .i64 0, .int .i64 0, .int .i64 0, .nilm, .int .i64 0, .int .i64 0, .int .i64 0, .bool false, .int .i64 0, .int .i64 0, .str [], .int .i64 0, .int .i64 0, .int .i64 0, .int .i64 0, .nilm, .int .i64 0, .int .i64 0, .int .i64 0, .bool false, .int .i64 0, .int .i64 0, .str [], .int .i64 0, .int .i64 0, .int .i64 0, .int .i64 0, .nilm, .int .i64 0, .int .i64 0, .int .i64 0, .bool false, .int .i64 0, .int .i64 0, .str [], .int .i64 0, .int .i64 0, .int .i64 0, .int .i64 0, .nilm, .int .i64 0, .int .i64 0, .int .i64 0, .bool false, .int .i64 0, .int .i64 0, .str [], .int .i64 0, .int .i64 0, .int .i64 0, .int .i64 0, .nilm, .int .i64 0, .int .i64 0, .int .i64 0, .bool false, .int .i64 0, .int .i64 0, .str [], .int .i64 0, .int .i64 0, .int .i64 0, .int .i64 0, .nilm, .int .i64 0, .int .i64 0, .int .i64 0, .bool false, .int .i64 0, .int .i64 0, .str [], .int .i64 0, .int .i64 0, .int .i64 0, .int .i64 0, .nilm, .int .i64 0, .int .i64 0, .int .i64 0, .bool false, .int .i64 0, .int .i64 0, .str [], .int .i64 0, .int .i64 0, .int .i64 0, .int .i64 0, .nilm, .int .i64 0, .int .i64 0, .int .i64 0, .bool false, .int .i64 0, .int .i64 0, .str [], .int .i64 0, .int .i64 0, .int .i64 0, .int .i64 0, .nilm, .int .i64 0, .int .i64 0, .int .i64 0, .bool false, .int .i64 0, .int .i64 0, .str [], .int .i64 0, .int .i64 0, .int .i64 0, .int .i64 0, .nilm, .int .i64 0, .int .i64 0, .int .i64 0], .none⟩,
      ⟨none, none, .st (.s 9) (.s 33) 192, .none⟩,
      ⟨some 10, none, .mv (.s 34), .none⟩])
  (.seq (.drr [⟨some 36, none, .mv (.s 0), .none⟩,
      ⟨some 37, none, .app 50 9 80 (.c (.d .nils)) (.s 36), .none⟩,
      ⟨some 38, none, .ld (.s 4) 9 true, .none⟩,
      ⟨some 39, none, .bsl 50 9 1 [.int .i64 0, .int .i64 0, .int .i64 0, .str [], .int .i64 0, .int .i64 0, .int .i64 0, .int .i64 0, .int .i64 0] [(0, (9, .s 38))], .dat⟩,
      ⟨some 40, none, .app 50 9 80 (.s 37) (.s 39), .none⟩,
      ⟨some 41, none, .call 6 [.s 40] 0, .none⟩,
      ⟨some 35, none, .mv (.s 41), .none⟩,
      ⟨some 42, none, .ext (.s 35) 0, .none⟩,
      ⟨some 43, none, .ext (.s 35) 1, .none⟩,
      ⟨some 11, none, .alloc 33 [.bool false, .int .i64 0, .int .i64 0, .str [], .int .i64 0, .int .i64 0, .int .i64 0, .int .i64 0, .nilm, .int .i64 0, .int .i64 0, .int .i64 0, .bool false, .int .i64 0, .int .i64 0, .str [], .int .i64 0, .int .i64 0, .int .i64 0, .int .i64 0, .nilm, .int .i64 0, .int .i64 0, .int .i64 0, .bool false, .int .i64 0, .int .i64 0, .str [], .int .i64 0, .int .i64 0, .int .i64 0, .int .i64 0, .nilm, .int .i64 0, .int .i64 0, .int .i64 0, .bool false, .int .i64 0, .int .i64 0, .str [], .int .i64 0, .int .i64 0, .int .i64 0, .int .i64 0, .nilm, .int .i64 0, .int .i64 0, .int .i64 0, .bool false, .int .i64 0, .int .i64 0, .str [], .int .i64 0, .int .i64 0, .int .i64 0, .int .i64 0, .nilm, .int .i64 0, .int .i64 0, .int .i64 0, .bool false, .int .i64 0, .int .i64 0, .str [], .int .i64 0, .int .i64 0, .int .i64 0, .int .i64 0, .nilm, .int .i64 0, .int .i64 0, .int .i64 0, .bool false, .int .i64 0, .int .i64 0, .str [], .int .i64 0, .int .i64 0, .int .i64 0, .int .i64 0, .nilm, .int .i64 0, .int .i64 0, .int .i64 0, .bool false, .int .i64 0, .int .i64 0, .str [], .int .i64 0, .int .i64 0, .int .i64 0, .int .i64 0, .nilm, .int .i64 0, .int .i64 0, .int .i64 0, .bool false, .int .i64 0, .int .i64 0, .str [], .int .i64 0, .int .i64 0, .int .i64 0, .int .i64 0, .nilm, .int .i64 0, .int .i64 0, .int .i64 0, .bool false, .int .i64 0, .int .i64 0, .str [], .int .i64 0, .int .i64 0, .int .i64 0, .int .i64 0, .nilm, .int .i64 0, .int .i64 0, .int .i64 0, .bool false, .int .i64 0, .int .i64 0, .str [], .int .i64 0, .int .i64 0, .int .i64 0, .int .i64 0, .nilm, .int .i64 0, .int .i64 0, .int .i64 0, .bool false, .int .i64 0, .int .i64 0, .str [], .int .i64 0, .int .i64 0, .int .i64 0, .int .i64 0, .nilm, .int .i64 0, .int .i64 0, .int .i64 0, .bool false, .int .i64 0, .int .i64 0, .str [], .int .i64 0, .int .i64 0, .int .i64 0, .int .i64 0, .nilm, .int .i64 0, .int .i64 0, .int .i64 0, .bool false, .int .i64 0, .int .i64 0, .str [], .int .i64 0, .int .i64 0, .int .i64 0, .int .i64 0, .nilm, .int .i64 0, .int .i64 0, .int .i64 0, .bool false, .int .i64 0, .int .i64 0, .str [], .int .i64 0, .int .i64 0, .int .i64 0, .int .i64 0, .nilm, .int .i64 0, .int .i64 0, .int .i64 0, .bool false, .int .i64 0, .int .i64 0, .str [], .int .i64 0, .int .i64 0, .int .i64 0, .int .i64 0, .nilm, .int .i64 0, .int .i64 0, .int .i64 0], .res []⟩,
      ⟨none, none, .st (.s 11) (.s 42) 192, .none⟩,
      ⟨some 12, none, .mv (.s 43), .none⟩]
     [[], [0], [], [2], [1, 3, 1], [4, 4], [5], [6], [6], [], [9, 7, 5, 0, 1, 2, 3, 4, 5, 6, 7, 9], [8, 10, 0, 1, 2, 3, 4, 5, 6, 7, 8, 9, 10]] [] [4] [36])
  (.seq (.drr [⟨some 45, none, .mv (.s 0), .none⟩,
      ⟨some 46, none, .app 50 9 80 (.c (.d .nils)) (.s 45), .none⟩,
      ⟨some 47, none, .ld (.s 4) 9 true, .none⟩,
      ⟨some 48, none, .ld (.s 4) 9 true, .none⟩,
      ⟨some 49, none, .bsl 50 9 2 [.int .i64 0, .int .i64 0, .int .i64 0, .str [], .int .i64 0, .int .i64 0, .int .i64 0, .int .i64 0, .int .i64 0] [(0, (9, .s 47)), (9, (9, .s 48))], .dat⟩,
      ⟨some 50, none, .app 50 9 80 (.s 46) (.s 49), .none⟩,
      ⟨some 51, none, .call 6 [.s 50] 0, .none⟩,
      ⟨some 44, none, .mv (.s 51), .none⟩,
      ⟨some 52, none, .ext (.s 44) 0, .none⟩,
      ⟨some 53, none, .ext (.s 44) 1, .none⟩,
      ⟨some 13, none, .alloc 33 [.bool false, .int .i64 0, .int .i64 0, .str [], .int .i64 0, .int .i64 0, .int .i64 0, .int .i64 0, .nilm, .int .i64 0, .int .i64 0, .int .i64 0, .bool false, .int .i64 0, .int .i64 0, .str [], .int .i64 0, .int .i64 0, .int .i64 0, .int .i64 0, .nilm, .int .i64 0, .int .i64 0, .int .i64 0, .bool false, .int .i64 0, .int .i64 0, .str [], .int .i64 0, .int .i64 0, .int .i64 0, .int .i64 0, .nilm, .int .i64 0, .int .i64 0, .int .i64 0, .bool false, .int .i64 0, .int .i64 0, .str [], .int .i64 0, .int .i64 0, .int .i64 0, .int .i64 0, .nilm, .int .i64 0, .int .i64 0, .int .i64 0, .bool false, .int .i64 0, .int .i64 0, .str [], .int .i64 0, .int .i64 0, .int .i64 0, .int .i64 0, .nilm, .int .i64 0, .int .i64 0, .int .i64 0, .bool false, .int .i64 0, .int .i64 0, .str [], .int .i64 0, .int .i64 0, .int .i64 0, .int .i64 0, .nilm, .int .i64 0, .int .i64 0, .int .i64 0, .bool false, .int .i64 0, .int .i64 0, .str [], .int .i64 0, .int .i64 0, .int .i64 0, .int .i64 0, .nilm, .int .i64 0, .int .i64 0, .int .i64 0, .bool false, .int .i64 0, .int .i64 0, .str [], .int .i64 0, .int .i64 0, .int .i64 0, .int .i64 0, .nilm, .int .i64 0, .int .i64 0, .int .i64 0, .bool false, .int .i64 0, .int .i64 0, .str [], .int .i64 0, .int .i64 0, .int .i64 0, .int .i64 0, .nilm, .int .i64 0, .int .i64 0, .int .i64 0, .bool false, .int .i64 0, .int .i64 0, .str [], .int .i64 0, .int .i64 0, .int .i64 0, .int .i64 0, .nilm, .int .i64 0, .int .i64 0, .int .i64 0, .bool false, .int .i64 0, .int .i64 0, .str [], .int .i64 0, .int .i64 0, .int .i64 0, .int .i64 0, .nilm, .int .i64 0, .int .i64 0, .int .i64 0, .bool false, .int .i64 0, .int .i64 0, .str [], .int .i64 0, .int .i64 0, .int .i64 0, .int .i64 0, .nilm, .int .i64 0, .int .i64 0, .int .i64 0, .bool false, .int .i64 0, .int .i64 0, .str [], .int .i64 0, .int .i64 0, .int .i64 0, .int .i64 0, .nilm, .int .i64 0, .int .i64 0, .int .i64 0, .bool false, .int .i64 0, .int .i64 0, .str [], .int .i64 0, .int .i64 0, .int .i64 0, .int .i64 0, .nilm, .int .i64 0, .int .i64 0, .int .i64 0, .bool false, .int .i64 0, .int .i64 0, .str [], .int .i64 0, .int .i64 0, .int .i64 0, .int .i64 0, .nilm, .int .i64 0, .int .i64 0, .int .i64 0, .bool false, .int .i64 0, .int .i64 0, .str [], .int .i64 0, .int .i64 0, .int .i64 0, .int .i64 0, .nilm, .int .i64 0, .int .i64 0, .int .i64 0], .res []⟩,
      ⟨none, none, .st (.s 13) (.s 52) 192, .none⟩,
      ⟨some 14, none, .mv (.s 53), .none⟩]
     [[], [0], [], [], [2, 3], [1, 4, 1], [5, 5], [6], [7], [7], [], [10, 8, 6, 0, 1, 2, 3, 4, 5, 6, 7, 8, 10], [9, 11, 0, 1, 2, 3, 4, 5, 6, 7, 8, 9, 10, 11]] [] [4] [45])
  (.seq (.reg [⟨some 54, none, .ld (.s 7) 192 true, .none⟩,
      ⟨some 55, none, .fa (.s 4) 1, .none⟩,
      ⟨some 56, none, .ld (.s 55) 5 true, .none⟩,
      ⟨some 57, none, .fa (.s 4) 7, .none⟩,
      ⟨some 58, none, .ld (.s 57) 2 true, .none⟩,
      ⟨some 59, none, .call 9 [.s 54, .s 56, .s 58] 2, .none⟩])
  (.seq (.reg [⟨some 60, none, .ld (.s 7) 192 true, .none⟩,
      ⟨some 61, none, .fa (.s 4) 1, .none⟩,
      ⟨some 62, none, .fa (.s 61) 0, .none⟩,
      ⟨some 63, none, .ld (.s 62) 1 false, .none⟩,
      ⟨some 64, none, .fa (.s 4) 1, .none⟩,
      ⟨some 65, none, .fa (.s 64) 1, .none⟩,
      ⟨some 66, none, .ld (.s 65) 1 false, .none⟩,
      ⟨some 67, none, .fa (.s 4) 6, .none⟩,
      ⟨some 68, none, .ld (.s 67) 1 false, .none⟩,
      ⟨some 69, none, .fa (.s 4) 7, .none⟩,
      ⟨some 70, none, .ld (.s 69) 2 true, .none⟩,
      ⟨some 71, none, .call 10 [.s 60, .s 63, .s 66, .s 68, .s 70] 2, .none⟩])
  (.seq (.reg [⟨some 72, none, .ld (.s 7) 192 true, .none⟩,
      ⟨some 73, none, .fa (.s 4) 1, .none⟩,
      ⟨some 74, none, .fa (.s 73) 0, .none⟩,
      ⟨some 75, none, .ld (.s 74) 1 false, .none⟩,
      ⟨some 76, none, .fa (.s 4) 1, .none⟩,
      ⟨some 77, none, .fa (.s 76) 1, .none⟩,
      ⟨some 78, none, .ld (.s 77) 1 false, .none⟩,
      ⟨some 79, none, .fa (.s 4) 7, .none⟩,
      ⟨some 80, none, .ld (.s 79) 2 true, .none⟩,
      ⟨some 81, none, .call 11 [.s 72, .s 75, .s 78, .s 80] 2, .none⟩])
  (.seq (.drw [⟨some 82, none, .ld (.s 7) 192 true, .none⟩,
      ⟨some 83, none, .mv (.s 8), .none⟩,
      ⟨some 84, none, .call 8 [.s 82, .s 83] 0, .none⟩,
      ⟨some 85, none, .mv (.s 84), .none⟩,
      ⟨some 86, some (85, true), .ld (.s 11) 192 true, .none⟩,
      ⟨some 87, some (85, true), .ld (.s 13) 192 true, .none⟩,
      ⟨some 88, some (85, true), .call 12 [.s 86, .s 87] 2, .none⟩,
      ⟨some 89, none, .pick (.s 85) (.s 88) (.c (.d (.bool false))), .none⟩,
      ⟨some 90, none, .mv (.s 89), .none⟩,
      ⟨some 91, some (90, true), .ld (.s 11) 192 true, .none⟩,
      ⟨some 92, some (90, true), .mv (.s 12), .none⟩,
      ⟨some 93, some (90, true), .call 8 [.s 91, .s 92] 0, .none⟩,
      ⟨some 94, none, .pick (.s 90) (.s 93) (.c (.d (.bool false))), .none⟩,
      ⟨some 95, none, .mv (.s 94), .none⟩,
      ⟨some 96, some (95, true), .ld (.s 7) 192 true, .none⟩,
      ⟨some 97, some (95, true), .ld (.s 9) 192 true, .none⟩,
      ⟨some 98, some (95, true), .call 12 [.s 96, .s 97] 2, .none⟩,
      ⟨some 99, some (95, true), .ld (.s 7) 192 true, .none⟩,
      ⟨some 100, some (95, true), .mv (.s 10), .none⟩,
      ⟨some 101, some (95, true), .call 8 [.s 99, .s 100] 0, .none⟩,
      ⟨some 102, some (95, true), .mv (.s 101), .none⟩,
      ⟨some 103, some (102, true), .ld (.s 9) 192 true, .none⟩,
      ⟨some 104, some (102, true), .mv (.s 8), .none⟩,
      ⟨some 105, some (102, true), .call 8 [.s 103, .s 104] 0, .none⟩,
      ⟨some 106, some (95, true), .pick (.s 102) (.s 105) (.c (.d (.bool false))), .none⟩,
      ⟨some 107, some (95, true), .beq false (.s 98) (.s 106), .none⟩,
      ⟨some 108, none, .pick (.s 95) (.s 107) (.c (.d (.bool false))), .none⟩,
      ⟨some 109, none, .mv (.s 108), .none⟩,
      ⟨some 110, some (109, true), .ld (.s 7) 192 true, .none⟩,
      ⟨some 111, some (109, true), .ld (.s 7) 192 true, .none⟩,
      ⟨some 112, some (109, true), .call 12 [.s 110, .s 111] 2, .none⟩,
      ⟨some 113, none, .pick (.s 109) (.s 112) (.c (.d (.bool false))), .none⟩,
      ⟨some 6, none, .mv (.s 113), .none⟩]
     [[], [], [0, 1], [2, 2], [3], [3], [4, 5, 3, 3], [3, 6], [7, 6], [8], [8], [9, 10, 8, 8], [8, 11], [12, 11], [13], [13], [14, 15, 13, 13], [13], [13], [17, 18, 16, 13], [19, 19, 13], [20], [20], [21, 22, 20, 20], [20, 23, 13], [16, 24, 13], [13, 25], [26, 23], [27], [27], [28, 29, 27, 27], [27, 30], [31, 30, 0, 1, 2, 3, 4, 5, 6, 7, 8, 9, 10, 11, 12, 13, 14, 15, 16, 17, 18, 19, 20, 21, 22, 23, 24, 25, 26, 27, 28, 29, 30, 31]] [])
  (.ret none))))))))))))
def ir4 : F := { n := 114, res := [.tmp 6], body := bd4 }
@[go_sem] theorem n4 : ir4.n = 114 := rfl
@[go_sem] theorem r4 : ir4.res = [.tmp 6] := rfl
@[go_sem] theorem b4 : ir4.body = bd4 := rfl
/-- spence/spencelaw19.awake -/
def bd5 : C :=
  (.seq (.reg [⟨some 0, none, .mv (.c (.d (.bool false))), .none⟩])
  (.seq (.reg [⟨some 6, none, .call 13 [] 2, .none⟩,
      ⟨some 7, none, .build [.int .i64 0, .int .i64 0, .str [], .int .i64 0, .int .i64 0] [(0, (1, .c (.d (.int .i64 1)))), (1, (1, .c (.d (.int .i64 2))))], .none⟩,
      ⟨some 8, none, .call 14 [.s 6, .s 7] 2, .none⟩,
      ⟨some 1, none, .alloc 33 [.bool false, .int .i64 0, .int .i64 0, .str [], .int .i64 0, .int .i64 0, .int .i64 0, .int .i64 0, .nilm, .int .i64 0, .int .i64 0, .int .i64 0, .bool false, .int .i64 0, .int .i64 0, .str [], .int .i64 0, .int .i64 0, .int .i64 0, .int .i64 0, .nilm, .int .i64 0, .int .i64 0, .int .i64 0, .bool false, .int .i64 0, .int .i64 0, .str [], .int .i64 0, .int .i64 0, .int .i64 0, .int .i64 0, .nilm, .int .i64 0, .int .i64 0, .int .i64 0, .bool false, .int .i64 0, .int .i64 0, .str [], .int .i64 0, .int .i64 0, .int .i64 0, .int .i64 0, .nilm, .int .i64 0, .int .i64 0, .int .i64 0, .bool false, .int .i64 0, .int .i64 0, .str [], .int .i64 0, .int .i64 0, .int .i64 0, .int .i64 0, .nilm, .int .i64 0, .int .i64 0, .int .i64 0, .bool false, .int .i64 0, .int .i64 0, .str [], .int .i64 0, .int .i64 0, .int .i64 0, .int .i64 0, .nilm, .int .i64 0, .int .i64 0, .int .i64 0, .bool false, .int .i64 0, .int .i64 0, .str [], .int .i64 0, .int .i64 0, .int .i64 0, .int .i64 0, .nilm, .int .i64 0, .int .i64 0, .int .i64 0, .bool false, .int .i64 0, .int .i64 0, .str [], .int .i64 0, .int .i64 0, .int .i64 0, .int .i64 0, .nilm, .int .i64 0, .int .i64 0, .int .i64 0, .bool false, .int .i64 0, .int .i64 0, .str [], .int .i64 0, .int .i64 0, .int .i64 0, .int .i64 0, .nilm, .int .i64 0, .int .i64 0, .int .i64 0, .bool false, .int .i64 0, .int .i64 0, .str [], .int .i64 0, .int .i64 0, .int .i64 0, .int .i64 0, .nilm, .int .i64 0, .int .i64 0, .int .i64 0, .bool false, .int .i64 0, .int .i64 0, .str [], .int .i64 0, .int .i64 0, .int .i64 0, .int .i64 0, .nilm, .int .i64 0, .int .i64 0, .int .i64 0, .bool false, .int .i64 0, .int .i64 0, .str [], .int .i64 0, .int .i64 0, .int .i64 0, .int .i64 0, .nilm, .int .i64 0, .int .i64 0, .int .i64 0, .bool false, .int .i64 0, .int .i64 0, .str [], .int .i64 0, .int .i64 0, .int .i64 0, .int .i64 0, .nilm, .int .i64 0, .int .i64 0, .int .i64 0, .bool false, .int .i64 0, .int .i64 0, .str [], .int .i64 0, .int .i64 0, .int .i64 0, .int .i64 0, .nilm, .int .i64 0, .int .i64 0, .int .i64 0, .bool false, .int .i64 0, .int .i64 0, .str [], .int .i64 0, .int .i64 0, .int .i64 0, .int .i64 0, .nilm, .int .i64 0, .int .i64 0, .int .i64 0, .bool false, .int .i64 0, .int .i64 0, .str [], .int .i64 0, .int .i64 0, .int .i64 0, .int .i64 0, .nilm, .int .i64 0, .int .i64 0, .int .i64 0], .none⟩,
      ⟨none, none, .st (.s 1) (.s 8) 192, .none⟩])
  (.seq (.reg [⟨some 10, none, .ld (.s 1) 192 true, .none⟩,
      ⟨some 11, none, .call 15 [.s 10, .c (.d (.int .i64 1))] 2, .none⟩,
      ⟨some 9, none, .mv (.s 11), .none⟩,
      ⟨some 12, none, .ext (.s 9) 0, .none⟩,
      ⟨some 13, none, .ext (.s 9) 1, .none⟩,
      ⟨some 2, none, .alloc 25 [.int .i64 0, .int .i64 0, .str [], .int .i64 0, .int .i64 0], .none⟩,
      ⟨none, none, .st (.s 2) (.s 12) 5, .none⟩,
      ⟨some 3, none, .mv (.s 13), .none⟩])
  (.seq (.reg [⟨some 15, none, .ld (.s 1) 192 true, .none⟩,
      ⟨some 16, none, .call 16 [.s 15, .c (.d (.int .i64 1)), .c (.d (.int .i64 2))] 2, .none⟩,
      ⟨some 17, none, .call 15 [.s 16, .c (.d (.int .i64 1))] 2, .none⟩,
      ⟨some 14, none, .mv (.s 17), .none⟩,
      ⟨some 18, none, .ext (.s 14) 0, .none⟩,
      ⟨some 19, none, .ext (.s 14) 1, .none⟩,
      ⟨some 4, none, .alloc 25 [.int .i64 0, .int .i64 0, .str [], .int .i64 0, .int .i64 0], .none⟩,
      ⟨none, none, .st (.s 4) (.s 18) 5, .none⟩,
      ⟨some 5, none, .mv (.s 19), .none⟩])
  (.seq (.reg [⟨some 20, none, .mv (.s 3), .none⟩,
      ⟨some 21, none, .mv (.s 20), .none⟩,
      ⟨some 22, some (21, true), .mv (.s 5), .none⟩,
      ⟨some 23, some (21, true), .un .not (.s 22), .none⟩,
      ⟨some 24, none, .pick (.s 21) (.s 23) (.c (.d (.bool false))), .none⟩,
      ⟨some 25, none, .mv (.s 24), .none⟩,
      ⟨some 26, some (25, true), .ld (.s 1) 192 true, .none⟩,
      ⟨some 27, some (25, true), .call 16 [.s 26, .c (.d (.int .i64 1)), .c (.d (.int .i64 2))] 2, .none⟩,
      ⟨some 28, some (25, true), .call 17 [.s 27, .c (.d (.int .i64 1))] 2, .none⟩,
      ⟨some 29, some (25, true), .bin .eql (.s 28) (.c (.d (.int .i64 2))), .none⟩,
      ⟨some 30, none, .pick (.s 25) (.s 29) (.c (.d (.bool false))), .none⟩,
      ⟨some 0, none, .mv (.s 30), .none⟩])
  (.ret none))))))
def ir5 : F := { n := 31, res := [.tmp 0], body := bd5 }
@[go_sem] theorem n5 : ir5.n = 31 := rfl
@[go_sem] theorem r5 : ir5.res = [.tmp 0] := rfl
@[go_sem] theorem b5 : ir5.body = bd5 := rfl
def lb6_0 : C :=
  (.seq (.reg [⟨some 15, none, .bin .lss (.s 14) (.s 13), .none⟩])
  (.seq (.cond (.s 15)
    .skip
    (.exit 0 (some [2, 4, 5])))
  (.seq (.block 1 (.seq (.reg [⟨some 16, none, .is (.s 12) (.s 14) 9, .none⟩,
        ⟨some 17, none, .ld (.s 16) 9 true, .none⟩,
        ⟨some 7, none, .alloc 50 [.int .i64 0, .int .i64 0, .int .i64 0, .str [], .int .i64 0, .int .i64 0, .int .i64 0, .int .i64 0, .int .i64 0], .none⟩,
        ⟨none, none, .st (.s 7) (.s 17) 9, .none⟩])
    (.seq (.reg [⟨some 18, none, .fa (.s 7) 1, .none⟩,
        ⟨some 19, none, .ld (.s 18) 5 true, .none⟩,
        ⟨some 8, none, .alloc 25 [.int .i64 0, .int .i64 0, .str [], .int .i64 0, .int .i64 0], .none⟩,
        ⟨none, none, .st (.s 8) (.s 19) 5, .none⟩])
    (.seq (.reg [⟨some 20, none, .fa (.s 7) 0, .none⟩,
        ⟨some 21, none, .ld (.s 20) 1 false, .none⟩])
    (.block 2 (.seq (.reg [⟨some 33, none, .bin .eql (.s 21) (.c (.d (.int .i64 1))), .none⟩,
         ⟨some 32, none, .mv (.s 33), .none⟩])
     (.cond (.s 32)
      (.seq (.reg [⟨some 34, none, .ld (.s 4) 192 true, .none⟩,
          ⟨some 35, none, .fa (.s 8) 0, .none⟩,
          ⟨some 36, none, .ld (.s 35) 1 false, .none⟩,
          ⟨some 37, none, .fa (.s 8) 1, .none⟩,
          ⟨some 38, none, .ld (.s 37) 1 false, .none⟩,
          ⟨some 39, none, .fa (.s 7) 6, .none⟩,
          ⟨some 40, none, .ld (.s 39) 1 false, .none⟩,
          ⟨some 41, none, .fa (.s 7) 7, .none⟩,
          ⟨some 42, none, .ld (.s 41) 2 true, .none⟩,
          ⟨some 43, none, .call 10 [.s 34, .s 36, .s 38, .s 40, .s 42] 2, .none⟩,
          ⟨none, none, .st (.s 4) (.s 43) 192, .none⟩])
      (.reg [⟨some 44, none, .mv (.s 5), .none⟩,
         ⟨some 45, none, .fa (.s 8) 0, .none⟩,
         ⟨some 46, none, .ld (.s 45) 1 false, .none⟩,
         ⟨some 47, none, .fa (.s 8) 1, .none⟩,
         ⟨some 48, none, .ld (.s 47) 1 false, .none⟩,
         ⟨some 49, none, .fa (.s 7) 6, .none⟩,
         ⟨some 50, none, .ld (.s 49) 1 false, .none⟩,
         ⟨some 51, none, .fa (.s 7) 7, .none⟩,
         ⟨some 52, none, .ld (.s 51) 2 true, .none⟩,
         ⟨some 53, none, .call 18 [.s 44, .s 46, .s 48, .s 50, .s 52] 0, .none⟩]))
      (.seq (.reg [⟨some 55, none, .bin .eql (.s 21) (.c (.d (.int .i64 2))), .none⟩,
          ⟨some 54, none, .mv (.s 55), .none⟩])
      (.cond (.s 54)
       (.seq (.reg [⟨some 56, none, .ld (.s 4) 192 true, .none⟩,
           ⟨some 57, none, .fa (.s 8) 0, .none⟩,
           ⟨some 58, none, .ld (.s 57) 1 false, .none⟩,
           ⟨some 59, none, .fa (.s 8) 1, .none⟩,
           ⟨some 60, none, .ld (.s 59) 1 false, .none⟩,
           ⟨some 61, none, .fa (.s 7) 7, .none⟩,
           ⟨some 62, none, .ld (.s 61) 2 true, .none⟩,
           ⟨some 63, none, .call 11 [.s 56, .s 58, .s 60, .s 62] 2, .none⟩,
           ⟨none, none, .st (.s 4) (.s 63) 192, .none⟩])
       (.reg [⟨some 64, none, .mv (.s 5), .none⟩,
          ⟨some 65, none, .fa (.s 8) 0, .none⟩,
          ⟨some 66, none, .ld (.s 65) 1 false, .none⟩,
          ⟨some 67, none, .fa (.s 8) 1, .none⟩,
          ⟨some 68, none, .ld (.s 67) 1 false, .none⟩,
          ⟨some 69, none, .fa (.s 7) 7, .none⟩,
          ⟨some 70, none, .ld (.s 69) 2 true, .none⟩,
          ⟨some 71, none, .call 19 [.s 64, .s 66, .s 68, .s 70] 0, .none⟩]))
       (.seq (.reg [⟨some 22, none, .ld (.s 4) 192 true, .none⟩,
           ⟨some 23, none, .ld (.s 8) 5 true, .none⟩,
           ⟨some 24, none, .fa (.s 7) 7, .none⟩,
           ⟨some 25, none, .ld (.s 24) 2 true, .none⟩,
           ⟨some 26, none, .call 9 [.s 22, .s 23, .s 25] 2, .none⟩,
           ⟨none, none, .st (.s 4) (.s 26) 192, .none⟩])
       (.reg [⟨some 27, none, .mv (.s 5), .none⟩,
          ⟨some 28, none, .ld (.s 8) 5 true, .none⟩,
          ⟨some 29, none, .fa (.s 7) 7, .none⟩,
          ⟨some 30, none, .ld (.s 29) 2 true, .none⟩,
          ⟨some 31, none, .call 20 [.s 27, .s 28, .s 30] 0, .none⟩])))))))))))
  (.reg [⟨some 72, none, .bin .add (.s 14) (.c (.d (.int .i64 1))), .none⟩,
     ⟨some 14, none, .mv (.s 72), .none⟩]))))
def lp6_0 : C := lb6_0
theorem u6_0 (c : Ev.Callee) (l : Ev.Looper) (s : St) : evC c l lp6_0 s = evC c l lb6_0 s := rfl
abbrev st6_0 (m : Nat) (s2 s4 s5 s12 s13 s14 : AV) (h : Heap) : St := ⟨m, [.unk, .unk, s2, .unk, s4, s5, .unk, .unk, .unk, .unk, .unk, .unk, s12, s13, s14, .unk, .unk, .unk, .unk, .unk, .unk, .unk, .unk, .unk, .unk, .unk, .unk, .unk, .unk, .unk, .unk, .unk, .unk, .unk, .unk, .unk, .unk, .unk, .unk, .unk, .unk, .unk, .unk, .unk, .unk, .unk, .unk, .unk, .unk, .unk, .unk, .unk, .unk, .unk, .unk, .unk, .unk, .unk, .unk, .unk, .unk, .unk, .unk, .unk, .unk, .unk, .unk, .unk, .unk, .unk, .unk, .unk, .unk, .unk, .unk], h⟩
@[go_sem] theorem ks6_0 (v0 v1 v2 v3 v4 v5 v6 v7 v8 v9 v10 v11 v12 v13 v14 v15 v16 v17 v18 v19 v20 v21 v22 v23 v24 v25 v26 v27 v28 v29 v30 v31 v32 v33 v34 v35 v36 v37 v38 v39 v40 v41 v42 v43 v44 v45 v46 v47 v48 v49 v50 v51 v52 v53 v54 v55 v56 v57 v58 v59 v60 v61 v62 v63 v64 v65 v66 v67 v68 v69 v70 v71 v72 v73 v74 : AV) : keepS [2, 4, 5, 12, 13, 14] [v0, v1, v2, v3, v4, v5, v6, v7, v8, v9, v10, v11, v12, v13, v14, v15, v16, v17, v18, v19, v20, v21, v22, v23, v24, v25, v26, v27, v28, v29, v30, v31, v32, v33, v34, v35, v36, v37, v38, v39, v40, v41, v42, v43, v44, v45, v46, v47, v48, v49, v50, v51, v52, v53, v54, v55, v56, v57, v58, v59, v60, v61, v62, v63, v64, v65, v66, v67, v68, v69, v70, v71, v72, v73, v74] 0 = [.unk, .unk, v2, .unk, v4, v5, .unk, .unk, .unk, .unk, .unk, .unk, v12, v13, v14, .unk, .unk, .unk, .unk, .unk, .unk, .unk, .unk, .unk, .unk, .unk, .unk, .unk, .unk, .unk, .unk, .unk, .unk, .unk, .unk, .unk, .unk, .unk, .unk, .unk, .unk, .unk, .unk, .unk, .unk, .unk, .unk, .unk, .unk, .unk, .unk, .unk, .unk, .unk, .unk, .unk, .unk, .unk, .unk, .unk, .unk, .unk, .unk, .unk, .unk, .unk, .unk, .unk, .unk, .unk, .unk, .unk, .unk, .unk, .unk] := rfl
@[go_sem] theorem ks6_1 (v0 v1 v2 v3 v4 v5 v6 v7 v8 v9 v10 v11 v12 v13 v14 v15 v16 v17 v18 v19 v20 v21 v22 v23 v24 v25 v26 v27 v28 v29 v30 v31 v32 v33 v34 v35 v36 v37 v38 v39 v40 v41 v42 v43 v44 v45 v46 v47 v48 v49 v50 v51 v52 v53 v54 v55 v56 v57 v58 v59 v60 v61 v62 v63 v64 v65 v66 v67 v68 v69 v70 v71 v72 v73 v74 : AV) : keepS [2, 4, 5] [v0, v1, v2, v3, v4, v5, v6, v7, v8, v9, v10, v11, v12, v13, v14, v15, v16, v17, v18, v19, v20, v21, v22, v23, v24, v25, v26, v27, v28, v29, v30, v31, v32, v33, v34, v35, v36, v37, v38, v39, v40, v41, v42, v43, v44, v45, v46, v47, v48, v49, v50, v51, v52, v53, v54, v55, v56, v57, v58, v59, v60, v61, v62, v63, v64, v65, v66, v67, v68, v69, v70, v71, v72, v73, v74] 0 = [.unk, .unk, v2, .unk, v4, v5, .unk, .unk, .unk, .unk, .unk, .unk, .unk, .unk, .unk, .unk, .unk, .unk, .unk, .unk, .unk, .unk, .unk, .unk, .unk, .unk, .unk, .unk, .unk, .unk, .unk, .unk, .unk, .unk, .unk, .unk, .unk, .unk, .unk, .unk, .unk, .unk, .unk, .unk, .unk, .unk, .unk, .unk, .unk, .unk, .unk, .unk, .unk, .unk, .unk, .unk, .unk, .unk, .unk, .unk, .unk, .unk, .unk, .unk, .unk, .unk, .unk, .unk, .unk, .unk, .unk, .unk, .unk, .unk, .unk] := rfl
/-- spence/spencelaw19.Made -/
def bd6 : C :=
  (.seq (.reg [⟨some 2, none, .alloc 33 [.bool false, .int .i64 0, .int .i64 0, .str [], .int .i64 0, .int .i64 0, .int .i64 0, .int .i64 0, .nilm, .int .i64 0, .int .i64 0, .int .i64 0, .bool false, .int .i64 0, .int .i64 0, .str [], .int .i64 0, .int .i64 0, .int .i64 0, .int .i64 0, .nilm, .int .i64 0, .int .i64 0, .int .i64 0, .bool false, .int .i64 0, .int .i64 0, .str [], .int .i64 0, .int .i64 0, .int .i64 0, .int .i64 0, .nilm, .int .i64 0, .int .i64 0, .int .i64 0, .bool false, .int .i64 0, .int .i64 0, .str [], .int .i64 0, .int .i64 0, .int .i64 0, .int .i64 0, .nilm, .int .i64 0, .int .i64 0, .int .i64 0, .bool false, .int .i64 0, .int .i64 0, .str [], .int .i64 0, .int .i64 0, .int .i64 0, .int .i64 0, .nilm, .int .i64 0, .int .i64 0, .int .i64 0, .bool false, .int .i64 0, .int .i64 0, .str [], .int .i64 0, .int .i64 0, .int .i64 0, .int .i64 0, .nilm, .int .i64 0, .int .i64 0, .int .i64 0, .bool false, .int .i64 0, .int .i64 0, .str [], .int .i64 0, .int .i64 0, .int .i64 0, .int .i64 0, .nilm, .int .i64 0, .int .i64 0, .int .i64 0, .bool false, .int .i64 0, .int .i64 0, .str [], .int .i64 0, .int .i64 0, .int .i64 0, .int .i64 0, .nilm, .int .i64 0, .int .i64 0, .int .i64 0, .bool false, .int .i64 0, .int .i64 0, .str [], .int .i64 0, .int .i64 0, .int .i64 0, .int .i64 0, .nilm, .int .i64 0, .int .i64 0, .int .i64 0, .bool false, .int .i64 0, .int .i64 0, .str [], .int .i64 0, .int .i64 0, .int .i64 0, .int .i64 0, .nilm, .int .i64 0, .int .i64 0, .int .i64 0, .bool false, .int .i64 0, .int .i64 0, .str [], .int .i64 0, .int .i64 0, .int .i64 0, .int .i64 0, .nilm, .int .i64 0, .int .i64 0, .int .i64 0, .bool false, .int .i64 0, .int .i64 0, .str [], .int .i64 0, .int .i64 0, .int .i64 0, .int .i64 0, .nilm, .int .i64 0, .int .i64 0, .int .i64 0, .bool false, .int .i64 0, .int .i64 0, .str [], .int .i64 0, .int .i64 0, .int .i64 0, .int .i64 0, .nilm, .int .i64 0, .int .i64 0, .int .i64 0, .bool false, .int .i64 0, .int .i64 0, .str [], .int .i64 0, .int .i64 0, .int .i64 0, .int .i64 0, .nilm, .int .i64 0, .int .i64 0, .int .i64 0, .bool false, .int .i64 0, .int .i64 0, .str [], .int .i64 0, .int .i64 0, .int .i64 0, .int .i64 0, .nilm, .int .i64 0, .int .i64 0, .int .i64 0, .bool false, .int .i64 0, .int .i64 0, .str [], .int .i64 0, .int .i64 0, .int .i64 0, .int .i64 0, .nilm, .int .i64 0, .int .i64 0, .int .i64 0], .none⟩,
      ⟨some 3, none, .mv (.c (.d .nilp)), .none⟩])
  (.seq (.reg [⟨some 9, none, .call 13 [] 2, .none⟩,
      ⟨some 10, none, .build [.bool false, .int .i64 0, .int .i64 0, .str [], .int .i64 0, .int .i64 0, .int .i64 0, .int .i64 0, .nils, .int .i64 0, .int .i64 0, .int .i64 0, .bool false, .int .i64 0, .int .i64 0, .str [], .int .i64 0, .int .i64 0, .int .i64 0, .int .i64 0, .nils, .int .i64 0, .int .i64 0, .int .i64 0, .bool false, .int .i64 0, .int .i64 0, .str [], .int .i64 0, .int .i64 0, .int .i64 0, .int .i64 0, .nils, .int .i64 0, .int .i64 0, .int .i64 0, .bool false, .int .i64 0, .int .i64 0, .str [], .int .i64 0, .int .i64 0, .int .i64 0, .int .i64 0, .nils, .int .i64 0, .int .i64 0, .int .i64 0, .bool false, .int .i64 0, .int .i64 0, .str [], .int .i64 0, .int .i64 0, .int .i64 0, .int .i64 0, .nils, .int .i64 0, .int .i64 0, .int .i64 0, .bool false, .int .i64 0, .int .i64 0, .str [], .int .i64 0, .int .i64 0, .int .i64 0, .int .i64 0, .nils, .int .i64 0, .int .i64 0, .int .i64 0, .bool false, .int .i64 0, .int .i64 0, .str [], .int .i64 0, .int .i64 0, .int .i64 0, .int .i64 0, .nils, .int .i64 0, .int .i64 0, .int .i64 0, .bool false, .int .i64 0, .int .i64 0, .str [], .int .i64 0, .int .i64 0, .int .i64 0, .int .i64 0, .nils, .int .i64 0, .int .i64 0, .int .i64 0, .bool false, .int .i64 0, .int .i64 0, .str [], .int .i64 0, .int .i64 0, .int .i64 0, .int .i64 0, .nils, .int .i64 0, .int .i64 0, .int .i64 0, .bool false, .int .i64 0, .int .i64 0, .str [], .int .i64 0, .int .i64 0, .int .i64 0, .int .i64 0, .nils, .int .i64 0, .int .i64 0, .int .i64 0, .bool false, .int .i64 0, .int .i64 0, .str [], .int .i64 0, .int .i64 0, .int .i64 0, .int .i64 0, .nils, .int .i64 0, .int .i64 0, .int .i64 0, .bool false, .int .i64 0, .int .i64 0, .str [], .int .i64 0, .int .i64 0, .int .i64 0, .int .i64 0, .nils, .int .i64 0, .int .i64 0, .int .i64 0, .bool false, .int .i64 0, .int .i64 0, .str [], .int .i64 0, .int .i64 0, .int .i64 0, .int .i64 0, .nils, .int .i64 0, .int .i64 0, .int .i64 0, .bool false, .int .i64 0, .int .i64 0, .str [], .int .i64 0, .int .i64 0, .int .i64 0, .int .i64 0, .nils, .int .i64 0, .int .i64 0, .int .i64 0, .bool false, .int .i64 0, .int .i64 0, .str [], .int .i64 0, .int .i64 0, .int .i64 0, .int .i64 0, .nils, .int .i64 0, .int .i64 0, .int .i64 0, .bool false, .int .i64 0, .int .i64 0, .str [], .int .i64 0, .int .i64 0, .int .i64 0, .int .i64 0, .nils, .int .i64 0, .int .i64 0, .int .i64 0] [], .cells [(8, 3, false), (20, 3, false), (32, 3, false), (44, 3, false), (56, 3, false), (68, 3, false), (80, 3, false), (92, 3, false), (104, 3, false), (116, 3, false), (128, 3, false), (140, 3, false), (152, 3, false), (164, 3, false), (176, 3, false), (188, 3, false)]⟩,
      ⟨some 11, none, .box 45 (.s 10), .none⟩,
      ⟨some 4, none, .alloc 33 [.bool false, .int .i64 0, .int .i64 0, .str [], .int .i64 0, .int .i64 0, .int .i64 0, .int .i64 0, .nilm, .int .i64 0, .int .i64 0, .int .i64 0, .bool false, .int .i64 0, .int .i64 0, .str [], .int .i64 0, .int .i64 0, .int .i64 0, .int .i64 0, .nilm, .int .i64 0, .int .i64 0, .int .i64 0, .bool false, .int .i64 0, .int .i64 0, .str [], .int .i64 0, .int .i64 0, .int .i64 0, .int .i64 0, .nilm, .int .i64 0, .int .i64 0, .int .i64 0, .bool false, .int .i64 0, .int .i64 0, .str [], .int .i64 0, .int .i64 0, .int .i64 0, .int .i64 0, .nilm, .int .i64 0, .int .i64 0, .int .i64 0, .bool false, .int .i64 0, .int .i64 0, .str [], .int .i64 0, .int .i64 0, .int .i64 0, .int .i64 0, .nilm, .int .i64 0, .int .i64 0, .int .i64 0, .bool false, .int .i64 0, .int .i64 0, .str [], .int .i64 0, .int .i64 0, .int .i64 0, .int .i64 0, .nilm, .int .i64 0, .int .i64 0, .int .i64 0, .bool false, .int .i64 0, .int .i64 0, .str [], .int .i64 0, .int .i64 0, .int .i64 0, .int .i64 0, .nilm, .int .i64 0, .int .i64 0, .int .i64 0, .bool false, .int .i64 0, .int .i64 0, .str [], .int .i64 0, .int .i64 0, .int .i64 0, .int .i64 0, .nilm, .int .i64 0, .int .i64 0, .int .i64 0, .bool false, .int .i64 0, .int .i64 0, .str [], .int .i64 0, .int .i64 0, .int .i64 0, .int .i64 0, .nilm, .int .i64 0, .int .i64 0, .int .i64 0, .bool false, .int .i64 0, .int .i64 0, .str [], .int .i64 0, .int .i64 0, .int .i64 0, .int .i64 0, .nilm, .int .i64 0, .int .i64 0, .int .i64 0, .bool false, .int .i64 0, .int .i64 0, .str [], .int .i64 0, .int .i64 0, .int .i64 0, .int .i64 0, .nilm, .int .i64 0, .int .i64 0, .int .i64 0, .bool false, .int .i64 0, .int .i64 0, .str [], .int .i64 0, .int .i64 0, .int .i64 0, .int .i64 0, .nilm, .int .i64 0, .int .i64 0, .int .i64 0, .bool false, .int .i64 0, .int .i64 0, .str [], .int .i64 0, .int .i64 0, .int .i64 0, .int .i64 0, .nilm, .int .i64 0, .int .i64 0, .int .i64 0, .bool false, .int .i64 0, .int .i64 0, .str [], .int .i64 0, .int .i64 0, .int .i64 0, .int .i64 0, .nilm, .int .i64 0, .int .i64 0, .int .i64 0, .bool false, .int .i64 0, .int .i64 0, .str [], .int .i64 0, .int .i64 0, .int .i64 0, .int .i64 0, .nilm, .int .i64 0, .int .i64 0, .int .i64 0, .bool false, .int .i64 0, .int .i64 0, .str [], .int .i64 0, .int .i64 0, .int .i64 0, .int .i64 0, .nilm, .int .i64 0, .int .i64 0, .int .i64 0], .none⟩,
      ⟨none, none, .st (.s 4) (.s 9) 192, .none⟩,
      ⟨some 5, none, .mv (.s 11), .none⟩])
  (.seq (.seq (.reg [⟨some 12, none, .mv (.s 0), .none⟩,
       ⟨some 13, none, .len (.s 12), .none⟩,
       ⟨some 14, none, .mv (.c (.d (.int .i64 0))), .none⟩])
   (.block 0 (.loop [2, 4, 5, 12, 13, 14] lp6_0)))
  (.seq (.reg [⟨some 73, none, .ld (.s 4) 192 true, .none⟩,
      ⟨some 74, none, .mv (.s 5), .none⟩,
      ⟨none, none, .st (.s 2) (.s 73) 192, .none⟩,
      ⟨some 3, none, .mv (.s 74), .none⟩])
  (.ret none)))))
def ir6 : F := { n := 75, res := [.cell 2 192 true, .tmp 3], body := bd6 }
@[go_sem] theorem n6 : ir6.n = 75 := rfl
@[go_sem] theorem r6 : ir6.res = [.cell 2 192 true, .tmp 3] := rfl
@[go_sem] theorem b6 : ir6.body = bd6 := rfl
/-- (spence/index.Index).At -/
def bd7 : C :=
  (.seq (.reg [⟨some 3, none, .box 33 (.s 0), .none⟩,
      ⟨some 6, none, .alloc 27 [.int .i64 0, .int .i64 0], .none⟩,
      ⟨some 7, none, .mv (.c (.d (.bool false))), .none⟩])
  (.seq (.reg [⟨some 11, none, .ld (.s 3) 192 true, .none⟩,
      ⟨some 12, none, .mv (.s 1), .none⟩,
      ⟨some 13, none, .call 21 [.s 11, .s 12] 2, .none⟩,
      ⟨some 14, none, .fld (.s 13) 8 1 false, .none⟩,
      ⟨some 15, none, .mv (.s 2), .none⟩,
      ⟨some 16, none, .mget (.s 14) (.s 15) (.agg [.d (.int .i64 0), .d (.int .i64 0)]) true, .none⟩,
      ⟨some 10, none, .mv (.s 16), .none⟩,
      ⟨some 17, none, .ext (.s 10) 0, .none⟩,
      ⟨some 18, none, .ext (.s 10) 1, .none⟩,
      ⟨some 8, none, .alloc 27 [.int .i64 0, .int .i64 0], .none⟩,
      ⟨none, none, .st (.s 8) (.s 17) 2, .none⟩,
      ⟨some 9, none, .mv (.s 18), .none⟩])
  (.seq (.reg [⟨some 19, none, .ld (.s 8) 2 true, .none⟩,
      ⟨some 20, none, .mv (.s 9), .none⟩,
      ⟨none, none, .st (.s 6) (.s 19) 2, .none⟩,
      ⟨some 7, none, .mv (.s 20), .none⟩])
  (.ret none))))
def ir7 : F := { n := 21, res := [.cell 6 2 true, .tmp 7], body := bd7 }
@[go_sem] theorem n7 : ir7.n = 21 := rfl
@[go_sem] theorem r7 : ir7.res = [.cell 6 2 true, .tmp 7] := rfl
@[go_sem] theorem b7 : ir7.body = bd7 := rfl
def lb8_1 : C :=
  (.seq (.reg [⟨some 134, none, .bin .lss (.s 133) (.s 132), .none⟩])
  (.seq (.cond (.s 134)
    .skip
    (.exit 2 (some [1, 2, 5, 6, 15])))
  (.seq (.block 3 (.seq (.reg [⟨some 135, none, .mv (.s 133), .none⟩,
        ⟨some 136, none, .is (.s 131) (.s 133) 3, .none⟩,
        ⟨some 137, none, .ld (.s 136) 3 true, .none⟩,
        ⟨some 18, none, .alloc 47 [.int .i64 0, .int .i64 0, .int .i64 0], .none⟩,
        ⟨some 17, none, .mv (.s 135), .none⟩,
        ⟨none, none, .st (.s 18) (.s 137) 3, .none⟩])
    (.seq (.reg [⟨some 138, none, .mv (.s 15), .none⟩,
        ⟨some 139, none, .fa (.s 18) 0, .none⟩,
        ⟨some 140, none, .ld (.s 139) 1 false, .none⟩,
        ⟨some 141, none, .bsl 3 1 1 [.int .i64 0] [(0, (1, .s 140))], .none⟩,
        ⟨some 142, none, .app 3 1 8 (.s 138) (.s 141), .none⟩,
        ⟨some 15, none, .mv (.s 142), .none⟩])
    (.seq (.reg [⟨some 144, none, .ld (.s 2) 192 true, .none⟩,
        ⟨some 145, none, .mv (.s 6), .none⟩,
        ⟨some 146, none, .fa (.s 18) 0, .none⟩,
        ⟨some 147, none, .ld (.s 146) 1 false, .none⟩,
        ⟨some 148, none, .call 7 [.s 144, .s 145, .s 147] 2, .none⟩,
        ⟨some 143, none, .mv (.s 148), .none⟩,
        ⟨some 149, none, .ext (.s 143) 0, .none⟩,
        ⟨some 150, none, .ext (.s 143) 1, .none⟩,
        ⟨some 19, none, .alloc 27 [.int .i64 0, .int .i64 0], .none⟩,
        ⟨none, none, .st (.s 19) (.s 149) 2, .none⟩,
        ⟨some 20, none, .mv (.s 150), .none⟩])
    (.seq (.drw [⟨some 151, none, .mv (.s 20), .none⟩,
        ⟨some 152, none, .un .not (.s 151), .none⟩,
        ⟨some 153, none, .mv (.s 152), .none⟩,
        ⟨some 154, some (153, false), .ld (.s 19) 2 true, .none⟩,
        ⟨some 155, some (153, false), .fa (.s 18) 1, .none⟩,
        ⟨some 156, some (153, false), .ld (.s 155) 2 true, .none⟩,
        ⟨some 157, some (153, false), .eqs true [1, 1] (.s 154) (.s 156), .none⟩,
        ⟨some 158, none, .pick (.s 153) (.c (.d (.bool true))) (.s 157), .none⟩,
        ⟨some 159, none, .mv (.s 158), .none⟩,
        ⟨some 160, some (159, false), .mv (.s 16), .none⟩,
        ⟨some 161, some (159, false), .mv (.s 17), .none⟩,
        ⟨some 162, some (159, false), .is (.s 160) (.s 161) 2, .none⟩,
        ⟨some 163, some (159, false), .ld (.s 162) 2 true, .none⟩,
        ⟨some 164, some (159, false), .fa (.s 18) 1, .none⟩,
        ⟨some 165, some (159, false), .ld (.s 164) 2 true, .none⟩,
        ⟨some 166, some (159, false), .eqs true [1, 1] (.s 163) (.s 165), .none⟩,
        ⟨some 167, none, .pick (.s 159) (.c (.d (.bool true))) (.s 166), .none⟩]
       [[], [0], [1], [2], [2], [4, 2], [3, 5, 2], [2, 6], [7, 2], [8], [8], [9, 10, 8], [11, 8], [8], [13, 8], [12, 14, 8], [8, 15]] [])
    (.cond (.s 167)
     (.seq (.reg [⟨some 4, none, .mv (.c (.d (.bool false))), .none⟩])
     (.ret (some [4])))
     .skip))))))
  (.reg [⟨some 168, none, .bin .add (.s 133) (.c (.d (.int .i64 1))), .none⟩,
     ⟨some 133, none, .mv (.s 168), .none⟩]))))
def lp8_1 : C := lb8_1
theorem u8_1 (c : Ev.Callee) (l : Ev.Looper) (s : St) : evC c l lp8_1 s = evC c l lb8_1 s := rfl
abbrev st8_1 (m : Nat) (s1 s2 s5 s6 s15 s16 s131 s132 s133 : AV) (h : Heap) : St := ⟨m, [.unk, s1, s2, .unk, .unk, s5, s6, .unk, .unk, .unk, .unk, .unk, .unk, .unk, .unk, s15, s16, .unk, .unk, .unk, .unk, .unk, .unk, .unk, .unk, .unk, .unk, .unk, .unk, .unk, .unk, .unk, .unk, .unk, .unk, .unk, .unk, .unk, .unk, .unk, .unk, .unk, .unk, .unk, .unk, .unk, .unk, .unk, .unk, .unk, .unk, .unk, .unk, .unk, .unk, .unk, .unk, .unk, .unk, .unk, .unk, .unk, .unk, .unk, .unk, .unk, .unk, .unk, .unk, .unk, .unk, .unk, .unk, .unk, .unk, .unk, .unk, .unk, .unk, .unk, .unk, .unk, .unk, .unk, .unk, .unk, .unk, .unk, .unk, .unk, .unk, .unk, .unk, .unk, .unk, .unk, .unk, .unk, .unk, .unk, .unk, .unk, .unk, .unk, .unk, .unk, .unk, .unk, .unk, .unk, .unk, .unk, .unk, .unk, .unk, .unk, .unk, .unk, .unk, .unk, .unk, .unk, .unk, .unk, .unk, .unk, .unk, .unk, .unk, .unk, .unk, s131, s132, s133, .unk, .unk, .unk, .unk, .unk, .unk, .unk, .unk, .unk, .unk, .unk, .unk, .unk, .unk, .unk, .unk, .unk, .unk, .unk, .unk, .unk, .unk, .unk, .unk, .unk, .unk, .unk, .unk, .unk, .unk, .unk, .unk, .unk, .unk, .unk, .unk, .unk, .unk, .unk, .unk, .unk, .unk, .unk, .unk, .unk, .unk], h⟩
def lb8_0 : C :=
  (.seq (.seq (.reg [⟨some 21, none, .mv (.s 6), .none⟩,
       ⟨some 22, none, .bin .leq (.s 21) (.c (.d (.int .i64 16))), .none⟩])
   (.cond (.s 22)
    .skip
    (.exit 0 (some [2, 5]))))
  (.seq (.block 1 (.seq (.reg [⟨some 7, none, .alloc 42 [.bool false, .int .i64 0, .int .i64 0, .str [], .int .i64 0, .int .i64 0, .int .i64 0, .int .i64 0, .nils, .int .i64 0, .int .i64 0, .int .i64 0], .cells [(8, 3, false)]⟩])
    (.seq (.seq (.reg [⟨some 25, none, .mv (.s 6), .none⟩,
         ⟨some 26, none, .bin .geq (.s 25) (.c (.d (.int .i64 0))), .none⟩,
         ⟨some 27, none, .mv (.s 26), .none⟩,
         ⟨some 28, some (27, true), .mv (.s 6), .none⟩,
         ⟨some 29, some (27, true), .bin .lss (.s 28) (.c (.d (.int .i64 16))), .none⟩,
         ⟨some 30, none, .pick (.s 27) (.s 29) (.c (.d (.bool false))), .none⟩])
     (.cond (.s 30)
      (.reg [⟨some 31, none, .mv (.s 1), .none⟩,
         ⟨some 32, none, .mv (.s 6), .none⟩,
         ⟨some 33, none, .nc (.s 31), .none⟩,
         ⟨some 34, none, .fa (.s 33) 0, .none⟩,
         ⟨some 35, none, .ia (.s 34) (.s 32) 16 12, .none⟩,
         ⟨some 36, none, .ld (.s 35) 12 true, .none⟩,
         ⟨none, none, .st (.s 7) (.s 36) 12, .none⟩])
      .skip))
    (.ann [1, 2, 5, 6, 7] (.seq (.seq (.reg [⟨some 37, none, .fa (.s 7) 0, .none⟩,
         ⟨some 38, none, .ld (.s 37) 1 false, .none⟩])
     (.cond (.s 38)
      (.reg [⟨some 39, none, .mv (.s 5), .none⟩,
         ⟨some 40, none, .mv (.s 6), .none⟩,
         ⟨some 41, none, .bsl 3 1 1 [.int .i64 0] [(0, (1, .s 40))], .none⟩,
         ⟨some 42, none, .app 3 1 8 (.s 39) (.s 41), .none⟩,
         ⟨some 5, none, .mv (.s 42), .none⟩])
      .skip))
    (.ann [1, 2, 5, 6, 7] (.seq (.reg [⟨some 44, none, .ld (.s 2) 192 true, .none⟩,
        ⟨some 45, none, .mv (.s 6), .none⟩,
        ⟨some 46, none, .call 15 [.s 44, .s 45] 2, .none⟩,
        ⟨some 43, none, .mv (.s 46), .none⟩,
        ⟨some 47, none, .ext (.s 43) 0, .none⟩,
        ⟨some 48, none, .ext (.s 43) 1, .none⟩,
        ⟨some 8, none, .alloc 25 [.int .i64 0, .int .i64 0, .str [], .int .i64 0, .int .i64 0], .none⟩,
        ⟨none, none, .st (.s 8) (.s 47) 5, .none⟩,
        ⟨some 9, none, .mv (.s 48), .none⟩])
    (.seq (.reg [⟨some 50, none, .ld (.s 2) 192 true, .none⟩,
        ⟨some 51, none, .mv (.s 6), .none⟩,
        ⟨some 52, none, .call 22 [.s 50, .s 51] 2, .none⟩,
        ⟨some 49, none, .mv (.s 52), .none⟩,
        ⟨some 53, none, .ext (.s 49) 0, .none⟩,
        ⟨some 54, none, .ext (.s 49) 1, .none⟩,
        ⟨some 10, none, .alloc 27 [.int .i64 0, .int .i64 0], .none⟩,
        ⟨none, none, .st (.s 10) (.s 53) 2, .none⟩,
        ⟨some 11, none, .mv (.s 54), .none⟩])
    (.seq (.reg [⟨some 56, none, .ld (.s 2) 192 true, .none⟩,
        ⟨some 57, none, .mv (.s 6), .none⟩,
        ⟨some 58, none, .call 23 [.s 56, .s 57] 2, .none⟩,
        ⟨some 55, none, .mv (.s 58), .none⟩,
        ⟨some 59, none, .ext (.s 55) 0, .none⟩,
        ⟨some 60, none, .ext (.s 55) 1, .none⟩,
        ⟨some 12, none, .alloc 27 [.int .i64 0, .int .i64 0], .none⟩,
        ⟨none, none, .st (.s 12) (.s 59) 2, .none⟩,
        ⟨some 13, none, .mv (.s 60), .none⟩])
    (.seq (.reg [⟨some 61, none, .fa (.s 7) 9, .none⟩,
        ⟨some 62, none, .ld (.s 61) 1 false, .none⟩,
        ⟨some 14, none, .mv (.s 62), .none⟩])
    (.seq (.seq (.reg [⟨some 63, none, .fa (.s 7) 1, .none⟩,
         ⟨some 64, none, .fa (.s 63) 1, .none⟩,
         ⟨some 65, none, .ld (.s 64) 1 false, .none⟩,
         ⟨some 66, none, .mv (.s 14), .none⟩,
         ⟨some 67, none, .bin .gtr (.s 65) (.s 66), .none⟩])
     (.cond (.s 67)
      (.reg [⟨some 68, none, .fa (.s 7) 1, .none⟩,
         ⟨some 69, none, .fa (.s 68) 1, .none⟩,
         ⟨some 70, none, .ld (.s 69) 1 false, .none⟩,
         ⟨some 14, none, .mv (.s 70), .none⟩])
      .skip))
    (.ann [1, 2, 5, 6, 7, 8, 9, 10, 11, 12, 13, 14] (.seq (.seq (.drw [⟨some 71, none, .mv (.s 9), .none⟩,
         ⟨some 72, none, .fa (.s 7) 0, .none⟩,
         ⟨some 73, none, .ld (.s 72) 1 false, .none⟩,
         ⟨some 74, none, .beq true (.s 71) (.s 73), .none⟩,
         ⟨some 75, none, .mv (.s 74), .none⟩,
         ⟨some 76, some (75, false), .ld (.s 8) 5 true, .none⟩,
         ⟨some 77, some (75, false), .fa (.s 7) 1, .none⟩,
         ⟨some 78, some (75, false), .ld (.s 77) 5 true, .none⟩,
         ⟨some 79, some (75, false), .eqs true [1, 1, 2, 1, 1] (.s 76) (.s 78), .none⟩,
         ⟨some 80, none, .pick (.s 75) (.c (.d (.bool true))) (.s 79), .none⟩,
         ⟨some 81, none, .mv (.s 80), .none⟩,
         ⟨some 82, some (81, false), .mv (.s 11), .none⟩,
         ⟨some 83, some (81, false), .fa (.s 7) 0, .none⟩,
         ⟨some 84, some (81, false), .ld (.s 83) 1 false, .none⟩,
         ⟨some 85, some (81, false), .beq true (.s 82) (.s 84), .none⟩,
         ⟨some 86, none, .pick (.s 81) (.c (.d (.bool true))) (.s 85), .none⟩,
         ⟨some 87, none, .mv (.s 86), .none⟩,
         ⟨some 88, some (87, false), .ld (.s 10) 2 true, .none⟩,
         ⟨some 89, some (87, false), .fa (.s 7) 6, .none⟩,
         ⟨some 90, some (87, false), .ld (.s 89) 2 true, .none⟩,
         ⟨some 91, some (87, false), .eqs true [1, 1] (.s 88) (.s 90), .none⟩,
         ⟨some 92, none, .pick (.s 87) (.c (.d (.bool true))) (.s 91), .none⟩,
         ⟨some 93, none, .mv (.s 92), .none⟩,
         ⟨some 94, some (93, false), .ld (.s 12) 2 true, .none⟩,
         ⟨some 95, some (93, false), .fa (.s 7) 10, .none⟩,
         ⟨some 96, some (93, false), .ld (.s 95) 2 true, .none⟩,
         ⟨some 97, some (93, false), .eqs true [1, 1] (.s 94) (.s 96), .none⟩,
         ⟨some 98, none, .pick (.s 93) (.c (.d (.bool true))) (.s 97), .none⟩,
         ⟨some 99, none, .mv (.s 98), .none⟩,
         ⟨some 100, some (99, false), .mv (.s 13), .none⟩,
         ⟨some 101, some (99, false), .fa (.s 7) 9, .none⟩,
         ⟨some 102, some (99, false), .ld (.s 101) 1 false, .none⟩,
         ⟨some 103, some (99, false), .bin .gtr (.s 102) (.c (.d (.int .i64 0))), .none⟩,
         ⟨some 104, some (99, false), .beq true (.s 100) (.s 103), .none⟩,
         ⟨some 105, none, .pick (.s 99) (.c (.d (.bool true))) (.s 104), .none⟩,
         ⟨some 106, none, .mv (.s 105), .none⟩,
         ⟨some 107, some (106, false), .ld (.s 2) 192 true, .none⟩,
         ⟨some 108, some (106, false), .mv (.s 6), .none⟩,
         ⟨some 109, some (106, false), .call 17 [.s 107, .s 108] 2, .none⟩,
         ⟨some 110, some (106, false), .fa (.s 7) 9, .none⟩,
         ⟨some 111, some (106, false), .ld (.s 110) 1 false, .none⟩,
         ⟨some 112, some (106, false), .bin .neq (.s 109) (.s 111), .none⟩,
         ⟨some 113, none, .pick (.s 106) (.c (.d (.bool true))) (.s 112), .none⟩,
         ⟨some 114, none, .mv (.s 113), .none⟩,
         ⟨some 115, some (114, false), .ld (.s 2) 192 true, .none⟩,
         ⟨some 116, some (114, false), .mv (.s 6), .none⟩,
         ⟨some 117, some (114, false), .call 24 [.s 115, .s 116] 2, .none⟩,
         ⟨some 118, some (114, false), .mv (.s 14), .none⟩,
         ⟨some 119, some (114, false), .bin .neq (.s 117) (.s 118), .none⟩,
         ⟨some 120, none, .pick (.s 114) (.c (.d (.bool true))) (.s 119), .none⟩]
        [[], [], [1], [0, 2], [3], [4], [4], [6, 4], [5, 7, 4], [4, 8], [9, 4], [10], [10], [12, 10], [11, 13, 10], [10, 14], [15, 10], [16], [16], [18, 16], [17, 19, 16], [16, 20], [21, 16], [22], [22], [24, 22], [23, 25, 22], [22, 26], [27, 22], [28], [28], [30, 28], [31, 28], [29, 32, 28], [28, 33], [34, 28], [35], [35], [36, 37, 35, 35], [35], [39, 35], [38, 40, 35], [35, 41], [42, 38], [43], [43], [44, 45, 43, 43], [43], [46, 47, 43], [43, 48]] [])
     (.cond (.s 120)
      (.seq (.reg [⟨some 4, none, .mv (.c (.d (.bool false))), .none⟩])
      (.ret (some [4])))
      .skip))
    (.seq (.reg [⟨some 15, none, .mv (.c (.d .nils)), .one 1 true⟩])
    (.seq (.reg [⟨some 121, none, .ld (.s 2) 192 true, .none⟩,
        ⟨some 122, none, .mv (.s 6), .none⟩,
        ⟨some 123, none, .call 25 [.s 121, .s 122] 2, .none⟩,
        ⟨some 16, none, .mv (.s 123), .none⟩])
    (.seq (.seq (.reg [⟨some 124, none, .mv (.s 16), .none⟩,
         ⟨some 125, none, .len (.s 124), .none⟩,
         ⟨some 126, none, .fa (.s 7) 8, .none⟩,
         ⟨some 127, none, .ld (.s 126) 1 false, .none⟩,
         ⟨some 128, none, .len (.s 127), .none⟩,
         ⟨some 129, none, .bin .neq (.s 125) (.s 128), .none⟩])
     (.cond (.s 129)
      (.seq (.reg [⟨some 4, none, .mv (.c (.d (.bool false))), .none⟩])
      (.ret (some [4])))
      .skip))
    (.seq (.seq (.reg [⟨some 130, none, .fa (.s 7) 8, .none⟩,
         ⟨some 131, none, .ld (.s 130) 1 false, .none⟩,
         ⟨some 132, none, .len (.s 131), .none⟩,
         ⟨some 133, none, .mv (.c (.d (.int .i64 0))), .none⟩])
     (.block 2 (.loop [1, 2, 5, 6, 15, 16, 131, 132, 133] lp8_1)))
    (.seq (.reg [⟨some 169, none, .ld (.s 2) 192 true, .none⟩,
        ⟨some 170, none, .mv (.s 6), .none⟩,
        ⟨some 171, none, .call 27 [.s 169, .s 170] 2, .none⟩,
        ⟨some 172, none, .call 28 [.s 171] 2, .none⟩,
        ⟨some 173, none, .mv (.s 15), .none⟩,
        ⟨some 174, none, .call 26 [.s 172, .s 173] 0, .none⟩,
        ⟨some 175, none, .un .not (.s 174), .none⟩])
    (.cond (.s 175)
     (.seq (.reg [⟨some 4, none, .mv (.c (.d (.bool false))), .none⟩])
     (.ret (some [4])))
     .skip)))))))))))))))))))
  (.reg [⟨some 23, none, .mv (.s 6), .none⟩,
     ⟨some 24, none, .bin .add (.s 23) (.c (.d (.int .i64 1))), .none⟩,
     ⟨some 6, none, .mv (.s 24), .none⟩])))
def lp8_0 : C := lb8_0
theorem u8_0 (c : Ev.Callee) (l : Ev.Looper) (s : St) : evC c l lp8_0 s = evC c l lb8_0 s := rfl
abbrev st8_0 (m : Nat) (s1 s2 s5 s6 : AV) (h : Heap) : St := ⟨m, [.unk, s1, s2, .unk, .unk, s5, s6, .unk, .unk, .unk, .unk, .unk, .unk, .unk, .unk, .unk, .unk, .unk, .unk, .unk, .unk, .unk, .unk, .unk, .unk, .unk, .unk, .unk, .unk, .unk, .unk, .unk, .unk, .unk, .unk, .unk, .unk, .unk, .unk, .unk, .unk, .unk, .unk, .unk, .unk, .unk, .unk, .unk, .unk, .unk, .unk, .unk, .unk, .unk, .unk, .unk, .unk, .unk, .unk, .unk, .unk, .unk, .unk, .unk, .unk, .unk, .unk, .unk, .unk, .unk, .unk, .unk, .unk, .unk, .unk, .unk, .unk, .unk, .unk, .unk, .unk, .unk, .unk, .unk, .unk, .unk, .unk, .unk, .unk, .unk, .unk, .unk, .unk, .unk, .unk, .unk, .unk, .unk, .unk, .unk, .unk, .unk, .unk, .unk, .unk, .unk, .unk, .unk, .unk, .unk, .unk, .unk, .unk, .unk, .unk, .unk, .unk, .unk, .unk, .unk, .unk, .unk, .unk, .unk, .unk, .unk, .unk, .unk, .unk, .unk, .unk, .unk, .unk, .unk, .unk, .unk, .unk, .unk, .unk, .unk, .unk, .unk, .unk, .unk, .unk, .unk, .unk, .unk, .unk, .unk, .unk, .unk, .unk, .unk, .unk, .unk, .unk, .unk, .unk, .unk, .unk, .unk, .unk, .unk, .unk, .unk, .unk, .unk, .unk, .unk, .unk, .unk, .unk, .unk, .unk, .unk, .unk, .unk, .unk, .unk], h⟩
@[go_sem] theorem ks8_0 (v0 v1 v2 v3 v4 v5 v6 v7 v8 v9 v10 v11 v12 v13 v14 v15 v16 v17 v18 v19 v20 v21 v22 v23 v24 v25 v26 v27 v28 v29 v30 v31 v32 v33 v34 v35 v36 v37 v38 v39 v40 v41 v42 v43 v44 v45 v46 v47 v48 v49 v50 v51 v52 v53 v54 v55 v56 v57 v58 v59 v60 v61 v62 v63 v64 v65 v66 v67 v68 v69 v70 v71 v72 v73 v74 v75 v76 v77 v78 v79 v80 v81 v82 v83 v84 v85 v86 v87 v88 v89 v90 v91 v92 v93 v94 v95 v96 v97 v98 v99 v100 v101 v102 v103 v104 v105 v106 v107 v108 v109 v110 v111 v112 v113 v114 v115 v116 v117 v118 v119 v120 v121 v122 v123 v124 v125 v126 v127 v128 v129 v130 v131 v132 v133 v134 v135 v136 v137 v138 v139 v140 v141 v142 v143 v144 v145 v146 v147 v148 v149 v150 v151 v152 v153 v154 v155 v156 v157 v158 v159 v160 v161 v162 v163 v164 v165 v166 v167 v168 v169 v170 v171 v172 v173 v174 v175 v176 v177 v178 v179 : AV) : keepS [1, 2, 5, 6] [v0, v1, v2, v3, v4, v5, v6, v7, v8, v9, v10, v11, v12, v13, v14, v15, v16, v17, v18, v19, v20, v21, v22, v23, v24, v25, v26, v27, v28, v29, v30, v31, v32, v33, v34, v35, v36, v37, v38, v39, v40, v41, v42, v43, v44, v45, v46, v47, v48, v49, v50, v51, v52, v53, v54, v55, v56, v57, v58, v59, v60, v61, v62, v63, v64, v65, v66, v67, v68, v69, v70, v71, v72, v73, v74, v75, v76, v77, v78, v79, v80, v81, v82, v83, v84, v85, v86, v87, v88, v89, v90, v91, v92, v93, v94, v95, v96, v97, v98, v99, v100, v101, v102, v103, v104, v105, v106, v107, v108, v109, v110, v111, v112, v113, v114, v115, v116, v117, v118, v119, v120, v121, v122, v123, v124, v125, v126, v127, v128, v129, v130, v131, v132, v133, v134, v135, v136, v137, v138, v139, v140, v141, v142, v143, v144, v145, v146, v147, v148, v149, v150, v151, v152, v153, v154, v155, v156, v157, v158, v159, v160, v161, v162, v163, v164, v165, v166, v167, v168, v169, v170, v171, v172, v173, v174, v175, v176, v177, v178, v179] 0 = [.unk, v1, v2, .unk, .unk, v5, v6, .unk, .unk, .unk, .unk, .unk, .unk, .unk, .unk, .unk, .unk, .unk, .unk, .unk, .unk, .unk, .unk, .unk, .unk, .unk, .unk, .unk, .unk, .unk, .unk, .unk, .unk, .unk, .unk, .unk, .unk, .unk, .unk, .unk, .unk, .unk, .unk, .unk, .unk, .unk, .unk, .unk, .unk, .unk, .unk, .unk, .unk, .unk, .unk, .unk, .unk, .unk, .unk, .unk, .unk, .unk, .unk, .unk, .unk, .unk, .unk, .unk, .unk, .unk, .unk, .unk, .unk, .unk, .unk, .unk, .unk, .unk, .unk, .unk, .unk, .unk, .unk, .unk, .unk, .unk, .unk, .unk, .unk, .unk, .unk, .unk, .unk, .unk, .unk, .unk, .unk, .unk, .unk, .unk, .unk, .unk, .unk, .unk, .unk, .unk, .unk, .unk, .unk, .unk, .unk, .unk, .unk, .unk, .unk, .unk, .unk, .unk, .unk, .unk, .unk, .unk, .unk, .unk, .unk, .unk, .unk, .unk, .unk, .unk, .unk, .unk, .unk, .unk, .unk, .unk, .unk, .unk, .unk, .unk, .unk, .unk, .unk, .unk, .unk, .unk, .unk, .unk, .unk, .unk, .unk, .unk, .unk, .unk, .unk, .unk, .unk, .unk, .unk, .unk, .unk, .unk, .unk, .unk, .unk, .unk, .unk, .unk, .unk, .unk, .unk, .unk, .unk, .unk, .unk, .unk, .unk, .unk, .unk, .unk] := rfl
@[go_sem] theorem ks8_1 (v0 v1 v2 v3 v4 v5 v6 v7 v8 v9 v10 v11 v12 v13 v14 v15 v16 v17 v18 v19 v20 v21 v22 v23 v24 v25 v26 v27 v28 v29 v30 v31 v32 v33 v34 v35 v36 v37 v38 v39 v40 v41 v42 v43 v44 v45 v46 v47 v48 v49 v50 v51 v52 v53 v54 v55 v56 v57 v58 v59 v60 v61 v62 v63 v64 v65 v66 v67 v68 v69 v70 v71 v72 v73 v74 v75 v76 v77 v78 v79 v80 v81 v82 v83 v84 v85 v86 v87 v88 v89 v90 v91 v92 v93 v94 v95 v96 v97 v98 v99 v100 v101 v102 v103 v104 v105 v106 v107 v108 v109 v110 v111 v112 v113 v114 v115 v116 v117 v118 v119 v120 v121 v122 v123 v124 v125 v126 v127 v128 v129 v130 v131 v132 v133 v134 v135 v136 v137 v138 v139 v140 v141 v142 v143 v144 v145 v146 v147 v148 v149 v150 v151 v152 v153 v154 v155 v156 v157 v158 v159 v160 v161 v162 v163 v164 v165 v166 v167 v168 v169 v170 v171 v172 v173 v174 v175 v176 v177 v178 v179 : AV) : keepS [2, 5] [v0, v1, v2, v3, v4, v5, v6, v7, v8, v9, v10, v11, v12, v13, v14, v15, v16, v17, v18, v19, v20, v21, v22, v23, v24, v25, v26, v27, v28, v29, v30, v31, v32, v33, v34, v35, v36, v37, v38, v39, v40, v41, v42, v43, v44, v45, v46, v47, v48, v49, v50, v51, v52, v53, v54, v55, v56, v57, v58, v59, v60, v61, v62, v63, v64, v65, v66, v67, v68, v69, v70, v71, v72, v73, v74, v75, v76, v77, v78, v79, v80, v81, v82, v83, v84, v85, v86, v87, v88, v89, v90, v91, v92, v93, v94, v95, v96, v97, v98, v99, v100, v101, v102, v103, v104, v105, v106, v107, v108, v109, v110, v111, v112, v113, v114, v115, v116, v117, v118, v119, v120, v121, v122, v123, v124, v125, v126, v127, v128, v129, v130, v131, v132, v133, v134, v135, v136, v137, v138, v139, v140, v141, v142, v143, v144, v145, v146, v147, v148, v149, v150, v151, v152, v153, v154, v155, v156, v157, v158, v159, v160, v161, v162, v163, v164, v165, v166, v167, v168, v169, v170, v171, v172, v173, v174, v175, v176, v177, v178, v179] 0 = [.unk, .unk, v2, .unk, .unk, v5, .unk, .unk, .unk, .unk, .unk, .unk, .unk, .unk, .unk, .unk, .unk, .unk, .unk, .unk, .unk, .unk, .unk, .unk, .unk, .unk, .unk, .unk, .unk, .unk, .unk, .unk, .unk, .unk, .unk, .unk, .unk, .unk, .unk, .unk, .unk, .unk, .unk, .unk, .unk, .unk, .unk, .unk, .unk, .unk, .unk, .unk, .unk, .unk, .unk, .unk, .unk, .unk, .unk, .unk, .unk, .unk, .unk, .unk, .unk, .unk, .unk, .unk, .unk, .unk, .unk, .unk, .unk, .unk, .unk, .unk, .unk, .unk, .unk, .unk, .unk, .unk, .unk, .unk, .unk, .unk, .unk, .unk, .unk, .unk, .unk, .unk, .unk, .unk, .unk, .unk, .unk, .unk, .unk, .unk, .unk, .unk, .unk, .unk, .unk, .unk, .unk, .unk, .unk, .unk, .unk, .unk, .unk, .unk, .unk, .unk, .unk, .unk, .unk, .unk, .unk, .unk, .unk, .unk, .unk, .unk, .unk, .unk, .unk, .unk, .unk, .unk, .unk, .unk, .unk, .unk, .unk, .unk, .unk, .unk, .unk, .unk, .unk, .unk, .unk, .unk, .unk, .unk, .unk, .unk, .unk, .unk, .unk, .unk, .unk, .unk, .unk, .unk, .unk, .unk, .unk, .unk, .unk, .unk, .unk, .unk, .unk, .unk, .unk, .unk, .unk, .unk, .unk, .unk, .unk, .unk, .unk, .unk, .unk, .unk] := rfl
@[go_sem] theorem ks8_2 (v0 v1 v2 v3 v4 v5 v6 v7 v8 v9 v10 v11 v12 v13 v14 v15 v16 v17 v18 v19 v20 v21 v22 v23 v24 v25 v26 v27 v28 v29 v30 v31 v32 v33 v34 v35 v36 v37 v38 v39 v40 v41 v42 v43 v44 v45 v46 v47 v48 v49 v50 v51 v52 v53 v54 v55 v56 v57 v58 v59 v60 v61 v62 v63 v64 v65 v66 v67 v68 v69 v70 v71 v72 v73 v74 v75 v76 v77 v78 v79 v80 v81 v82 v83 v84 v85 v86 v87 v88 v89 v90 v91 v92 v93 v94 v95 v96 v97 v98 v99 v100 v101 v102 v103 v104 v105 v106 v107 v108 v109 v110 v111 v112 v113 v114 v115 v116 v117 v118 v119 v120 v121 v122 v123 v124 v125 v126 v127 v128 v129 v130 v131 v132 v133 v134 v135 v136 v137 v138 v139 v140 v141 v142 v143 v144 v145 v146 v147 v148 v149 v150 v151 v152 v153 v154 v155 v156 v157 v158 v159 v160 v161 v162 v163 v164 v165 v166 v167 v168 v169 v170 v171 v172 v173 v174 v175 v176 v177 v178 v179 : AV) : keepS [1, 2, 5, 6, 7] [v0, v1, v2, v3, v4, v5, v6, v7, v8, v9, v10, v11, v12, v13, v14, v15, v16, v17, v18, v19, v20, v21, v22, v23, v24, v25, v26, v27, v28, v29, v30, v31, v32, v33, v34, v35, v36, v37, v38, v39, v40, v41, v42, v43, v44, v45, v46, v47, v48, v49, v50, v51, v52, v53, v54, v55, v56, v57, v58, v59, v60, v61, v62, v63, v64, v65, v66, v67, v68, v69, v70, v71, v72, v73, v74, v75, v76, v77, v78, v79, v80, v81, v82, v83, v84, v85, v86, v87, v88, v89, v90, v91, v92, v93, v94, v95, v96, v97, v98, v99, v100, v101, v102, v103, v104, v105, v106, v107, v108, v109, v110, v111, v112, v113, v114, v115, v116, v117, v118, v119, v120, v121, v122, v123, v124, v125, v126, v127, v128, v129, v130, v131, v132, v133, v134, v135, v136, v137, v138, v139, v140, v141, v142, v143, v144, v145, v146, v147, v148, v149, v150, v151, v152, v153, v154, v155, v156, v157, v158, v159, v160, v161, v162, v163, v164, v165, v166, v167, v168, v169, v170, v171, v172, v173, v174, v175, v176, v177, v178, v179] 0 = [.unk, v1, v2, .unk, .unk, v5, v6, v7, .unk, .unk, .unk, .unk, .unk, .unk, .unk, .unk, .unk, .unk, .unk, .unk, .unk, .unk, .unk, .unk, .unk, .unk, .unk, .unk, .unk, .unk, .unk, .unk, .unk, .unk, .unk, .unk, .unk, .unk, .unk, .unk, .unk, .unk, .unk, .unk, .unk, .unk, .unk, .unk, .unk, .unk, .unk, .unk, .unk, .unk, .unk, .unk, .unk, .unk, .unk, .unk, .unk, .unk, .unk, .unk, .unk, .unk, .unk, .unk, .unk, .unk, .unk, .unk, .unk, .unk, .unk, .unk, .unk, .unk, .unk, .unk, .unk, .unk, .unk, .unk, .unk, .unk, .unk, .unk, .unk, .unk, .unk, .unk, .unk, .unk, .unk, .unk, .unk, .unk, .unk, .unk, .unk, .unk, .unk, .unk, .unk, .unk, .unk, .unk, .unk, .unk, .unk, .unk, .unk, .unk, .unk, .unk, .unk, .unk, .unk, .unk, .unk, .unk, .unk, .unk, .unk, .unk, .unk, .unk, .unk, .unk, .unk, .unk, .unk, .unk, .unk, .unk, .unk, .unk, .unk, .unk, .unk, .unk, .unk, .unk, .unk, .unk, .unk, .unk, .unk, .unk, .unk, .unk, .unk, .unk, .unk, .unk, .unk, .unk, .unk, .unk, .unk, .unk, .unk, .unk, .unk, .unk, .unk, .unk, .unk, .unk, .unk, .unk, .unk, .unk, .unk, .unk, .unk, .unk, .unk, .unk] := rfl
@[go_sem] theorem ks8_3 (v0 v1 v2 v3 v4 v5 v6 v7 v8 v9 v10 v11 v12 v13 v14 v15 v16 v17 v18 v19 v20 v21 v22 v23 v24 v25 v26 v27 v28 v29 v30 v31 v32 v33 v34 v35 v36 v37 v38 v39 v40 v41 v42 v43 v44 v45 v46 v47 v48 v49 v50 v51 v52 v53 v54 v55 v56 v57 v58 v59 v60 v61 v62 v63 v64 v65 v66 v67 v68 v69 v70 v71 v72 v73 v74 v75 v76 v77 v78 v79 v80 v81 v82 v83 v84 v85 v86 v87 v88 v89 v90 v91 v92 v93 v94 v95 v96 v97 v98 v99 v100 v101 v102 v103 v104 v105 v106 v107 v108 v109 v110 v111 v112 v113 v114 v115 v116 v117 v118 v119 v120 v121 v122 v123 v124 v125 v126 v127 v128 v129 v130 v131 v132 v133 v134 v135 v136 v137 v138 v139 v140 v141 v142 v143 v144 v145 v146 v147 v148 v149 v150 v151 v152 v153 v154 v155 v156 v157 v158 v159 v160 v161 v162 v163 v164 v165 v166 v167 v168 v169 v170 v171 v172 v173 v174 v175 v176 v177 v178 v179 : AV) : keepS [1, 2, 5, 6, 7, 8, 9, 10, 11, 12, 13, 14] [v0, v1, v2, v3, v4, v5, v6, v7, v8, v9, v10, v11, v12, v13, v14, v15, v16, v17, v18, v19, v20, v21, v22, v23, v24, v25, v26, v27, v28, v29, v30, v31, v32, v33, v34, v35, v36, v37, v38, v39, v40, v41, v42, v43, v44, v45, v46, v47, v48, v49, v50, v51, v52, v53, v54, v55, v56, v57, v58, v59, v60, v61, v62, v63, v64, v65, v66, v67, v68, v69, v70, v71, v72, v73, v74, v75, v76, v77, v78, v79, v80, v81, v82, v83, v84, v85, v86, v87, v88, v89, v90, v91, v92, v93, v94, v95, v96, v97, v98, v99, v100, v101, v102, v103, v104, v105, v106, v107, v108, v109, v110, v111, v112, v113, v114, v115, v116, v117, v118, v119, v120, v121, v122, v123, v124, v125, v126, v127, v128, v129, v130, v131, v132, v133, v134, v135, v136, v137, v138, v139, v140, v141, v142, v143, v144, v145, v146, v147, v148, v149, v150, v151, v152, v153, v154, v155, v156, v157, v158, v159, v160, v161, v162, v163, v164, v165, v166, v167, v168, v169, v170, v171, v172, v173, v174, v175, v176, v177, v178, v179] 0 = [.unk, v1, v2, .unk, .unk, v5, v6, v7, v8, v9, v10, v11, v12, v13, v14, .unk, .unk, .unk, .unk, .unk, .unk, .unk, .unk, .unk, .unk, .unk, .unk, .unk, .unk, .unk, .unk, .unk, .unk, .unk, .unk, .unk, .unk, .unk, .unk, .unk, .unk, .unk, .unk, .unk, .unk, .unk, .unk, .unk, .unk, .unk, .unk, .unk, .unk, .unk, .unk, .unk, .unk, .unk, .unk, .unk, .unk, .unk, .unk, .unk, .unk, .unk, .unk, .unk, .unk, .unk, .unk, .unk, .unk, .unk, .unk, .unk, .unk, .unk, .unk, .unk, .unk, .unk, .unk, .unk, .unk, .unk, .unk, .unk, .unk, .unk, .unk, .unk, .unk, .unk, .unk, .unk, .unk, .unk, .unk, .unk, .unk, .unk, .unk, .unk, .unk, .unk, .unk, .unk, .unk, .unk, .unk, .unk, .unk, .unk, .unk, .unk, .unk, .unk, .unk, .unk, .unk, .unk, .unk, .unk, .unk, .unk, .unk, .unk, .unk, .unk, .unk, .unk, .unk, .unk, .unk, .unk, .unk, .unk, .unk, .unk, .unk, .unk, .unk, .unk, .unk, .unk, .unk, .unk, .unk, .unk, .unk, .unk, .unk, .unk, .unk, .unk, .unk, .unk, .unk, .unk, .unk, .unk, .unk, .unk, .unk, .unk, .unk, .unk, .unk, .unk, .unk, .unk, .unk, .unk, .unk, .unk, .unk, .unk, .unk, .unk] := rfl
@[go_sem] theorem ks8_4 (v0 v1 v2 v3 v4 v5 v6 v7 v8 v9 v10 v11 v12 v13 v14 v15 v16 v17 v18 v19 v20 v21 v22 v23 v24 v25 v26 v27 v28 v29 v30 v31 v32 v33 v34 v35 v36 v37 v38 v39 v40 v41 v42 v43 v44 v45 v46 v47 v48 v49 v50 v51 v52 v53 v54 v55 v56 v57 v58 v59 v60 v61 v62 v63 v64 v65 v66 v67 v68 v69 v70 v71 v72 v73 v74 v75 v76 v77 v78 v79 v80 v81 v82 v83 v84 v85 v86 v87 v88 v89 v90 v91 v92 v93 v94 v95 v96 v97 v98 v99 v100 v101 v102 v103 v104 v105 v106 v107 v108 v109 v110 v111 v112 v113 v114 v115 v116 v117 v118 v119 v120 v121 v122 v123 v124 v125 v126 v127 v128 v129 v130 v131 v132 v133 v134 v135 v136 v137 v138 v139 v140 v141 v142 v143 v144 v145 v146 v147 v148 v149 v150 v151 v152 v153 v154 v155 v156 v157 v158 v159 v160 v161 v162 v163 v164 v165 v166 v167 v168 v169 v170 v171 v172 v173 v174 v175 v176 v177 v178 v179 : AV) : keepS [4] [v0, v1, v2, v3, v4, v5, v6, v7, v8, v9, v10, v11, v12, v13, v14, v15, v16, v17, v18, v19, v20, v21, v22, v23, v24, v25, v26, v27, v28, v29, v30, v31, v32, v33, v34, v35, v36, v37, v38, v39, v40, v41, v42, v43, v44, v45, v46, v47, v48, v49, v50, v51, v52, v53, v54, v55, v56, v57, v58, v59, v60, v61, v62, v63, v64, v65, v66, v67, v68, v69, v70, v71, v72, v73, v74, v75, v76, v77, v78, v79, v80, v81, v82, v83, v84, v85, v86, v87, v88, v89, v90, v91, v92, v93, v94, v95, v96, v97, v98, v99, v100, v101, v102, v103, v104, v105, v106, v107, v108, v109, v110, v111, v112, v113, v114, v115, v116, v117, v118, v119, v120, v121, v122, v123, v124, v125, v126, v127, v128, v129, v130, v131, v132, v133, v134, v135, v136, v137, v138, v139, v140, v141, v142, v143, v144, v145, v146, v147, v148, v149, v150, v151, v152, v153, v154, v155, v156, v157, v158, v159, v160, v161, v162, v163, v164, v165, v166, v167, v168, v169, v170, v171, v172, v173, v174, v175, v176, v177, v178, v179] 0 = [.unk, .unk, .unk, .unk, v4, .unk, .unk, .unk, .unk, .unk, .unk, .unk, .unk, .unk, .unk, .unk, .unk, .unk, .unk, .unk, .unk, .unk, .unk, .unk, .unk, .unk, .unk, .unk, .unk, .unk, .unk, .unk, .unk, .unk, .unk, .unk, .unk, .unk, .unk, .unk, .unk, .unk, .unk, .unk, .unk, .unk, .unk, .unk, .unk, .unk, .unk, .unk, .unk, .unk, .unk, .unk, .unk, .unk, .unk, .unk, .unk, .unk, .unk, .unk, .unk, .unk, .unk, .unk, .unk, .unk, .unk, .unk, .unk, .unk, .unk, .unk, .unk, .unk, .unk, .unk, .unk, .unk, .unk, .unk, .unk, .unk, .unk, .unk, .unk, .unk, .unk, .unk, .unk, .unk, .unk, .unk, .unk, .unk, .unk, .unk, .unk, .unk, .unk, .unk, .unk, .unk, .unk, .unk, .unk, .unk, .unk, .unk, .unk, .unk, .unk, .unk, .unk, .unk, .unk, .unk, .unk, .unk, .unk, .unk, .unk, .unk, .unk, .unk, .unk, .unk, .unk, .unk, .unk, .unk, .unk, .unk, .unk, .unk, .unk, .unk, .unk, .unk, .unk, .unk, .unk, .unk, .unk, .unk, .unk, .unk, .unk, .unk, .unk, .unk, .unk, .unk, .unk, .unk, .unk, .unk, .unk, .unk, .unk, .unk, .unk, .unk, .unk, .unk, .unk, .unk, .unk, .unk, .unk, .unk, .unk, .unk, .unk, .unk, .unk, .unk] := rfl
@[go_sem] theorem ks8_5 (v0 v1 v2 v3 v4 v5 v6 v7 v8 v9 v10 v11 v12 v13 v14 v15 v16 v17 v18 v19 v20 v21 v22 v23 v24 v25 v26 v27 v28 v29 v30 v31 v32 v33 v34 v35 v36 v37 v38 v39 v40 v41 v42 v43 v44 v45 v46 v47 v48 v49 v50 v51 v52 v53 v54 v55 v56 v57 v58 v59 v60 v61 v62 v63 v64 v65 v66 v67 v68 v69 v70 v71 v72 v73 v74 v75 v76 v77 v78 v79 v80 v81 v82 v83 v84 v85 v86 v87 v88 v89 v90 v91 v92 v93 v94 v95 v96 v97 v98 v99 v100 v101 v102 v103 v104 v105 v106 v107 v108 v109 v110 v111 v112 v113 v114 v115 v116 v117 v118 v119 v120 v121 v122 v123 v124 v125 v126 v127 v128 v129 v130 v131 v132 v133 v134 v135 v136 v137 v138 v139 v140 v141 v142 v143 v144 v145 v146 v147 v148 v149 v150 v151 v152 v153 v154 v155 v156 v157 v158 v159 v160 v161 v162 v163 v164 v165 v166 v167 v168 v169 v170 v171 v172 v173 v174 v175 v176 v177 v178 v179 : AV) : keepS [1, 2, 5, 6, 15, 16, 131, 132, 133] [v0, v1, v2, v3, v4, v5, v6, v7, v8, v9, v10, v11, v12, v13, v14, v15, v16, v17, v18, v19, v20, v21, v22, v23, v24, v25, v26, v27, v28, v29, v30, v31, v32, v33, v34, v35, v36, v37, v38, v39, v40, v41, v42, v43, v44, v45, v46, v47, v48, v49, v50, v51, v52, v53, v54, v55, v56, v57, v58, v59, v60, v61, v62, v63, v64, v65, v66, v67, v68, v69, v70, v71, v72, v73, v74, v75, v76, v77, v78, v79, v80, v81, v82, v83, v84, v85, v86, v87, v88, v89, v90, v91, v92, v93, v94, v95, v96, v97, v98, v99, v100, v101, v102, v103, v104, v105, v106, v107, v108, v109, v110, v111, v112, v113, v114, v115, v116, v117, v118, v119, v120, v121, v122, v123, v124, v125, v126, v127, v128, v129, v130, v131, v132, v133, v134, v135, v136, v137, v138, v139, v140, v141, v142, v143, v144, v145, v146, v147, v148, v149, v150, v151, v152, v153, v154, v155, v156, v157, v158, v159, v160, v161, v162, v163, v164, v165, v166, v167, v168, v169, v170, v171, v172, v173, v174, v175, v176, v177, v178, v179] 0 = [.unk, v1, v2, .unk, .unk, v5, v6, .unk, .unk, .unk, .unk, .unk, .unk, .unk, .unk, v15, v16, .unk, .unk, .unk, .unk, .unk, .unk, .unk, .unk, .unk, .unk, .unk, .unk, .unk, .unk, .unk, .unk, .unk, .unk, .unk, .unk, .unk, .unk, .unk, .unk, .unk, .unk, .unk, .unk, .unk, .unk, .unk, .unk, .unk, .unk, .unk, .unk, .unk, .unk, .unk, .unk, .unk, .unk, .unk, .unk, .unk, .unk, .unk, .unk, .unk, .unk, .unk, .unk, .unk, .unk, .unk, .unk, .unk, .unk, .unk, .unk, .unk, .unk, .unk, .unk, .unk, .unk, .unk, .unk, .unk, .unk, .unk, .unk, .unk, .unk, .unk, .unk, .unk, .unk, .unk, .unk, .unk, .unk, .unk, .unk, .unk, .unk, .unk, .unk, .unk, .unk, .unk, .unk, .unk, .unk, .unk, .unk, .unk, .unk, .unk, .unk, .unk, .unk, .unk, .unk, .unk, .unk, .unk, .unk, .unk, .unk, .unk, .unk, .unk, .unk, v131, v132, v133, .unk, .unk, .unk, .unk, .unk, .unk, .unk, .unk, .unk, .unk, .unk, .unk, .unk, .unk, .unk, .unk, .unk, .unk, .unk, .unk, .unk, .unk, .unk, .unk, .unk, .unk, .unk, .unk, .unk, .unk, .unk, .unk, .unk, .unk, .unk, .unk, .unk, .unk, .unk, .unk, .unk, .unk, .unk, .unk, .unk, .unk] := rfl
@[go_sem] theorem ks8_6 (v0 v1 v2 v3 v4 v5 v6 v7 v8 v9 v10 v11 v12 v13 v14 v15 v16 v17 v18 v19 v20 v21 v22 v23 v24 v25 v26 v27 v28 v29 v30 v31 v32 v33 v34 v35 v36 v37 v38 v39 v40 v41 v42 v43 v44 v45 v46 v47 v48 v49 v50 v51 v52 v53 v54 v55 v56 v57 v58 v59 v60 v61 v62 v63 v64 v65 v66 v67 v68 v69 v70 v71 v72 v73 v74 v75 v76 v77 v78 v79 v80 v81 v82 v83 v84 v85 v86 v87 v88 v89 v90 v91 v92 v93 v94 v95 v96 v97 v98 v99 v100 v101 v102 v103 v104 v105 v106 v107 v108 v109 v110 v111 v112 v113 v114 v115 v116 v117 v118 v119 v120 v121 v122 v123 v124 v125 v126 v127 v128 v129 v130 v131 v132 v133 v134 v135 v136 v137 v138 v139 v140 v141 v142 v143 v144 v145 v146 v147 v148 v149 v150 v151 v152 v153 v154 v155 v156 v157 v158 v159 v160 v161 v162 v163 v164 v165 v166 v167 v168 v169 v170 v171 v172 v173 v174 v175 v176 v177 v178 v179 : AV) : keepS [1, 2, 5, 6, 15] [v0, v1, v2, v3, v4, v5, v6, v7, v8, v9, v10, v11, v12, v13, v14, v15, v16, v17, v18, v19, v20, v21, v22, v23, v24, v25, v26, v27, v28, v29, v30, v31, v32, v33, v34, v35, v36, v37, v38, v39, v40, v41, v42, v43, v44, v45, v46, v47, v48, v49, v50, v51, v52, v53, v54, v55, v56, v57, v58, v59, v60, v61, v62, v63, v64, v65, v66, v67, v68, v69, v70, v71, v72, v73, v74, v75, v76, v77, v78, v79, v80, v81, v82, v83, v84, v85, v86, v87, v88, v89, v90, v91, v92, v93, v94, v95, v96, v97, v98, v99, v100, v101, v102, v103, v104, v105, v106, v107, v108, v109, v110, v111, v112, v113, v114, v115, v116, v117, v118, v119, v120, v121, v122, v123, v124, v125, v126, v127, v128, v129, v130, v131, v132, v133, v134, v135, v136, v137, v138, v139, v140, v141, v142, v143, v144, v145, v146, v147, v148, v149, v150, v151, v152, v153, v154, v155, v156, v157, v158, v159, v160, v161, v162, v163, v164, v165, v166, v167, v168, v169, v170, v171, v172, v173, v174, v175, v176, v177, v178, v179] 0 = [.unk, v1, v2, .unk, .unk, v5, v6, .unk, .unk, .unk, .unk, .unk, .unk, .unk, .unk, v15, .unk, .unk, .unk, .unk, .unk, .unk, .unk, .unk, .unk, .unk, .unk, .unk, .unk, .unk, .unk, .unk, .unk, .unk, .unk, .unk, .unk, .unk, .unk, .unk, .unk, .unk, .unk, .unk, .unk, .unk, .unk, .unk, .unk, .unk, .unk, .unk, .unk, .unk, .unk, .unk, .unk, .unk, .unk, .unk, .unk, .unk, .unk, .unk, .unk, .unk, .unk, .unk, .unk, .unk, .unk, .unk, .unk, .unk, .unk, .unk, .unk, .unk, .unk, .unk, .unk, .unk, .unk, .unk, .unk, .unk, .unk, .unk, .unk, .unk, .unk, .unk, .unk, .unk, .unk, .unk, .unk, .unk, .unk, .unk, .unk, .unk, .unk, .unk, .unk, .unk, .unk, .unk, .unk, .unk, .unk, .unk, .unk, .unk, .unk, .unk, .unk, .unk, .unk, .unk, .unk, .unk, .unk, .unk, .unk, .unk, .unk, .unk, .unk, .unk, .unk, .unk, .unk, .unk, .unk, .unk, .unk, .unk, .unk, .unk, .unk, .unk, .unk, .unk, .unk, .unk, .unk, .unk, .unk, .unk, .unk, .unk, .unk, .unk, .unk, .unk, .unk, .unk, .unk, .unk, .unk, .unk, .unk, .unk, .unk, .unk, .unk, .unk, .unk, .unk, .unk, .unk, .unk, .unk, .unk, .unk, .unk, .unk, .unk, .unk] := rfl
/-- spence/spencelaw19.Like -/
def bd8 : C :=
  (.seq (.reg [⟨some 2, none, .box 33 (.s 0), .none⟩,
      ⟨some 4, none, .mv (.c (.d (.bool false))), .none⟩])
  (.seq (.reg [⟨some 5, none, .mv (.c (.d .nils)), .one 1 true⟩])
  (.seq (.seq (.reg [⟨some 6, none, .mv (.c (.d (.int .i64 (-1)))), .none⟩])
   (.block 0 (.loop [1, 2, 5, 6] lp8_0)))
  (.seq (.reg [⟨some 176, none, .ld (.s 2) 192 true, .none⟩,
      ⟨some 177, none, .call 29 [.s 176] 2, .none⟩,
      ⟨some 178, none, .mv (.s 5), .none⟩,
      ⟨some 179, none, .call 26 [.s 177, .s 178] 0, .none⟩,
      ⟨some 4, none, .mv (.s 179), .none⟩])
  (.ret none)))))
def ir8 : F := { n := 180, res := [.tmp 4], body := bd8 }
@[go_sem] theorem n8 : ir8.n = 180 := rfl
@[go_sem] theorem r8 : ir8.res = [.tmp 4] := rfl
@[go_sem] theorem b8 : ir8.body = bd8 := rfl
/-- (spence/index.Index).Bound -/
def bd9 : C :=
  (.seq (.reg [⟨some 3, none, .box 33 (.s 0), .none⟩,
      ⟨some 4, none, .box 25 (.s 1), .none⟩,
      ⟨some 5, none, .box 27 (.s 2), .none⟩,
      ⟨some 6, none, .alloc 33 [.bool false, .int .i64 0, .int .i64 0, .str [], .int .i64 0, .int .i64 0, .int .i64 0, .int .i64 0, .nilm, .int .i64 0, .int .i64 0, .int .i64 0, .bool false, .int .i64 0, .int .i64 0, .str [], .int .i64 0, .int .i64 0, .int .i64 0, .int .i64 0, .nilm, .int .i64 0, .int .i64 0, .int .i64 0, .bool false, .int .i64 0, .int .i64 0, .str [], .int .i64 0, .int .i64 0, .int .i64 0, .int .i64 0, .nilm, .int .i64 0, .int .i64 0, .int .i64 0, .bool false, .int .i64 0, .int .i64 0, .str [], .int .i64 0, .int .i64 0, .int .i64 0, .int .i64 0, .nilm, .int .i64 0, .int .i64 0, .int .i64 0, .bool false, .int .i64 0, .int .i64 0, .str [], .int .i64 0, .int .i64 0, .int .i64 0, .int .i64 0, .nilm, .int .i64 0, .int .i64 0, .int .i64 0, .bool false, .int .i64 0, .int .i64 0, .str [], .int .i64 0, .int .i64 0, .int .i64 0, .int .i64 0, .nilm, .int .i64 0, .int .i64 0, .int .i64 0, .bool false, .int .i64 0, .int .i64 0, .str [], .int .i64 0, .int .i64 0, .int .i64 0, .int .i64 0, .nilm, .int .i64 0, .int .i64 0, .int .i64 0, .bool false, .int .i64 0, .int .i64 0, .str [], .int .i64 0, .int .i64 0, .int .i64 0, .int .i64 0, .nilm, .int .i64 0, .int .i64 0, .int .i64 0, .bool false, .int .i64 0, .int .i64 0, .str [], .int .i64 0, .int .i64 0, .int .i64 0, .int .i64 0, .nilm, .int .i64 0, .int .i64 0, .int .i64 0, .bool false, .int .i64 0, .int .i64 0, .str [], .int .i64 0, .int .i64 0, .int .i64 0, .int .i64 0, .nilm, .int .i64 0, .int .i64 0, .int .i64 0, .bool false, .int .i64 0, .int .i64 0, .str [], .int .i64 0, .int .i64 0, .int .i64 0, .int .i64 0, .nilm, .int .i64 0, .int .i64 0, .int .i64 0, .bool false, .int .i64 0, .int .i64 0, .str [], .int .i64 0, .int .i64 0, .int .i64 0, .int .i64 0, .nilm, .int .i64 0, .int .i64 0, .int .i64 0, .bool false, .int .i64 0, .int .i64 0, .str [], .int .i64 0, .int .i64 0, .int .i64 0, .int .i64 0, .nilm, .int .i64 0, .int .i64 0, .int .i64 0, .bool false, .int .i64 0, .int .i64 0, .str [], .int .i64 0, .int .i64 0, .int .i64 0, .int .i64 0, .nilm, .int .i64 0, .int .i64 0, .int .i64 0, .bool false, .int .i64 0, .int .i64 0, .str [], .int .i64 0, .int .i64 0, .int .i64 0, .int .i64 0, .nilm, .int .i64 0, .int .i64 0, .int .i64 0, .bool false, .int .i64 0, .int .i64 0, .str [], .int .i64 0, .int .i64 0, .int .i64 0, .int .i64 0, .nilm, .int .i64 0, .int .i64 0, .int .i64 0], .none⟩])
  (.seq (.reg [⟨some 7, none, .ld (.s 3) 192 true, .none⟩,
      ⟨some 8, none, .fa (.s 4) 0, .none⟩,
      ⟨some 9, none, .ld (.s 8) 1 false, .none⟩,
      ⟨some 10, none, .fn (.func 31) [] [.s 4, .s 5], .none⟩,
      ⟨some 11, none, .call 30 [.s 7, .s 9, .s 10] 0, .none⟩,
      ⟨none, none, .st (.s 6) (.s 11) 192, .none⟩])
  (.ret none)))
def ir9 : F := { n := 12, res := [.cell 6 192 true], body := bd9 }
@[go_sem] theorem n9 : ir9.n = 12 := rfl
@[go_sem] theorem r9 : ir9.res = [.cell 6 192 true] := rfl
@[go_sem] theorem b9 : ir9.body = bd9 := rfl
/-- (spence/index.Index).Piece -/
def bd10 : C :=
  (.seq (.reg [⟨some 5, none, .box 33 (.s 0), .none⟩,
      ⟨some 7, none, .box 3 (.s 2), .none⟩,
      ⟨some 8, none, .box 3 (.s 3), .none⟩,
      ⟨some 9, none, .box 27 (.s 4), .none⟩,
      ⟨some 10, none, .alloc 33 [.bool false, .int .i64 0, .int .i64 0, .str [], .int .i64 0, .int .i64 0, .int .i64 0, .int .i64 0, .nilm, .int .i64 0, .int .i64 0, .int .i64 0, .bool false, .int .i64 0, .int .i64 0, .str [], .int .i64 0, .int .i64 0, .int .i64 0, .int .i64 0, .nilm, .int .i64 0, .int .i64 0, .int .i64 0, .bool false, .int .i64 0, .int .i64 0, .str [], .int .i64 0, .int .i64 0, .int .i64 0, .int .i64 0, .nilm, .int .i64 0, .int .i64 0, .int .i64 0, .bool false, .int .i64 0, .int .i64 0, .str [], .int .i64 0, .int .i64 0, .int .i64 0, .int .i64 0, .nilm, .int .i64 0, .int .i64 0, .int .i64 0, .bool false, .int .i64 0, .int .i64 0, .str [], .int .i64 0, .int .i64 0, .int .i64 0, .int .i64 0, .nilm, .int .i64 0, .int .i64 0, .int .i64 0, .bool false, .int .i64 0, .int .i64 0, .str [], .int .i64 0, .int .i64 0, .int .i64 0, .int .i64 0, .nilm, .int .i64 0, .int .i64 0, .int .i64 0, .bool false, .int .i64 0, .int .i64 0, .str [], .int .i64 0, .int .i64 0, .int .i64 0, .int .i64 0, .nilm, .int .i64 0, .int .i64 0, .int .i64 0, .bool false, .int .i64 0, .int .i64 0, .str [], .int .i64 0, .int .i64 0, .int .i64 0, .int .i64 0, .nilm, .int .i64 0, .int .i64 0, .int .i64 0, .bool false, .int .i64 0, .int .i64 0, .str [], .int .i64 0, .int .i64 0, .int .i64 0, .int .i64 0, .nilm, .int .i64 0, .int .i64 0, .int .i64 0, .bool false, .int .i64 0, .int .i64 0, .str [], .int .i64 0, .int .i64 0, .int .i64 0, .int .i64 0, .nilm, .int .i64 0, .int .i64 0, .int .i64 0, .bool false, .int .i64 0, .int .i64 0, .str [], .int .i64 0, .int .i64 0, .int .i64 0, .int .i64 0, .nilm, .int .i64 0, .int .i64 0, .int .i64 0, .bool false, .int .i64 0, .int .i64 0, .str [], .int .i64 0, .int .i64 0, .int .i64 0, .int .i64 0, .nilm, .int .i64 0, .int .i64 0, .int .i64 0, .bool false, .int .i64 0, .int .i64 0, .str [], .int .i64 0, .int .i64 0, .int .i64 0, .int .i64 0, .nilm, .int .i64 0, .int .i64 0, .int .i64 0, .bool false, .int .i64 0, .int .i64 0, .str [], .int .i64 0, .int .i64 0, .int .i64 0, .int .i64 0, .nilm, .int .i64 0, .int .i64 0, .int .i64 0, .bool false, .int .i64 0, .int .i64 0, .str [], .int .i64 0, .int .i64 0, .int .i64 0, .int .i64 0, .nilm, .int .i64 0, .int .i64 0, .int .i64 0, .bool false, .int .i64 0, .int .i64 0, .str [], .int .i64 0, .int .i64 0, .int .i64 0, .int .i64 0, .nilm, .int .i64 0, .int .i64 0, .int .i64 0], .none⟩])
  (.seq (.reg [⟨some 11, none, .ld (.s 5) 192 true, .none⟩,
      ⟨some 12, none, .mv (.s 1), .none⟩,
      ⟨some 13, none, .fn (.func 32) [] [.s 7, .s 8, .s 9], .none⟩,
      ⟨some 14, none, .call 30 [.s 11, .s 12, .s 13] 0, .none⟩,
      ⟨none, none, .st (.s 10) (.s 14) 192, .none⟩])
  (.ret none)))
def ir10 : F := { n := 15, res := [.cell 10 192 true], body := bd10 }
@[go_sem] theorem n10 : ir10.n = 15 := rfl
@[go_sem] theorem r10 : ir10.res = [.cell 10 192 true] := rfl
@[go_sem] theorem b10 : ir10.body = bd10 := rfl
/-- (spence/index.Index).Forget -/
def bd11 : C :=
  (.seq (.reg [⟨some 4, none, .box 33 (.s 0), .none⟩,
      ⟨some 6, none, .box 3 (.s 2), .none⟩,
      ⟨some 7, none, .box 27 (.s 3), .none⟩,
      ⟨some 8, none, .alloc 33 [.bool false, .int .i64 0, .int .i64 0, .str [], .int .i64 0, .int .i64 0, .int .i64 0, .int .i64 0, .nilm, .int .i64 0, .int .i64 0, .int .i64 0, .bool false, .int .i64 0, .int .i64 0, .str [], .int .i64 0, .int .i64 0, .int .i64 0, .int .i64 0, .nilm, .int .i64 0, .int .i64 0, .int .i64 0, .bool false, .int .i64 0, .int .i64 0, .str [], .int .i64 0, .int .i64 0, .int .i64 0, .int .i64 0, .nilm, .int .i64 0, .int .i64 0, .int .i64 0, .bool false, .int .i64 0, .int .i64 0, .str [], .int .i64 0, .int .i64 0, .int .i64 0, .int .i64 0, .nilm, .int .i64 0, .int .i64 0, .int .i64 0, .bool false, .int .i64 0, .int .i64 0, .str [], .int .i64 0, .int .i64 0, .int .i64 0, .int .i64 0, .nilm, .int .i64 0, .int .i64 0, .int .i64 0, .bool false, .int .i64 0, .int .i64 0, .str [], .int .i64 0, .int .i64 0, .int .i64 0, .int .i64 0, .nilm, .int .i64 0, .int .i64 0, .int .i64 0, .bool false, .int .i64 0, .int .i64 0, .str [], .int .i64 0, .int .i64 0, .int .i64 0, .int .i64 0, .nilm, .int .i64 0, .int .i64 0, .int .i64 0, .bool false, .int .i64 0, .int .i64 0, .str [], .int .i64 0, .int .i64 0, .int .i64 0, .int .i64 0, .nilm, .int .i64 0, .int .i64 0, .int .i64 0, .bool false, .int .i64 0, .int .i64 0, .str [], .int .i64 0, .int .i64 0, .int .i64 0, .int .i64 0, .nilm, .int .i64 0, .int .i64 0, .int .i64 0, .bool false, .int .i64 0, .int .i64 0, .str [], .int .i64 0, .int .i64 0, .int .i64 0, .int .i64 0, .nilm, .int .i64 0, .int .i64 0, .int .i64 0, .bool false, .int .i64 0, .int .i64 0, .str [], .int .i64 0, .int .i64 0, .int .i64 0, .int .i64 0, .nilm, .int .i64 0, .int .i64 0, .int .i64 0, .bool false, .int .i64 0, .int .i64 0, .str [], .int .i64 0, .int .i64 0, .int .i64 0, .int .i64 0, .nilm, .int .i64 0, .int .i64 0, .int .i64 0, .bool false, .int .i64 0, .int .i64 0, .str [], .int .i64 0, .int .i64 0, .int .i64 0, .int .i64 0, .nilm, .int .i64 0, .int .i64 0, .int .i64 0, .bool false, .int .i64 0, .int .i64 0, .str [], .int .i64 0, .int .i64 0, .int .i64 0, .int .i64 0, .nilm, .int .i64 0, .int .i64 0, .int .i64 0, .bool false, .int .i64 0, .int .i64 0, .str [], .int .i64 0, .int .i64 0, .int .i64 0, .int .i64 0, .nilm, .int .i64 0, .int .i64 0, .int .i64 0, .bool false, .int .i64 0, .int .i64 0, .str [], .int .i64 0, .int .i64 0, .int .i64 0, .int .i64 0, .nilm, .int .i64 0, .int .i64 0, .int .i64 0], .none⟩])
  (.seq (.reg [⟨some 9, none, .ld (.s 4) 192 true, .none⟩,
      ⟨some 10, none, .mv (.s 1), .none⟩,
      ⟨some 11, none, .fn (.func 34) [] [.s 6, .s 7], .none⟩,
      ⟨some 12, none, .call 30 [.s 9, .s 10, .s 11] 0, .none⟩,
      ⟨none, none, .st (.s 8) (.s 12) 192, .none⟩])
  (.ret none)))
def ir11 : F := { n := 13, res := [.cell 8 192 true], body := bd11 }
@[go_sem] theorem n11 : ir11.n = 13 := rfl
@[go_sem] theorem r11 : ir11.res = [.cell 8 192 true] := rfl
@[go_sem] theorem b11 : ir11.body = bd11 := rfl
def lb12_0 : C :=
  (.seq (.reg [⟨some 9, none, .bin .lss (.s 8) (.c (.d (.int .i64 16))), .none⟩])
  (.seq (.cond (.s 9)
    .skip
    (.exit 0 (some [])))
  (.seq (.block 1 (.seq (.reg [⟨some 10, none, .mv (.s 8), .none⟩,
        ⟨some 5, none, .mv (.s 10), .none⟩])
    (.seq (.drr [⟨some 11, none, .mv (.s 5), .none⟩,
        ⟨some 12, none, .fa (.s 2) 0, .none⟩,
        ⟨some 13, none, .ia (.s 12) (.s 11) 16 12, .none⟩,
        ⟨some 14, none, .ld (.s 13) 12 true, .none⟩,
        ⟨some 15, none, .mv (.s 5), .none⟩,
        ⟨some 16, none, .fa (.s 3) 0, .none⟩,
        ⟨some 17, none, .ia (.s 16) (.s 15) 16 12, .none⟩,
        ⟨some 18, none, .ld (.s 17) 12 true, .none⟩,
        ⟨some 6, none, .alloc 30 [.bool false, .int .i64 0, .int .i64 0, .str [], .int .i64 0, .int .i64 0, .int .i64 0, .int .i64 0, .nilm, .int .i64 0, .int .i64 0, .int .i64 0], .res []⟩,
        ⟨some 7, none, .alloc 30 [.bool false, .int .i64 0, .int .i64 0, .str [], .int .i64 0, .int .i64 0, .int .i64 0, .int .i64 0, .nilm, .int .i64 0, .int .i64 0, .int .i64 0], .res []⟩,
        ⟨none, none, .st (.s 6) (.s 14) 12, .none⟩,
        ⟨none, none, .st (.s 7) (.s 18) 12, .none⟩]
       [[], [], [1, 0], [2], [], [], [5, 4], [6], [], [], [8, 3, 0, 1, 2, 3, 8, 9], [9, 7, 10, 0, 1, 2, 3, 4, 5, 6, 7, 8, 9, 10]] [(17, 6)] [] [])
    (.seq (.reg [⟨some 19, none, .fa (.s 6) 0, .none⟩,
        ⟨some 20, none, .ld (.s 19) 1 false, .none⟩,
        ⟨some 21, none, .fa (.s 7) 0, .none⟩,
        ⟨some 22, none, .ld (.s 21) 1 false, .none⟩,
        ⟨some 23, none, .beq true (.s 20) (.s 22), .none⟩,
        ⟨some 24, none, .mv (.s 23), .none⟩,
        ⟨some 25, some (24, false), .fa (.s 6) 1, .none⟩,
        ⟨some 26, some (24, false), .ld (.s 25) 5 true, .none⟩,
        ⟨some 27, some (24, false), .fa (.s 7) 1, .none⟩,
        ⟨some 28, some (24, false), .ld (.s 27) 5 true, .none⟩,
        ⟨some 29, some (24, false), .eqs true [1, 1, 2, 1, 1] (.s 26) (.s 28), .none⟩,
        ⟨some 30, none, .pick (.s 24) (.c (.d (.bool true))) (.s 29), .none⟩,
        ⟨some 31, none, .mv (.s 30), .none⟩,
        ⟨some 32, some (31, false), .fa (.s 6) 6, .none⟩,
        ⟨some 33, some (31, false), .ld (.s 32) 2 true, .none⟩,
        ⟨some 34, some (31, false), .fa (.s 7) 6, .none⟩,
        ⟨some 35, some (31, false), .ld (.s 34) 2 true, .none⟩,
        ⟨some 36, some (31, false), .eqs true [1, 1] (.s 33) (.s 35), .none⟩,
        ⟨some 37, none, .pick (.s 31) (.c (.d (.bool true))) (.s 36), .none⟩,
        ⟨some 38, none, .mv (.s 37), .none⟩,
        ⟨some 39, some (38, false), .fa (.s 6) 9, .none⟩,
        ⟨some 40, some (38, false), .ld (.s 39) 1 false, .none⟩,
        ⟨some 41, some (38, false), .fa (.s 7) 9, .none⟩,
        ⟨some 42, some (38, false), .ld (.s 41) 1 false, .none⟩,
        ⟨some 43, some (38, false), .bin .neq (.s 40) (.s 42), .none⟩,
        ⟨some 44, none, .pick (.s 38) (.c (.d (.bool true))) (.s 43), .none⟩,
        ⟨some 45, none, .mv (.s 44), .none⟩,
        ⟨some 46, some (45, false), .fa (.s 6) 10, .none⟩,
        ⟨some 47, some (45, false), .ld (.s 46) 2 true, .none⟩,
        ⟨some 48, some (45, false), .fa (.s 7) 10, .none⟩,
        ⟨some 49, some (45, false), .ld (.s 48) 2 true, .none⟩,
        ⟨some 50, some (45, false), .eqs true [1, 1] (.s 47) (.s 49), .none⟩,
        ⟨some 51, none, .pick (.s 45) (.c (.d (.bool true))) (.s 50), .none⟩,
        ⟨some 52, none, .mv (.s 51), .none⟩,
        ⟨some 53, some (52, false), .fa (.s 6) 8, .none⟩,
        ⟨some 54, some (52, false), .ld (.s 53) 1 false, .none⟩,
        ⟨some 55, some (52, false), .fa (.s 7) 8, .none⟩,
        ⟨some 56, some (52, false), .ld (.s 55) 1 false, .none⟩,
        ⟨some 57, some (52, false), .call 35 [.s 54, .s 56] 2, .none⟩,
        ⟨some 58, some (52, false), .un .not (.s 57), .none⟩,
        ⟨some 59, none, .pick (.s 52) (.c (.d (.bool true))) (.s 58), .none⟩])
    (.cond (.s 59)
     (.seq (.reg [⟨some 4, none, .mv (.c (.d (.bool false))), .none⟩])
     (.ret (some [4])))
     .skip)))))
  (.reg [⟨some 60, none, .bin .add (.s 8) (.c (.d (.int .i64 1))), .none⟩,
     ⟨some 8, none, .mv (.s 60), .none⟩]))))
def lp12_0 : C := lb12_0
theorem u12_0 (c : Ev.Callee) (l : Ev.Looper) (s : St) : evC c l lp12_0 s = evC c l lb12_0 s := rfl
abbrev st12_0 (m : Nat) (s2 s3 s8 : AV) (h : Heap) : St := ⟨m, [.unk, .unk, s2, s3, .unk, .unk, .unk, .unk, s8, .unk, .unk, .unk, .unk, .unk, .unk, .unk, .unk, .unk, .unk, .unk, .unk, .unk, .unk, .unk, .unk, .unk, .unk, .unk, .unk, .unk, .unk, .unk, .unk, .unk, .unk, .unk, .unk, .unk, .unk, .unk, .unk, .unk, .unk, .unk, .unk, .unk, .unk, .unk, .unk, .unk, .unk, .unk, .unk, .unk, .unk, .unk, .unk, .unk, .unk, .unk, .unk], h⟩
@[go_sem] theorem ks12_0 (v0 v1 v2 v3 v4 v5 v6 v7 v8 v9 v10 v11 v12 v13 v14 v15 v16 v17 v18 v19 v20 v21 v22 v23 v24 v25 v26 v27 v28 v29 v30 v31 v32 v33 v34 v35 v36 v37 v38 v39 v40 v41 v42 v43 v44 v45 v46 v47 v48 v49 v50 v51 v52 v53 v54 v55 v56 v57 v58 v59 v60 : AV) : keepS [2, 3, 8] [v0, v1, v2, v3, v4, v5, v6, v7, v8, v9, v10, v11, v12, v13, v14, v15, v16, v17, v18, v19, v20, v21, v22, v23, v24, v25, v26, v27, v28, v29, v30, v31, v32, v33, v34, v35, v36, v37, v38, v39, v40, v41, v42, v43, v44, v45, v46, v47, v48, v49, v50, v51, v52, v53, v54, v55, v56, v57, v58, v59, v60] 0 = [.unk, .unk, v2, v3, .unk, .unk, .unk, .unk, v8, .unk, .unk, .unk, .unk, .unk, .unk, .unk, .unk, .unk, .unk, .unk, .unk, .unk, .unk, .unk, .unk, .unk, .unk, .unk, .unk, .unk, .unk, .unk, .unk, .unk, .unk, .unk, .unk, .unk, .unk, .unk, .unk, .unk, .unk, .unk, .unk, .unk, .unk, .unk, .unk, .unk, .unk, .unk, .unk, .unk, .unk, .unk, .unk, .unk, .unk, .unk, .unk] := rfl
@[go_sem] theorem ks12_1 (v0 v1 v2 v3 v4 v5 v6 v7 v8 v9 v10 v11 v12 v13 v14 v15 v16 v17 v18 v19 v20 v21 v22 v23 v24 v25 v26 v27 v28 v29 v30 v31 v32 v33 v34 v35 v36 v37 v38 v39 v40 v41 v42 v43 v44 v45 v46 v47 v48 v49 v50 v51 v52 v53 v54 v55 v56 v57 v58 v59 v60 : AV) : keepS [] [v0, v1, v2, v3, v4, v5, v6, v7, v8, v9, v10, v11, v12, v13, v14, v15, v16, v17, v18, v19, v20, v21, v22, v23, v24, v25, v26, v27, v28, v29, v30, v31, v32, v33, v34, v35, v36, v37, v38, v39, v40, v41, v42, v43, v44, v45, v46, v47, v48, v49, v50, v51, v52, v53, v54, v55, v56, v57, v58, v59, v60] 0 = [.unk, .unk, .unk, .unk, .unk, .unk, .unk, .unk, .unk, .unk, .unk, .unk, .unk, .unk, .unk, .unk, .unk, .unk, .unk, .unk, .unk, .unk, .unk, .unk, .unk, .unk, .unk, .unk, .unk, .unk, .unk, .unk, .unk, .unk, .unk, .unk, .unk, .unk, .unk, .unk, .unk, .unk, .unk, .unk, .unk, .unk, .unk, .unk, .unk, .unk, .unk, .unk, .unk, .unk, .unk, .unk, .unk, .unk, .unk, .unk, .unk] := rfl
@[go_sem] theorem ks12_2 (v0 v1 v2 v3 v4 v5 v6 v7 v8 v9 v10 v11 v12 v13 v14 v15 v16 v17 v18 v19 v20 v21 v22 v23 v24 v25 v26 v27 v28 v29 v30 v31 v32 v33 v34 v35 v36 v37 v38 v39 v40 v41 v42 v43 v44 v45 v46 v47 v48 v49 v50 v51 v52 v53 v54 v55 v56 v57 v58 v59 v60 : AV) : keepS [4] [v0, v1, v2, v3, v4, v5, v6, v7, v8, v9, v10, v11, v12, v13, v14, v15, v16, v17, v18, v19, v20, v21, v22, v23, v24, v25, v26, v27, v28, v29, v30, v31, v32, v33, v34, v35, v36, v37, v38, v39, v40, v41, v42, v43, v44, v45, v46, v47, v48, v49, v50, v51, v52, v53, v54, v55, v56, v57, v58, v59, v60] 0 = [.unk, .unk, .unk, .unk, v4, .unk, .unk, .unk, .unk, .unk, .unk, .unk, .unk, .unk, .unk, .unk, .unk, .unk, .unk, .unk, .unk, .unk, .unk, .unk, .unk, .unk, .unk, .unk, .unk, .unk, .unk, .unk, .unk, .unk, .unk, .unk, .unk, .unk, .unk, .unk, .unk, .unk, .unk, .unk, .unk, .unk, .unk, .unk, .unk, .unk, .unk, .unk, .unk, .unk, .unk, .unk, .unk, .unk, .unk, .unk, .unk] := rfl
/-- spence/index.Same -/
def bd12 : C :=
  (.seq (.reg [⟨some 2, none, .box 33 (.s 0), .none⟩,
      ⟨some 3, none, .box 33 (.s 1), .none⟩,
      ⟨some 4, none, .mv (.c (.d (.bool false))), .none⟩])
  (.seq (.seq (.reg [⟨some 8, none, .mv (.c (.d (.int .i64 0))), .none⟩])
   (.block 0 (.loop [2, 3, 8] lp12_0)))
  (.seq (.reg [⟨some 4, none, .mv (.c (.d (.bool true))), .none⟩])
  (.ret none))))
def ir12 : F := { n := 61, res := [.tmp 4], body := bd12 }
@[go_sem] theorem n12 : ir12.n = 61 := rfl
@[go_sem] theorem r12 : ir12.res = [.tmp 4] := rfl
@[go_sem] theorem b12 : ir12.body = bd12 := rfl
/-- spence/index.New -/
def bd13 : C :=
  (.seq (.reg [⟨some 0, none, .alloc 33 [.bool false, .int .i64 0, .int .i64 0, .str [], .int .i64 0, .int .i64 0, .int .i64 0, .int .i64 0, .nilm, .int .i64 0, .int .i64 0, .int .i64 0, .bool false, .int .i64 0, .int .i64 0, .str [], .int .i64 0, .int .i64 0, .int .i64 0, .int .i64 0, .nilm, .int .i64 0, .int .i64 0, .int .i64 0, .bool false, .int .i64 0, .int .i64 0, .str [], .int .i64 0, .int .i64 0, .int .i64 0, .int .i64 0, .nilm, .int .i64 0, .int .i64 0, .int .i64 0, .bool false, .int .i64 0, .int .i64 0, .str [], .int .i64 0, .int .i64 0, .int .i64 0, .int .i64 0, .nilm, .int .i64 0, .int .i64 0, .int .i64 0, .bool false, .int .i64 0, .int .i64 0, .str [], .int .i64 0, .int .i64 0, .int .i64 0, .int .i64 0, .nilm, .int .i64 0, .int .i64 0, .int .i64 0, .bool false, .int .i64 0, .int .i64 0, .str [], .int .i64 0, .int .i64 0, .int .i64 0, .int .i64 0, .nilm, .int .i64 0, .int .i64 0, .int .i64 0, .bool false, .int .i64 0, .int .i64 0, .str [], .int .i64 0, .int .i64 0, .int .i64 0, .int .i64 0, .nilm, .int .i64 0, .int .i64 0, .int .i64 0, .bool false, .int .i64 0, .int .i64 0, .str [], .int .i64 0, .int .i64 0, .int .i64 0, .int .i64 0, .nilm, .int .i64 0, .int .i64 0, .int .i64 0, .bool false, .int .i64 0, .int .i64 0, .str [], .int .i64 0, .int .i64 0, .int .i64 0, .int .i64 0, .nilm, .int .i64 0, .int .i64 0, .int .i64 0, .bool false, .int .i64 0, .int .i64 0, .str [], .int .i64 0, .int .i64 0, .int .i64 0, .int .i64 0, .nilm, .int .i64 0, .int .i64 0, .int .i64 0, .bool false, .int .i64 0, .int .i64 0, .str [], .int .i64 0, .int .i64 0, .int .i64 0, .int .i64 0, .nilm, .int .i64 0, .int .i64 0, .int .i64 0, .bool false, .int .i64 0, .int .i64 0, .str [], .int .i64 0, .int .i64 0, .int .i64 0, .int .i64 0, .nilm, .int .i64 0, .int .i64 0, .int .i64 0, .bool false, .int .i64 0, .int .i64 0, .str [], .int .i64 0, .int .i64 0, .int .i64 0, .int .i64 0, .nilm, .int .i64 0, .int .i64 0, .int .i64 0, .bool false, .int .i64 0, .int .i64 0, .str [], .int .i64 0, .int .i64 0, .int .i64 0, .int .i64 0, .nilm, .int .i64 0, .int .i64 0, .int .i64 0, .bool false, .int .i64 0, .int .i64 0, .str [], .int .i64 0, .int .i64 0, .int .i64 0, .int .i64 0, .nilm, .int .i64 0, .int .i64 0, .int .i64 0, .bool false, .int .i64 0, .int .i64 0, .str [], .int .i64 0, .int .i64 0, .int .i64 0, .int .i64 0, .nilm, .int .i64 0, .int .i64 0, .int .i64 0], .none⟩])
  (.seq (.reg [⟨some 1, none, .build [.bool false, .int .i64 0, .int .i64 0, .str [], .int .i64 0, .int .i64 0, .int .i64 0, .int .i64 0, .nilm, .int .i64 0, .int .i64 0, .int .i64 0, .bool false, .int .i64 0, .int .i64 0, .str [], .int .i64 0, .int .i64 0, .int .i64 0, .int .i64 0, .nilm, .int .i64 0, .int .i64 0, .int .i64 0, .bool false, .int .i64 0, .int .i64 0, .str [], .int .i64 0, .int .i64 0, .int .i64 0, .int .i64 0, .nilm, .int .i64 0, .int .i64 0, .int .i64 0, .bool false, .int .i64 0, .int .i64 0, .str [], .int .i64 0, .int .i64 0, .int .i64 0, .int .i64 0, .nilm, .int .i64 0, .int .i64 0, .int .i64 0, .bool false, .int .i64 0, .int .i64 0, .str [], .int .i64 0, .int .i64 0, .int .i64 0, .int .i64 0, .nilm, .int .i64 0, .int .i64 0, .int .i64 0, .bool false, .int .i64 0, .int .i64 0, .str [], .int .i64 0, .int .i64 0, .int .i64 0, .int .i64 0, .nilm, .int .i64 0, .int .i64 0, .int .i64 0, .bool false, .int .i64 0, .int .i64 0, .str [], .int .i64 0, .int .i64 0, .int .i64 0, .int .i64 0, .nilm, .int .i64 0, .int .i64 0, .int .i64 0, .bool false, .int .i64 0, .int .i64 0, .str [], .int .i64 0, .int .i64 0, .int .i64 0, .int .i64 0, .nilm, .int .i64 0, .int .i64 0, .int .i64 0, .bool false, .int .i64 0, .int .i64 0, .str [], .int .i64 0, .int .i64 0, .int .i64 0, .int .i64 0, .nilm, .int .i64 0, .int .i64 0, .int .i64 0, .bool false, .int .i64 0, .int .i64 0, .str [], .int .i64 0, .int .i64 0, .int .i64 0, .int .i64 0, .nilm, .int .i64 0, .int .i64 0, .int .i64 0, .bool false, .int .i64 0, .int .i64 0, .str [], .int .i64 0, .int .i64 0, .int .i64 0, .int .i64 0, .nilm, .int .i64 0, .int .i64 0, .int .i64 0, .bool false, .int .i64 0, .int .i64 0, .str [], .int .i64 0, .int .i64 0, .int .i64 0, .int .i64 0, .nilm, .int .i64 0, .int .i64 0, .int .i64 0, .bool false, .int .i64 0, .int .i64 0, .str [], .int .i64 0, .int .i64 0, .int .i64 0, .int .i64 0, .nilm, .int .i64 0, .int .i64 0, .int .i64 0, .bool false, .int .i64 0, .int .i64 0, .str [], .int .i64 0, .int .i64 0, .int .i64 0, .int .i64 0, .nilm, .int .i64 0, .int .i64 0, .int .i64 0, .bool false, .int .i64 0, .int .i64 0, .str [], .int .i64 0, .int .i64 0, .int .i64 0, .int .i64 0, .nilm, .int .i64 0, .int .i64 0, .int .i64 0, .bool false, .int .i64 0, .int .i64 0, .str [], .int .i64 0, .int .i64 0, .int .i64 0, .int .i64 0, .nilm, .int .i64 0, .int .i64 0, .int .i64 0] [], .none⟩,
      ⟨none, none, .st (.s 0) (.s 1) 192, .none⟩])
  (.ret none)))
def ir13 : F := { n := 2, res := [.cell 0 192 true], body := bd13 }
@[go_sem] theorem n13 : ir13.n = 2 := rfl
@[go_sem] theorem r13 : ir13.res = [.cell 0 192 true] := rfl
@[go_sem] theorem b13 : ir13.body = bd13 := rfl
/-- (spence/index.Index).Bind -/
def bd14 : C :=
  (.seq (.reg [⟨some 2, none, .box 33 (.s 0), .none⟩,
      ⟨some 3, none, .box 25 (.s 1), .none⟩,
      ⟨some 4, none, .alloc 33 [.bool false, .int .i64 0, .int .i64 0, .str [], .int .i64 0, .int .i64 0, .int .i64 0, .int .i64 0, .nilm, .int .i64 0, .int .i64 0, .int .i64 0, .bool false, .int .i64 0, .int .i64 0, .str [], .int .i64 0, .int .i64 0, .int .i64 0, .int .i64 0, .nilm, .int .i64 0, .int .i64 0, .int .i64 0, .bool false, .int .i64 0, .int .i64 0, .str [], .int .i64 0, .int .i64 0, .int .i64 0, .int .i64 0, .nilm, .int .i64 0, .int .i64 0, .int .i64 0, .bool false, .int .i64 0, .int .i64 0, .str [], .int .i64 0, .int .i64 0, .int .i64 0, .int .i64 0, .nilm, .int .i64 0, .int .i64 0, .int .i64 0, .bool false, .int .i64 0, .int .i64 0, .str [], .int .i64 0, .int .i64 0, .int .i64 0, .int .i64 0, .nilm, .int .i64 0, .int .i64 0, .int .i64 0, .bool false, .int .i64 0, .int .i64 0, .str [], .int .i64 0, .int .i64 0, .int .i64 0, .int .i64 0, .nilm, .int .i64 0, .int .i64 0, .int .i64 0, .bool false, .int .i64 0, .int .i64 0, .str [], .int .i64 0, .int .i64 0, .int .i64 0, .int .i64 0, .nilm, .int .i64 0, .int .i64 0, .int .i64 0, .bool false, .int .i64 0, .int .i64 0, .str [], .int .i64 0, .int .i64 0, .int .i64 0, .int .i64 0, .nilm, .int .i64 0, .int .i64 0, .int .i64 0, .bool false, .int .i64 0, .int .i64 0, .str [], .int .i64 0, .int .i64 0, .int .i64 0, .int .i64 0, .nilm, .int .i64 0, .int .i64 0, .int .i64 0, .bool false, .int .i64 0, .int .i64 0, .str [], .int .i64 0, .int .i64 0, .int .i64 0, .int .i64 0, .nilm, .int .i64 0, .int .i64 0, .int .i64 0, .bool false, .int .i64 0, .int .i64 0, .str [], .int .i64 0, .int .i64 0, .int .i64 0, .int .i64 0, .nilm, .int .i64 0, .int .i64 0, .int .i64 0, .bool false, .int .i64 0, .int .i64 0, .str [], .int .i64 0, .int .i64 0, .int .i64 0, .int .i64 0, .nilm, .int .i64 0, .int .i64 0, .int .i64 0, .bool false, .int .i64 0, .int .i64 0, .str [], .int .i64 0, .int .i64 0, .int .i64 0, .int .i64 0, .nilm, .int .i64 0, .int .i64 0, .int .i64 0, .bool false, .int .i64 0, .int .i64 0, .str [], .int .i64 0, .int .i64 0, .int .i64 0, .int .i64 0, .nilm, .int .i64 0, .int .i64 0, .int .i64 0, .bool false, .int .i64 0, .int .i64 0, .str [], .int .i64 0, .int .i64 0, .int .i64 0, .int .i64 0, .nilm, .int .i64 0, .int .i64 0, .int .i64 0, .bool false, .int .i64 0, .int .i64 0, .str [], .int .i64 0, .int .i64 0, .int .i64 0, .int .i64 0, .nilm, .int .i64 0, .int .i64 0, .int .i64 0], .none⟩])
  (.seq (.reg [⟨some 5, none, .ld (.s 2) 192 true, .none⟩,
      ⟨some 6, none, .ld (.s 3) 5 true, .none⟩,
      ⟨some 7, none, .build [.int .i64 0, .int .i64 0] [], .none⟩,
      ⟨some 8, none, .call 9 [.s 5, .s 6, .s 7] 2, .none⟩,
      ⟨none, none, .st (.s 4) (.s 8) 192, .none⟩])
  (.ret none)))
def ir14 : F := { n := 9, res := [.cell 4 192 true], body := bd14 }
@[go_sem] theorem n14 : ir14.n = 9 := rfl
@[go_sem] theorem r14 : ir14.res = [.cell 4 192 true] := rfl
@[go_sem] theorem b14 : ir14.body = bd14 := rfl
/-- (spence/index.Index).Get -/
def bd15 : C :=
  (.seq (.reg [⟨some 2, none, .box 33 (.s 0), .none⟩,
      ⟨some 4, none, .alloc 25 [.int .i64 0, .int .i64 0, .str [], .int .i64 0, .int .i64 0], .none⟩,
      ⟨some 5, none, .mv (.c (.d (.bool false))), .none⟩])
  (.seq (.reg [⟨some 7, none, .ld (.s 2) 192 true, .none⟩,
      ⟨some 8, none, .mv (.s 1), .none⟩,
      ⟨some 9, none, .call 21 [.s 7, .s 8] 2, .none⟩,
      ⟨some 6, none, .alloc 30 [.bool false, .int .i64 0, .int .i64 0, .str [], .int .i64 0, .int .i64 0, .int .i64 0, .int .i64 0, .nilm, .int .i64 0, .int .i64 0, .int .i64 0], .none⟩,
      ⟨none, none, .st (.s 6) (.s 9) 12, .none⟩])
  (.seq (.drw [⟨some 10, none, .fa (.s 6) 1, .none⟩,
      ⟨some 11, none, .ld (.s 10) 5 true, .none⟩,
      ⟨some 12, none, .fa (.s 6) 0, .none⟩,
      ⟨some 13, none, .ld (.s 12) 1 false, .none⟩,
      ⟨none, none, .st (.s 4) (.s 11) 5, .none⟩,
      ⟨some 5, none, .mv (.s 13), .none⟩]
     [[], [0], [], [2], [1, 0, 1], [3, 4, 0, 1, 2, 3, 4]] [(12, 4)])
  (.ret none))))
def ir15 : F := { n := 14, res := [.cell 4 5 true, .tmp 5], body := bd15 }
@[go_sem] theorem n15 : ir15.n = 14 := rfl
@[go_sem] theorem r15 : ir15.res = [.cell 4 5 true, .tmp 5] := rfl
@[go_sem] theorem b15 : ir15.body = bd15 := rfl
/-- (spence/index.Index).Drop -/
def bd16 : C :=
  (.seq (.reg [⟨some 3, none, .box 33 (.s 0), .none⟩,
      ⟨some 6, none, .alloc 33 [.bool false, .int .i64 0, .int .i64 0, .str [], .int .i64 0, .int .i64 0, .int .i64 0, .int .i64 0, .nilm, .int .i64 0, .int .i64 0, .int .i64 0, .bool false, .int .i64 0, .int .i64 0, .str [], .int .i64 0, .int .i64 0, .int .i64 0, .int .i64 0, .nilm, .int .i64 0, .int .i64 0, .int .i64 0, .bool false, .int .i64 0, .int .i64 0, .str [], .int .i64 0, .int .i64 0, .int .i64 0, .int .i64 0, .nilm, .int .i64 0, .int .i64 0, .int .i64 0, .bool false, .int .i64 0, .int .i64 0, .str [], .int .i64 0, .int .i64 0, .int .i64 0, .int .i64 0, .nilm, .int .i64 0, .int .i64 0, .int .i64 0, .bool false, .int .i64 0, .int .i64 0, .str [], .int .i64 0, .int .i64 0, .int .i64 0, .int .i64 0, .nilm, .int .i64 0, .int .i64 0, .int .i64 0, .bool false, .int .i64 0, .int .i64 0, .str [], .int .i64 0, .int .i64 0, .int .i64 0, .int .i64 0, .nilm, .int .i64 0, .int .i64 0, .int .i64 0, .bool false, .int .i64 0, .int .i64 0, .str [], .int .i64 0, .int .i64 0, .int .i64 0, .int .i64 0, .nilm, .int .i64 0, .int .i64 0, .int .i64 0, .bool false, .int .i64 0, .int .i64 0, .str [], .int .i64 0, .int .i64 0, .int .i64 0, .int .i64 0, .nilm, .int .i64 0, .int .i64 0, .int .i64 0, .bool false, .int .i64 0, .int .i64 0, .str [], .int .i64 0, .int .i64 0, .int .i64 0, .int .i64 0, .nilm, .int .i64 0, .int .i64 0, .int .i64 0, .bool false, .int .i64 0, .int .i64 0, .str [], .int .i64 0, .int .i64 0, .int .i64 0, .int .i64 0, .nilm, .int .i64 0, .int .i64 0, .int .i64 0, .bool false, .int .i64 0, .int .i64 0, .str [], .int .i64 0, .int .i64 0, .int .i64 0, .int .i64 0, .nilm, .int .i64 0, .int .i64 0, .int .i64 0, .bool false, .int .i64 0, .int .i64 0, .str [], .int .i64 0, .int .i64 0, .int .i64 0, .int .i64 0, .nilm, .int .i64 0, .int .i64 0, .int .i64 0, .bool false, .int .i64 0, .int .i64 0, .str [], .int .i64 0, .int .i64 0, .int .i64 0, .int .i64 0, .nilm, .int .i64 0, .int .i64 0, .int .i64 0, .bool false, .int .i64 0, .int .i64 0, .str [], .int .i64 0, .int .i64 0, .int .i64 0, .int .i64 0, .nilm, .int .i64 0, .int .i64 0, .int .i64 0, .bool false, .int .i64 0, .int .i64 0, .str [], .int .i64 0, .int .i64 0, .int .i64 0, .int .i64 0, .nilm, .int .i64 0, .int .i64 0, .int .i64 0, .bool false, .int .i64 0, .int .i64 0, .str [], .int .i64 0, .int .i64 0, .int .i64 0, .int .i64 0, .nilm, .int .i64 0, .int .i64 0, .int .i64 0], .none⟩])
  (.seq (.reg [⟨some 7, none, .ld (.s 3) 192 true, .none⟩,
      ⟨some 8, none, .mv (.s 1), .none⟩,
      ⟨some 9, none, .mv (.s 2), .none⟩,
      ⟨some 10, none, .build [.int .i64 0, .int .i64 0] [], .none⟩,
      ⟨some 11, none, .call 11 [.s 7, .s 8, .s 9, .s 10] 2, .none⟩,
      ⟨none, none, .st (.s 6) (.s 11) 192, .none⟩])
  (.ret none)))
def ir16 : F := { n := 12, res := [.cell 6 192 true], body := bd16 }
@[go_sem] theorem n16 : ir16.n = 12 := rfl
@[go_sem] theorem r16 : ir16.res = [.cell 6 192 true] := rfl
@[go_sem] theorem b16 : ir16.body = bd16 := rfl
/-- (spence/index.Index).Floor -/
def bd17 : C :=
  (.seq (.reg [⟨some 2, none, .box 33 (.s 0), .none⟩,
      ⟨some 4, none, .mv (.c (.d (.int .i64 0))), .none⟩])
  (.seq (.reg [⟨some 5, none, .ld (.s 2) 192 true, .none⟩,
      ⟨some 6, none, .mv (.s 1), .none⟩,
      ⟨some 7, none, .call 21 [.s 5, .s 6] 2, .none⟩,
      ⟨some 8, none, .fld (.s 7) 9 1 false, .none⟩,
      ⟨some 4, none, .mv (.s 8), .none⟩])
  (.ret none)))
def ir17 : F := { n := 9, res := [.tmp 4], body := bd17 }
@[go_sem] theorem n17 : ir17.n = 9 := rfl
@[go_sem] theorem r17 : ir17.res = [.tmp 4] := rfl
@[go_sem] theorem b17 : ir17.body = bd17 := rfl
def lb18_0 : C :=
  (.seq (.reg [⟨some 59, none, .bin .lss (.s 58) (.s 57), .none⟩])
  (.seq (.cond (.s 59)
    .skip
    (.exit 0 (some [0, 1, 3, 9, 10, 11])))
  (.seq (.block 1 (.seq (.reg [⟨some 60, none, .is (.s 56) (.s 58) 3, .none⟩,
        ⟨some 61, none, .ld (.s 60) 3 true, .none⟩,
        ⟨some 13, none, .alloc 47 [.int .i64 0, .int .i64 0, .int .i64 0], .none⟩,
        ⟨none, none, .st (.s 13) (.s 61) 3, .none⟩])
    (.seq (.seq (.reg [⟨some 62, none, .fa (.s 13) 0, .none⟩,
         ⟨some 63, none, .ld (.s 62) 1 false, .none⟩,
         ⟨some 64, none, .mv (.s 3), .none⟩,
         ⟨some 65, none, .bin .geq (.s 63) (.s 64), .none⟩,
         ⟨some 66, none, .mv (.s 65), .none⟩,
         ⟨some 67, some (66, true), .mv (.s 11), .none⟩,
         ⟨some 68, some (66, true), .un .not (.s 67), .none⟩,
         ⟨some 69, none, .pick (.s 66) (.s 68) (.c (.d (.bool false))), .none⟩])
     (.cond (.s 69)
      (.seq (.reg [⟨some 70, none, .mv (.s 10), .none⟩,
          ⟨some 71, none, .mv (.s 3), .none⟩,
          ⟨some 72, none, .ld (.s 9) 2 true, .none⟩,
          ⟨some 73, none, .build [.int .i64 0, .int .i64 0, .int .i64 0] [(0, (1, .s 71)), (1, (2, .s 72))], .none⟩,
          ⟨some 74, none, .bsl 47 3 1 [.int .i64 0, .int .i64 0, .int .i64 0] [(0, (3, .s 73))], .none⟩,
          ⟨some 75, none, .app 47 3 24 (.s 70) (.s 74), .none⟩,
          ⟨some 10, none, .mv (.s 75), .none⟩])
      (.reg [⟨some 11, none, .mv (.c (.d (.bool true))), .none⟩]))
      .skip))
    (.ann [0, 1, 3, 9, 10, 11, 13, 56, 57, 58] (.seq (.reg [⟨some 76, none, .fa (.s 13) 0, .none⟩,
        ⟨some 77, none, .ld (.s 76) 1 false, .none⟩,
        ⟨some 78, none, .mv (.s 3), .none⟩,
        ⟨some 79, none, .bin .neq (.s 77) (.s 78), .none⟩])
    (.cond (.s 79)
     (.reg [⟨some 80, none, .mv (.s 10), .none⟩,
        ⟨some 81, none, .ld (.s 13) 3 true, .none⟩,
        ⟨some 82, none, .bsl 47 3 1 [.int .i64 0, .int .i64 0, .int .i64 0] [(0, (3, .s 81))], .none⟩,
        ⟨some 83, none, .app 47 3 24 (.s 80) (.s 82), .none⟩,
        ⟨some 10, none, .mv (.s 83), .none⟩])
     .skip))))))
  (.reg [⟨some 84, none, .bin .add (.s 58) (.c (.d (.int .i64 1))), .none⟩,
     ⟨some 58, none, .mv (.s 84), .none⟩]))))
def lp18_0 : C := lb18_0
theorem u18_0 (c : Ev.Callee) (l : Ev.Looper) (s : St) : evC c l lp18_0 s = evC c l lb18_0 s := rfl
abbrev st18_0 (m : Nat) (s0 s1 s3 s9 s10 s11 s56 s57 s58 : AV) (h : Heap) : St := ⟨m, [s0, s1, .unk, s3, .unk, .unk, .unk, .unk, .unk, s9, s10, s11, .unk, .unk, .unk, .unk, .unk, .unk, .unk, .unk, .unk, .unk, .unk, .unk, .unk, .unk, .unk, .unk, .unk, .unk, .unk, .unk, .unk, .unk, .unk, .unk, .unk, .unk, .unk, .unk, .unk, .unk, .unk, .unk, .unk, .unk, .unk, .unk, .unk, .unk, .unk, .unk, .unk, .unk, .unk, .unk, s56, s57, s58, .unk, .unk, .unk, .unk, .unk, .unk, .unk, .unk, .unk, .unk, .unk, .unk, .unk, .unk, .unk, .unk, .unk, .unk, .unk, .unk, .unk, .unk, .unk, .unk, .unk, .unk, .unk, .unk, .unk, .unk, .unk, .unk, .unk, .unk, .unk, .unk, .unk, .unk, .unk, .unk, .unk], h⟩
@[go_sem] theorem ks18_0 (v0 v1 v2 v3 v4 v5 v6 v7 v8 v9 v10 v11 v12 v13 v14 v15 v16 v17 v18 v19 v20 v21 v22 v23 v24 v25 v26 v27 v28 v29 v30 v31 v32 v33 v34 v35 v36 v37 v38 v39 v40 v41 v42 v43 v44 v45 v46 v47 v48 v49 v50 v51 v52 v53 v54 v55 v56 v57 v58 v59 v60 v61 v62 v63 v64 v65 v66 v67 v68 v69 v70 v71 v72 v73 v74 v75 v76 v77 v78 v79 v80 v81 v82 v83 v84 v85 v86 v87 v88 v89 v90 v91 v92 v93 v94 v95 v96 v97 v98 v99 : AV) : keepS [0, 1, 3, 9, 10, 11, 56, 57, 58] [v0, v1, v2, v3, v4, v5, v6, v7, v8, v9, v10, v11, v12, v13, v14, v15, v16, v17, v18, v19, v20, v21, v22, v23, v24, v25, v26, v27, v28, v29, v30, v31, v32, v33, v34, v35, v36, v37, v38, v39, v40, v41, v42, v43, v44, v45, v46, v47, v48, v49, v50, v51, v52, v53, v54, v55, v56, v57, v58, v59, v60, v61, v62, v63, v64, v65, v66, v67, v68, v69, v70, v71, v72, v73, v74, v75, v76, v77, v78, v79, v80, v81, v82, v83, v84, v85, v86, v87, v88, v89, v90, v91, v92, v93, v94, v95, v96, v97, v98, v99] 0 = [v0, v1, .unk, v3, .unk, .unk, .unk, .unk, .unk, v9, v10, v11, .unk, .unk, .unk, .unk, .unk, .unk, .unk, .unk, .unk, .unk, .unk, .unk, .unk, .unk, .unk, .unk, .unk, .unk, .unk, .unk, .unk, .unk, .unk, .unk, .unk, .unk, .unk, .unk, .unk, .unk, .unk, .unk, .unk, .unk, .unk, .unk, .unk, .unk, .unk, .unk, .unk, .unk, .unk, .unk, v56, v57, v58, .unk, .unk, .unk, .unk, .unk, .unk, .unk, .unk, .unk, .unk, .unk, .unk, .unk, .unk, .unk, .unk, .unk, .unk, .unk, .unk, .unk, .unk, .unk, .unk, .unk, .unk, .unk, .unk, .unk, .unk, .unk, .unk, .unk, .unk, .unk, .unk, .unk, .unk, .unk, .unk, .unk] := rfl
@[go_sem] theorem ks18_1 (v0 v1 v2 v3 v4 v5 v6 v7 v8 v9 v10 v11 v12 v13 v14 v15 v16 v17 v18 v19 v20 v21 v22 v23 v24 v25 v26 v27 v28 v29 v30 v31 v32 v33 v34 v35 v36 v37 v38 v39 v40 v41 v42 v43 v44 v45 v46 v47 v48 v49 v50 v51 v52 v53 v54 v55 v56 v57 v58 v59 v60 v61 v62 v63 v64 v65 v66 v67 v68 v69 v70 v71 v72 v73 v74 v75 v76 v77 v78 v79 v80 v81 v82 v83 v84 v85 v86 v87 v88 v89 v90 v91 v92 v93 v94 v95 v96 v97 v98 v99 : AV) : keepS [0, 1, 3, 9, 10, 11] [v0, v1, v2, v3, v4, v5, v6, v7, v8, v9, v10, v11, v12, v13, v14, v15, v16, v17, v18, v19, v20, v21, v22, v23, v24, v25, v26, v27, v28, v29, v30, v31, v32, v33, v34, v35, v36, v37, v38, v39, v40, v41, v42, v43, v44, v45, v46, v47, v48, v49, v50, v51, v52, v53, v54, v55, v56, v57, v58, v59, v60, v61, v62, v63, v64, v65, v66, v67, v68, v69, v70, v71, v72, v73, v74, v75, v76, v77, v78, v79, v80, v81, v82, v83, v84, v85, v86, v87, v88, v89, v90, v91, v92, v93, v94, v95, v96, v97, v98, v99] 0 = [v0, v1, .unk, v3, .unk, .unk, .unk, .unk, .unk, v9, v10, v11, .unk, .unk, .unk, .unk, .unk, .unk, .unk, .unk, .unk, .unk, .unk, .unk, .unk, .unk, .unk, .unk, .unk, .unk, .unk, .unk, .unk, .unk, .unk, .unk, .unk, .unk, .unk, .unk, .unk, .unk, .unk, .unk, .unk, .unk, .unk, .unk, .unk, .unk, .unk, .unk, .unk, .unk, .unk, .unk, .unk, .unk, .unk, .unk, .unk, .unk, .unk, .unk, .unk, .unk, .unk, .unk, .unk, .unk, .unk, .unk, .unk, .unk, .unk, .unk, .unk, .unk, .unk, .unk, .unk, .unk, .unk, .unk, .unk, .unk, .unk, .unk, .unk, .unk, .unk, .unk, .unk, .unk, .unk, .unk, .unk, .unk, .unk, .unk] := rfl
@[go_sem] theorem ks18_2 (v0 v1 v2 v3 v4 v5 v6 v7 v8 v9 v10 v11 v12 v13 v14 v15 v16 v17 v18 v19 v20 v21 v22 v23 v24 v25 v26 v27 v28 v29 v30 v31 v32 v33 v34 v35 v36 v37 v38 v39 v40 v41 v42 v43 v44 v45 v46 v47 v48 v49 v50 v51 v52 v53 v54 v55 v56 v57 v58 v59 v60 v61 v62 v63 v64 v65 v66 v67 v68 v69 v70 v71 v72 v73 v74 v75 v76 v77 v78 v79 v80 v81 v82 v83 v84 v85 v86 v87 v88 v89 v90 v91 v92 v93 v94 v95 v96 v97 v98 v99 : AV) : keepS [0, 1, 3, 9, 10, 11, 13, 56, 57, 58] [v0, v1, v2, v3, v4, v5, v6, v7, v8, v9, v10, v11, v12, v13, v14, v15, v16, v17, v18, v19, v20, v21, v22, v23, v24, v25, v26, v27, v28, v29, v30, v31, v32, v33, v34, v35, v36, v37, v38, v39, v40, v41, v42, v43, v44, v45, v46, v47, v48, v49, v50, v51, v52, v53, v54, v55, v56, v57, v58, v59, v60, v61, v62, v63, v64, v65, v66, v67, v68, v69, v70, v71, v72, v73, v74, v75, v76, v77, v78, v79, v80, v81, v82, v83, v84, v85, v86, v87, v88, v89, v90, v91, v92, v93, v94, v95, v96, v97, v98, v99] 0 = [v0, v1, .unk, v3, .unk, .unk, .unk, .unk, .unk, v9, v10, v11, .unk, v13, .unk, .unk, .unk, .unk, .unk, .unk, .unk, .unk, .unk, .unk, .unk, .unk, .unk, .unk, .unk, .unk, .unk, .unk, .unk, .unk, .unk, .unk, .unk, .unk, .unk, .unk, .unk, .unk, .unk, .unk, .unk, .unk, .unk, .unk, .unk, .unk, .unk, .unk, .unk, .unk, .unk, .unk, v56, v57, v58, .unk, .unk, .unk, .unk, .unk, .unk, .unk, .unk, .unk, .unk, .unk, .unk, .unk, .unk, .unk, .unk, .unk, .unk, .unk, .unk, .unk, .unk, .unk, .unk, .unk, .unk, .unk, .unk, .unk, .unk, .unk, .unk, .unk, .unk, .unk, .unk, .unk, .unk, .unk, .unk, .unk] := rfl
@[go_sem] theorem ks18_3 (v0 v1 v2 v3 v4 v5 v6 v7 v8 v9 v10 v11 v12 v13 v14 v15 v16 v17 v18 v19 v20 v21 v22 v23 v24 v25 v26 v27 v28 v29 v30 v31 v32 v33 v34 v35 v36 v37 v38 v39 v40 v41 v42 v43 v44 v45 v46 v47 v48 v49 v50 v51 v52 v53 v54 v55 v56 v57 v58 v59 v60 v61 v62 v63 v64 v65 v66 v67 v68 v69 v70 v71 v72 v73 v74 v75 v76 v77 v78 v79 v80 v81 v82 v83 v84 v85 v86 v87 v88 v89 v90 v91 v92 v93 v94 v95 v96 v97 v98 v99 : AV) : keepS [0, 1, 10] [v0, v1, v2, v3, v4, v5, v6, v7, v8, v9, v10, v11, v12, v13, v14, v15, v16, v17, v18, v19, v20, v21, v22, v23, v24, v25, v26, v27, v28, v29, v30, v31, v32, v33, v34, v35, v36, v37, v38, v39, v40, v41, v42, v43, v44, v45, v46, v47, v48, v49, v50, v51, v52, v53, v54, v55, v56, v57, v58, v59, v60, v61, v62, v63, v64, v65, v66, v67, v68, v69, v70, v71, v72, v73, v74, v75, v76, v77, v78, v79, v80, v81, v82, v83, v84, v85, v86, v87, v88, v89, v90, v91, v92, v93, v94, v95, v96, v97, v98, v99] 0 = [v0, v1, .unk, .unk, .unk, .unk, .unk, .unk, .unk, .unk, v10, .unk, .unk, .unk, .unk, .unk, .unk, .unk, .unk, .unk, .unk, .unk, .unk, .unk, .unk, .unk, .unk, .unk, .unk, .unk, .unk, .unk, .unk, .unk, .unk, .unk, .unk, .unk, .unk, .unk, .unk, .unk, .unk, .unk, .unk, .unk, .unk, .unk, .unk, .unk, .unk, .unk, .unk, .unk, .unk, .unk, .unk, .unk, .unk, .unk, .unk, .unk, .unk, .unk, .unk, .unk, .unk, .unk, .unk, .unk, .unk, .unk, .unk, .unk, .unk, .unk, .unk, .unk, .unk, .unk, .unk, .unk, .unk, .unk, .unk, .unk, .unk, .unk, .unk, .unk, .unk, .unk, .unk, .unk, .unk, .unk, .unk, .unk, .unk, .unk] := rfl
/-- (*spence/spenceref17.Index).Piece -/
def bd18 : C :=
  (.seq (.reg [⟨some 9, none, .box 27 (.s 4), .none⟩])
  (.seq (.seq (.reg [⟨some 14, none, .mv (.s 1), .none⟩,
       ⟨some 15, none, .bin .lss (.s 14) (.c (.d (.int .i64 0))), .none⟩,
       ⟨some 16, none, .mv (.s 15), .none⟩,
       ⟨some 17, some (16, false), .mv (.s 1), .none⟩,
       ⟨some 18, some (16, false), .bin .gtr (.s 17) (.c (.d (.int .i64 15))), .none⟩,
       ⟨some 19, none, .pick (.s 16) (.c (.d (.bool true))) (.s 18), .none⟩,
       ⟨some 20, none, .mv (.s 19), .none⟩,
       ⟨some 21, some (20, false), .mv (.s 0), .none⟩,
       ⟨some 22, some (20, false), .mv (.s 1), .none⟩,
       ⟨some 23, some (20, false), .nc (.s 21), .none⟩,
       ⟨some 24, some (20, false), .fa (.s 23) 0, .none⟩,
       ⟨some 25, some (20, false), .ia (.s 24) (.s 22) 16 12, .none⟩,
       ⟨some 26, some (20, false), .fa (.s 25) 0, .none⟩,
       ⟨some 27, some (20, false), .ld (.s 26) 1 false, .none⟩,
       ⟨some 28, some (20, false), .un .not (.s 27), .none⟩,
       ⟨some 29, none, .pick (.s 20) (.c (.d (.bool true))) (.s 28), .none⟩,
       ⟨some 30, none, .mv (.s 29), .none⟩,
       ⟨some 31, some (30, false), .mv (.s 0), .none⟩,
       ⟨some 32, some (30, false), .mv (.s 1), .none⟩,
       ⟨some 33, some (30, false), .nc (.s 31), .none⟩,
       ⟨some 34, some (30, false), .fa (.s 33) 0, .none⟩,
       ⟨some 35, some (30, false), .ia (.s 34) (.s 32) 16 12, .none⟩,
       ⟨some 36, some (30, false), .fa (.s 35) 1, .none⟩,
       ⟨some 37, some (30, false), .fa (.s 36) 1, .none⟩,
       ⟨some 38, some (30, false), .ld (.s 37) 1 false, .none⟩,
       ⟨some 39, some (30, false), .mv (.s 2), .none⟩,
       ⟨some 40, some (30, false), .bin .neq (.s 38) (.s 39), .none⟩,
       ⟨some 41, none, .pick (.s 30) (.c (.d (.bool true))) (.s 40), .none⟩,
       ⟨some 42, none, .mv (.s 41), .none⟩,
       ⟨some 43, some (42, false), .mv (.s 3), .none⟩,
       ⟨some 44, some (42, false), .bin .lss (.s 43) (.c (.d (.int .i64 0))), .none⟩,
       ⟨some 45, none, .pick (.s 42) (.c (.d (.bool true))) (.s 44), .none⟩,
       ⟨some 46, none, .mv (.s 45), .none⟩,
       ⟨some 47, some (46, false), .mv (.s 3), .none⟩,
       ⟨some 48, some (46, false), .bin .gtr (.s 47) (.c (.d (.int .i64 4096))), .none⟩,
       ⟨some 49, none, .pick (.s 46) (.c (.d (.bool true))) (.s 48), .none⟩])
   (.cond (.s 49)
    (.ret none)
    .skip))
  (.seq (.reg [⟨some 10, none, .mv (.c (.d .nils)), .one 3 true⟩])
  (.seq (.reg [⟨some 11, none, .mv (.c (.d (.bool false))), .none⟩])
  (.seq (.seq (.reg [⟨some 50, none, .mv (.s 0), .none⟩,
       ⟨some 51, none, .mv (.s 1), .none⟩,
       ⟨some 52, none, .nc (.s 50), .none⟩,
       ⟨some 53, none, .fa (.s 52) 0, .none⟩,
       ⟨some 54, none, .ia (.s 53) (.s 51) 16 12, .none⟩,
       ⟨some 55, none, .fa (.s 54) 8, .none⟩,
       ⟨some 56, none, .ld (.s 55) 1 false, .none⟩,
       ⟨some 57, none, .len (.s 56), .none⟩,
       ⟨some 58, none, .mv (.c (.d (.int .i64 0))), .none⟩])
   (.block 0 (.loop [0, 1, 3, 9, 10, 11, 56, 57, 58] lp18_0)))
  (.seq (.seq (.reg [⟨some 85, none, .mv (.s 11), .none⟩,
       ⟨some 86, none, .un .not (.s 85), .none⟩])
   (.cond (.s 86)
    (.reg [⟨some 87, none, .mv (.s 10), .none⟩,
       ⟨some 88, none, .mv (.s 3), .none⟩,
       ⟨some 89, none, .ld (.s 9) 2 true, .none⟩,
       ⟨some 90, none, .build [.int .i64 0, .int .i64 0, .int .i64 0] [(0, (1, .s 88)), (1, (2, .s 89))], .none⟩,
       ⟨some 91, none, .bsl 47 3 1 [.int .i64 0, .int .i64 0, .int .i64 0] [(0, (3, .s 90))], .none⟩,
       ⟨some 92, none, .app 47 3 24 (.s 87) (.s 91), .none⟩,
       ⟨some 10, none, .mv (.s 92), .none⟩])
    .skip))
  (.ann [0, 1, 10] (.reg [⟨some 93, none, .mv (.s 0), .none⟩,
     ⟨some 94, none, .mv (.s 1), .none⟩,
     ⟨some 95, none, .mv (.s 10), .frz⟩,
     ⟨some 96, none, .nc (.s 93), .none⟩,
     ⟨some 97, none, .fa (.s 96) 0, .none⟩,
     ⟨some 98, none, .ia (.s 97) (.s 94) 16 12, .none⟩,
     ⟨some 99, none, .fa (.s 98) 8, .none⟩,
     ⟨none, none, .st (.s 99) (.s 95) 1, .none⟩]))))))))
def ir18 : F := { n := 100, res := [], body := bd18 }
@[go_sem] theorem n18 : ir18.n = 100 := rfl
@[go_sem] theorem r18 : ir18.res = [] := rfl
@[go_sem] theorem b18 : ir18.body = bd18 := rfl
@[go_sem] theorem ks19_0 (v0 v1 v2 v3 v4 v5 v6 v7 v8 v9 v10 v11 v12 v13 v14 v15 v16 v17 v18 v19 v20 v21 v22 v23 v24 v25 v26 v27 v28 v29 v30 v31 v32 v33 v34 v35 v36 v37 v38 v39 v40 v41 v42 v43 v44 v45 v46 v47 v48 v49 v50 v51 v52 : AV) : keepS [0, 1, 2, 8] [v0, v1, v2, v3, v4, v5, v6, v7, v8, v9, v10, v11, v12, v13, v14, v15, v16, v17, v18, v19, v20, v21, v22, v23, v24, v25, v26, v27, v28, v29, v30, v31, v32, v33, v34, v35, v36, v37, v38, v39, v40, v41, v42, v43, v44, v45, v46, v47, v48, v49, v50, v51, v52] 0 = [v0, v1, v2, .unk, .unk, .unk, .unk, .unk, v8, .unk, .unk, .unk, .unk, .unk, .unk, .unk, .unk, .unk, .unk, .unk, .unk, .unk, .unk, .unk, .unk, .unk, .unk, .unk, .unk, .unk, .unk, .unk, .unk, .unk, .unk, .unk, .unk, .unk, .unk, .unk, .unk, .unk, .unk, .unk, .unk, .unk, .unk, .unk, .unk, .unk, .unk, .unk, .unk] := rfl
@[go_sem] theorem ks19_1 (v0 v1 v2 v3 v4 v5 v6 v7 v8 v9 v10 v11 v12 v13 v14 v15 v16 v17 v18 v19 v20 v21 v22 v23 v24 v25 v26 v27 v28 v29 v30 v31 v32 v33 v34 v35 v36 v37 v38 v39 v40 v41 v42 v43 v44 v45 v46 v47 v48 v49 v50 v51 v52 : AV) : keepS [0, 1, 8] [v0, v1, v2, v3, v4, v5, v6, v7, v8, v9, v10, v11, v12, v13, v14, v15, v16, v17, v18, v19, v20, v21, v22, v23, v24, v25, v26, v27, v28, v29, v30, v31, v32, v33, v34, v35, v36, v37, v38, v39, v40, v41, v42, v43, v44, v45, v46, v47, v48, v49, v50, v51, v52] 0 = [v0, v1, .unk, .unk, .unk, .unk, .unk, .unk, v8, .unk, .unk, .unk, .unk, .unk, .unk, .unk, .unk, .unk, .unk, .unk, .unk, .unk, .unk, .unk, .unk, .unk, .unk, .unk, .unk, .unk, .unk, .unk, .unk, .unk, .unk, .unk, .unk, .unk, .unk, .unk, .unk, .unk, .unk, .unk, .unk, .unk, .unk, .unk, .unk, .unk, .unk, .unk, .unk] := rfl
/-- (*spence/spenceref17.Index).Forget -/
def bd19 : C :=
  (.seq (.reg [⟨some 7, none, .box 27 (.s 3), .none⟩])
  (.seq (.seq (.reg [⟨some 9, none, .mv (.s 1), .none⟩,
       ⟨some 10, none, .bin .lss (.s 9) (.c (.d (.int .i64 0))), .none⟩,
       ⟨some 11, none, .mv (.s 10), .none⟩,
       ⟨some 12, some (11, false), .mv (.s 1), .none⟩,
       ⟨some 13, some (11, false), .bin .gtr (.s 12) (.c (.d (.int .i64 15))), .none⟩,
       ⟨some 14, none, .pick (.s 11) (.c (.d (.bool true))) (.s 13), .none⟩])
   (.cond (.s 14)
    (.ret none)
    .skip))
  (.seq (.reg [⟨some 15, none, .mv (.s 0), .none⟩,
      ⟨some 16, none, .mv (.s 1), .none⟩,
      ⟨some 17, none, .nc (.s 15), .none⟩,
      ⟨some 18, none, .fa (.s 17) 0, .none⟩,
      ⟨some 19, none, .ia (.s 18) (.s 16) 16 12, .none⟩,
      ⟨some 20, none, .ld (.s 19) 12 true, .none⟩,
      ⟨some 8, none, .alloc 42 [.bool false, .int .i64 0, .int .i64 0, .str [], .int .i64 0, .int .i64 0, .int .i64 0, .int .i64 0, .nils, .int .i64 0, .int .i64 0, .int .i64 0], .cells [(8, 3, false)]⟩,
      ⟨none, none, .st (.s 8) (.s 20) 12, .none⟩])
  (.seq (.seq (.reg [⟨some 21, none, .mv (.s 2), .none⟩,
       ⟨some 22, none, .bin .gtr (.s 21) (.c (.d (.int .i64 0))), .none⟩,
       ⟨some 23, none, .mv (.s 22), .none⟩,
       ⟨some 24, some (23, true), .mv (.s 2), .none⟩,
       ⟨some 25, some (23, true), .fa (.s 8) 9, .none⟩,
       ⟨some 26, some (23, true), .ld (.s 25) 1 false, .none⟩,
       ⟨some 27, some (23, true), .bin .geq (.s 24) (.s 26), .none⟩,
       ⟨some 28, none, .pick (.s 23) (.s 27) (.c (.d (.bool false))), .none⟩])
   (.cond (.s 28)
    (.seq (.reg [⟨some 29, none, .mv (.s 2), .none⟩,
        ⟨some 30, none, .fa (.s 8) 9, .none⟩,
        ⟨none, none, .st (.s 30) (.s 29) 1, .none⟩])
    (.reg [⟨some 31, none, .ld (.s 7) 2 true, .none⟩,
       ⟨some 32, none, .fa (.s 8) 10, .none⟩,
       ⟨none, none, .st (.s 32) (.s 31) 2, .none⟩]))
    .skip))
  (.ann [0, 1, 2, 8] (.seq (.seq (.reg [⟨some 33, none, .fa (.s 8) 0, .none⟩,
       ⟨some 34, none, .ld (.s 33) 1 false, .none⟩,
       ⟨some 35, none, .mv (.s 34), .none⟩,
       ⟨some 36, some (35, true), .fa (.s 8) 1, .none⟩,
       ⟨some 37, some (35, true), .fa (.s 36) 1, .none⟩,
       ⟨some 38, some (35, true), .ld (.s 37) 1 false, .none⟩,
       ⟨some 39, some (35, true), .mv (.s 2), .none⟩,
       ⟨some 40, some (35, true), .bin .leq (.s 38) (.s 39), .none⟩,
       ⟨some 41, none, .pick (.s 35) (.s 40) (.c (.d (.bool false))), .none⟩])
   (.cond (.s 41)
    (.reg [⟨some 42, none, .fa (.s 8) 9, .none⟩,
       ⟨some 43, none, .ld (.s 42) 1 false, .none⟩,
       ⟨some 44, none, .fa (.s 8) 10, .none⟩,
       ⟨some 45, none, .ld (.s 44) 2 true, .none⟩,
       ⟨some 46, none, .build [.bool false, .int .i64 0, .int .i64 0, .str [], .int .i64 0, .int .i64 0, .int .i64 0, .int .i64 0, .nils, .int .i64 0, .int .i64 0, .int .i64 0] [(9, (1, .s 43)), (10, (2, .s 45))], .cells [(8, 3, false)]⟩,
       ⟨none, none, .st (.s 8) (.s 46) 12, .none⟩])
    .skip))
  (.ann [0, 1, 8] (.drw [⟨some 47, none, .mv (.s 0), .none⟩,
     ⟨some 48, none, .mv (.s 1), .none⟩,
     ⟨some 49, none, .ld (.s 8) 12 true, .none⟩,
     ⟨some 50, none, .nc (.s 47), .none⟩,
     ⟨some 51, none, .fa (.s 50) 0, .none⟩,
     ⟨some 52, none, .ia (.s 51) (.s 48) 16 12, .none⟩,
     ⟨none, none, .st (.s 52) (.s 49) 12, .none⟩]
    [[], [], [], [0], [3], [4, 1, 0, 1, 2], [5, 2, 0, 1, 2]] []))))))))
def ir19 : F := { n := 53, res := [], body := bd19 }
@[go_sem] theorem n19 : ir19.n = 53 := rfl
@[go_sem] theorem r19 : ir19.res = [] := rfl
@[go_sem] theorem b19 : ir19.body = bd19 := rfl
/-- (*spence/spenceref17.Index).Bound -/
def bd20 : C :=
  (.seq (.reg [⟨some 4, none, .box 25 (.s 1), .none⟩,
      ⟨some 5, none, .box 27 (.s 2), .none⟩])
  (.seq (.seq (.reg [⟨some 7, none, .fa (.s 4) 0, .none⟩,
       ⟨some 8, none, .ld (.s 7) 1 false, .none⟩,
       ⟨some 9, none, .bin .lss (.s 8) (.c (.d (.int .i64 0))), .none⟩,
       ⟨some 10, none, .mv (.s 9), .none⟩,
       ⟨some 11, some (10, false), .fa (.s 4) 0, .none⟩,
       ⟨some 12, some (10, false), .ld (.s 11) 1 false, .none⟩,
       ⟨some 13, some (10, false), .bin .gtr (.s 12) (.c (.d (.int .i64 15))), .none⟩,
       ⟨some 14, none, .pick (.s 10) (.c (.d (.bool true))) (.s 13), .none⟩])
   (.cond (.s 14)
    (.ret none)
    .skip))
  (.seq (.drr [⟨some 15, none, .mv (.s 0), .none⟩,
      ⟨some 16, none, .fa (.s 4) 0, .none⟩,
      ⟨some 17, none, .ld (.s 16) 1 false, .none⟩,
      ⟨some 18, none, .nc (.s 15), .none⟩,
      ⟨some 19, none, .fa (.s 18) 0, .none⟩,
      ⟨some 20, none, .ia (.s 19) (.s 17) 16 12, .none⟩,
      ⟨some 21, none, .ld (.s 20) 12 true, .none⟩,
      ⟨some 6, none, .alloc 42 [.bool false, .int .i64 0, .int .i64 0, .str [], .int .i64 0, .int .i64 0, .int .i64 0, .int .i64 0, .nils, .int .i64 0, .int .i64 0, .int .i64 0], .res [(8, 3, false)]⟩,
      ⟨none, none, .st (.s 6) (.s 21) 12, .none⟩]
     [[], [], [1], [0], [3], [4, 2], [5], [], [7, 6, 0, 1, 2, 3, 4, 5, 6, 7]] [] [] [])
  (.seq (.seq (.reg [⟨some 22, none, .fa (.s 4) 1, .none⟩,
       ⟨some 23, none, .ld (.s 22) 1 false, .none⟩,
       ⟨some 24, none, .fa (.s 6) 9, .none⟩,
       ⟨some 25, none, .ld (.s 24) 1 false, .none⟩,
       ⟨some 26, none, .bin .leq (.s 23) (.s 25), .none⟩])
   (.cond (.s 26)
    (.ret none)
    .skip))
  (.seq (.seq (.reg [⟨some 27, none, .fa (.s 6) 0, .none⟩,
       ⟨some 28, none, .ld (.s 27) 1 false, .none⟩,
       ⟨some 29, none, .un .not (.s 28), .none⟩,
       ⟨some 30, none, .mv (.s 29), .none⟩,
       ⟨some 31, some (30, false), .fa (.s 4) 1, .none⟩,
       ⟨some 32, some (30, false), .ld (.s 31) 1 false, .none⟩,
       ⟨some 33, some (30, false), .fa (.s 6) 1, .none⟩,
       ⟨some 34, some (30, false), .fa (.s 33) 1, .none⟩,
       ⟨some 35, some (30, false), .ld (.s 34) 1 false, .none⟩,
       ⟨some 36, some (30, false), .bin .gtr (.s 32) (.s 35), .none⟩,
       ⟨some 37, none, .pick (.s 30) (.c (.d (.bool true))) (.s 36), .none⟩])
   (.cond (.s 37)
    (.seq (.drw [⟨some 38, none, .mv (.s 0), .none⟩,
        ⟨some 39, none, .fa (.s 4) 0, .none⟩,
        ⟨some 40, none, .ld (.s 39) 1 false, .none⟩,
        ⟨some 41, none, .ld (.s 4) 5 true, .none⟩,
        ⟨some 42, none, .ld (.s 5) 2 true, .none⟩,
        ⟨some 43, none, .fa (.s 6) 9, .none⟩,
        ⟨some 44, none, .ld (.s 43) 1 false, .none⟩,
        ⟨some 45, none, .fa (.s 6) 10, .none⟩,
        ⟨some 46, none, .ld (.s 45) 2 true, .none⟩,
        ⟨some 47, none, .build [.bool false, .int .i64 0, .int .i64 0, .str [], .int .i64 0, .int .i64 0, .int .i64 0, .int .i64 0, .nils, .int .i64 0, .int .i64 0, .int .i64 0] [(0, (1, .c (.d (.bool true)))), (1, (5, .s 41)), (6, (2, .s 42)), (9, (1, .s 44)), (10, (2, .s 46))], .cells [(8, 3, false)]⟩,
        ⟨some 48, none, .nc (.s 38), .none⟩,
        ⟨some 49, none, .fa (.s 48) 0, .none⟩,
        ⟨some 50, none, .ia (.s 49) (.s 40) 16 12, .none⟩,
        ⟨none, none, .st (.s 50) (.s 47) 12, .none⟩]
       [[], [], [1], [], [], [], [5], [], [7], [3, 4, 6, 8], [0], [10], [11, 2, 0, 1, 2, 3, 4, 5, 6, 7, 8, 9], [12, 9, 0, 1, 2, 3, 4, 5, 6, 7, 8, 9]] [])
    (.ret none))
    .skip))
  (.seq (.reg [⟨some 51, none, .fa (.s 4) 1, .none⟩,
      ⟨some 52, none, .ld (.s 51) 1 false, .none⟩,
      ⟨some 53, none, .fa (.s 6) 1, .none⟩,
      ⟨some 54, none, .fa (.s 53) 1, .none⟩,
      ⟨some 55, none, .ld (.s 54) 1 false, .none⟩,
      ⟨some 56, none, .bin .eql (.s 52) (.s 55), .none⟩,
      ⟨some 57, none, .mv (.s 56), .none⟩,
      ⟨some 58, some (57, true), .fa (.s 4) 2, .none⟩,
      ⟨some 59, some (57, true), .ld (.s 58) 1 false, .none⟩,
      ⟨some 60, some (57, true), .fa (.s 6) 1, .none⟩,
      ⟨some 61, some (57, true), .fa (.s 60) 2, .none⟩,
      ⟨some 62, some (57, true), .ld (.s 61) 1 false, .none⟩,
      ⟨some 63, some (57, true), .bin .eql (.s 59) (.s 62), .none⟩,
      ⟨some 64, none, .pick (.s 57) (.s 63) (.c (.d (.bool false))), .none⟩,
      ⟨some 65, none, .mv (.s 64), .none⟩,
      ⟨some 66, some (65, true), .fa (.s 4) 3, .none⟩,
      ⟨some 67, some (65, true), .ld (.s 66) 1 false, .none⟩,
      ⟨some 68, some (65, true), .fa (.s 6) 1, .none⟩,
      ⟨some 69, some (65, true), .fa (.s 68) 3, .none⟩,
      ⟨some 70, some (65, true), .ld (.s 69) 1 false, .none⟩,
      ⟨some 71, some (65, true), .bin .eql (.s 67) (.s 70), .none⟩,
      ⟨some 72, none, .pick (.s 65) (.s 71) (.c (.d (.bool false))), .none⟩,
      ⟨some 73, none, .mv (.s 72), .none⟩,
      ⟨some 74, some (73, true), .fa (.s 4) 4, .none⟩,
      ⟨some 75, some (73, true), .ld (.s 74) 1 false, .none⟩,
      ⟨some 76, some (73, true), .fa (.s 6) 1, .none⟩,
      ⟨some 77, some (73, true), .fa (.s 76) 4, .none⟩,
      ⟨some 78, some (73, true), .ld (.s 77) 1 false, .none⟩,
      ⟨some 79, some (73, true), .bin .geq (.s 75) (.s 78), .none⟩,
      ⟨some 80, none, .pick (.s 73) (.s 79) (.c (.d (.bool false))), .none⟩])
  (.cond (.s 80)
   (.seq (.drw [⟨some 81, none, .mv (.s 0), .none⟩,
       ⟨some 82, none, .fa (.s 4) 0, .none⟩,
       ⟨some 83, none, .ld (.s 82) 1 false, .none⟩,
       ⟨some 84, none, .fa (.s 4) 4, .none⟩,
       ⟨some 85, none, .ld (.s 84) 1 false, .none⟩,
       ⟨some 86, none, .nc (.s 81), .none⟩,
       ⟨some 87, none, .fa (.s 86) 0, .none⟩,
       ⟨some 88, none, .ia (.s 87) (.s 83) 16 12, .none⟩,
       ⟨some 89, none, .fa (.s 88) 1, .none⟩,
       ⟨some 90, none, .fa (.s 89) 4, .none⟩,
       ⟨none, none, .st (.s 90) (.s 85) 1, .none⟩]
      [[], [], [1], [], [3], [0], [5], [6, 2, 0, 1, 2, 3, 4], [7, 0, 1, 2, 3, 4], [8, 0, 1, 2, 3, 4], [9, 4, 0, 1, 2, 3, 4]] [])
   (.drw [⟨some 91, none, .mv (.s 0), .none⟩,
      ⟨some 92, none, .fa (.s 4) 0, .none⟩,
      ⟨some 93, none, .ld (.s 92) 1 false, .none⟩,
      ⟨some 94, none, .ld (.s 5) 2 true, .none⟩,
      ⟨some 95, none, .nc (.s 91), .none⟩,
      ⟨some 96, none, .fa (.s 95) 0, .none⟩,
      ⟨some 97, none, .ia (.s 96) (.s 93) 16 12, .none⟩,
      ⟨some 98, none, .fa (.s 97) 6, .none⟩,
      ⟨none, none, .st (.s 98) (.s 94) 2, .none⟩]
     [[], [], [1], [], [0], [4], [5, 2, 0, 1, 2, 3], [6, 0, 1, 2, 3], [7, 3, 0, 1, 2, 3]] []))
   .skip)))))))
def ir20 : F := { n := 99, res := [], body := bd20 }
@[go_sem] theorem n20 : ir20.n = 99 := rfl
@[go_sem] theorem r20 : ir20.res = [] := rfl
@[go_sem] theorem b20 : ir20.body = bd20 := rfl
/-- (spence/index.Index).slot -/
def bd21 : C :=
  (.seq (.reg [⟨some 2, none, .box 33 (.s 0), .none⟩,
      ⟨some 4, none, .alloc 30 [.bool false, .int .i64 0, .int .i64 0, .str [], .int .i64 0, .int .i64 0, .int .i64 0, .int .i64 0, .nilm, .int .i64 0, .int .i64 0, .int .i64 0], .none⟩])
  (.seq (.seq (.reg [⟨some 5, none, .mv (.s 1), .none⟩,
       ⟨some 6, none, .call 36 [.s 5] 2, .none⟩,
       ⟨some 7, none, .un .not (.s 6), .none⟩])
   (.cond (.s 7)
    (.seq (.reg [⟨some 8, none, .build [.bool false, .int .i64 0, .int .i64 0, .str [], .int .i64 0, .int .i64 0, .int .i64 0, .int .i64 0, .nilm, .int .i64 0, .int .i64 0, .int .i64 0] [], .none⟩,
        ⟨none, none, .st (.s 4) (.s 8) 12, .none⟩])
    (.ret none))
    .skip))
  (.seq (.reg [⟨some 9, none, .mv (.s 1), .none⟩,
      ⟨some 10, none, .fa (.s 2) 0, .none⟩,
      ⟨some 11, none, .ia (.s 10) (.s 9) 16 12, .none⟩,
      ⟨some 12, none, .ld (.s 11) 12 true, .none⟩,
      ⟨none, none, .st (.s 4) (.s 12) 12, .none⟩])
  (.ret none))))
def ir21 : F := { n := 13, res := [.cell 4 12 true], body := bd21 }
@[go_sem] theorem n21 : ir21.n = 13 := rfl
@[go_sem] theorem r21 : ir21.res = [.cell 4 12 true] := rfl
@[go_sem] theorem b21 : ir21.body = bd21 := rfl
/-- (spence/index.Index).Where -/
def bd22 : C :=
  (.seq (.reg [⟨some 2, none, .box 33 (.s 0), .none⟩,
      ⟨some 4, none, .alloc 27 [.int .i64 0, .int .i64 0], .none⟩,
      ⟨some 5, none, .mv (.c (.d (.bool false))), .none⟩])
  (.seq (.reg [⟨some 7, none, .ld (.s 2) 192 true, .none⟩,
      ⟨some 8, none, .mv (.s 1), .none⟩,
      ⟨some 9, none, .call 21 [.s 7, .s 8] 2, .none⟩,
      ⟨some 6, none, .alloc 30 [.bool false, .int .i64 0, .int .i64 0, .str [], .int .i64 0, .int .i64 0, .int .i64 0, .int .i64 0, .nilm, .int .i64 0, .int .i64 0, .int .i64 0], .none⟩,
      ⟨none, none, .st (.s 6) (.s 9) 12, .none⟩])
  (.seq (.drw [⟨some 10, none, .fa (.s 6) 6, .none⟩,
      ⟨some 11, none, .ld (.s 10) 2 true, .none⟩,
      ⟨some 12, none, .fa (.s 6) 0, .none⟩,
      ⟨some 13, none, .ld (.s 12) 1 false, .none⟩,
      ⟨none, none, .st (.s 4) (.s 11) 2, .none⟩,
      ⟨some 5, none, .mv (.s 13), .none⟩]
     [[], [0], [], [2], [1, 0, 1], [3, 4, 0, 1, 2, 3, 4]] [(12, 4)])
  (.ret none))))
def ir22 : F := { n := 14, res := [.cell 4 2 true, .tmp 5], body := bd22 }
@[go_sem] theorem n22 : ir22.n = 14 := rfl
@[go_sem] theorem r22 : ir22.res = [.cell 4 2 true, .tmp 5] := rfl
@[go_sem] theorem b22 : ir22.body = bd22 := rfl
/-- (spence/index.Index).Tomb -/
def bd23 : C :=
  (.seq (.reg [⟨some 2, none, .box 33 (.s 0), .none⟩,
      ⟨some 4, none, .alloc 27 [.int .i64 0, .int .i64 0], .none⟩,
      ⟨some 5, none, .mv (.c (.d (.bool false))), .none⟩])
  (.seq (.reg [⟨some 7, none, .ld (.s 2) 192 true, .none⟩,
      ⟨some 8, none, .mv (.s 1), .none⟩,
      ⟨some 9, none, .call 21 [.s 7, .s 8] 2, .none⟩,
      ⟨some 6, none, .alloc 30 [.bool false, .int .i64 0, .int .i64 0, .str [], .int .i64 0, .int .i64 0, .int .i64 0, .int .i64 0, .nilm, .int .i64 0, .int .i64 0, .int .i64 0], .none⟩,
      ⟨none, none, .st (.s 6) (.s 9) 12, .none⟩])
  (.seq (.drw [⟨some 10, none, .fa (.s 6) 10, .none⟩,
      ⟨some 11, none, .ld (.s 10) 2 true, .none⟩,
      ⟨some 12, none, .fa (.s 6) 9, .none⟩,
      ⟨some 13, none, .ld (.s 12) 1 false, .none⟩,
      ⟨some 14, none, .bin .gtr (.s 13) (.c (.d (.int .i64 0))), .none⟩,
      ⟨none, none, .st (.s 4) (.s 11) 2, .none⟩,
      ⟨some 5, none, .mv (.s 14), .none⟩]
     [[], [0], [], [2], [3], [1, 0, 1], [4, 5, 0, 1, 2, 3, 4, 5]] [(12, 4)])
  (.ret none))))
def ir23 : F := { n := 15, res := [.cell 4 2 true, .tmp 5], body := bd23 }
@[go_sem] theorem n23 : ir23.n = 15 := rfl
@[go_sem] theorem r23 : ir23.res = [.cell 4 2 true, .tmp 5] := rfl
@[go_sem] theorem b23 : ir23.body = bd23 := rfl
/-- (spence/index.Index).Last -/
def bd24 : C :=
  (.seq (.reg [⟨some 2, none, .box 33 (.s 0), .none⟩,
      ⟨some 4, none, .mv (.c (.d (.int .i64 0))), .none⟩])
  (.seq (.reg [⟨some 6, none, .ld (.s 2) 192 true, .none⟩,
      ⟨some 7, none, .mv (.s 1), .none⟩,
      ⟨some 8, none, .call 21 [.s 6, .s 7] 2, .none⟩,
      ⟨some 5, none, .alloc 30 [.bool false, .int .i64 0, .int .i64 0, .str [], .int .i64 0, .int .i64 0, .int .i64 0, .int .i64 0, .nilm, .int .i64 0, .int .i64 0, .int .i64 0], .none⟩,
      ⟨none, none, .st (.s 5) (.s 8) 12, .none⟩])
  (.seq (.reg [⟨some 9, none, .fa (.s 5) 9, .none⟩,
      ⟨some 10, none, .ld (.s 9) 1 false, .none⟩,
      ⟨some 11, none, .fa (.s 5) 1, .none⟩,
      ⟨some 12, none, .fa (.s 11) 1, .none⟩,
      ⟨some 13, none, .ld (.s 12) 1 false, .none⟩,
      ⟨some 14, none, .mx (.s 10) (.s 13), .none⟩,
      ⟨some 4, none, .mv (.s 14), .none⟩])
  (.ret none))))
def ir24 : F := { n := 15, res := [.tmp 4], body := bd24 }
@[go_sem] theorem n24 : ir24.n = 15 := rfl
@[go_sem] theorem r24 : ir24.res = [.tmp 4] := rfl
@[go_sem] theorem b24 : ir24.body = bd24 := rfl
def lb25_0 : C :=
  (.seq (.reg [⟨some 18, none, .bin .lss (.s 17) (.s 16), .none⟩])
  (.seq (.cond (.s 18)
    .skip
    (.exit 0 (some [5])))
  (.seq (.block 1 (.seq (.reg [⟨some 19, none, .is (.s 15) (.s 17) 1, .none⟩,
        ⟨some 20, none, .ld (.s 19) 1 false, .none⟩,
        ⟨some 8, none, .mv (.s 20), .none⟩])
    (.reg [⟨some 21, none, .mv (.s 5), .none⟩,
       ⟨some 22, none, .fa (.s 6) 8, .none⟩,
       ⟨some 23, none, .ld (.s 22) 1 false, .none⟩,
       ⟨some 24, none, .mv (.s 8), .none⟩,
       ⟨some 25, none, .mget (.s 23) (.s 24) (.agg [.d (.int .i64 0), .d (.int .i64 0)]) false, .none⟩,
       ⟨some 26, none, .bsl 27 2 1 [.int .i64 0, .int .i64 0] [(0, (2, .s 25))], .none⟩,
       ⟨some 27, none, .app 27 2 16 (.s 21) (.s 26), .none⟩,
       ⟨some 5, none, .mv (.s 27), .none⟩])))
  (.reg [⟨some 28, none, .bin .add (.s 17) (.c (.d (.int .i64 1))), .none⟩,
     ⟨some 17, none, .mv (.s 28), .none⟩]))))
def lp25_0 : C := lb25_0
theorem u25_0 (c : Ev.Callee) (l : Ev.Looper) (s : St) : evC c l lp25_0 s = evC c l lb25_0 s := rfl
abbrev st25_0 (m : Nat) (s5 s6 s15 s16 s17 : AV) (h : Heap) : St := ⟨m, [.unk, .unk, .unk, .unk, .unk, s5, s6, .unk, .unk, .unk, .unk, .unk, .unk, .unk, .unk, s15, s16, s17, .unk, .unk, .unk, .unk, .unk, .unk, .unk, .unk, .unk, .unk, .unk, .unk], h⟩
@[go_sem] theorem ks25_0 (v0 v1 v2 v3 v4 v5 v6 v7 v8 v9 v10 v11 v12 v13 v14 v15 v16 v17 v18 v19 v20 v21 v22 v23 v24 v25 v26 v27 v28 v29 : AV) : keepS [5, 6, 15, 16, 17] [v0, v1, v2, v3, v4, v5, v6, v7, v8, v9, v10, v11, v12, v13, v14, v15, v16, v17, v18, v19, v20, v21, v22, v23, v24, v25, v26, v27, v28, v29] 0 = [.unk, .unk, .unk, .unk, .unk, v5, v6, .unk, .unk, .unk, .unk, .unk, .unk, .unk, .unk, v15, v16, v17, .unk, .unk, .unk, .unk, .unk, .unk, .unk, .unk, .unk, .unk, .unk, .unk] := rfl
@[go_sem] theorem ks25_1 (v0 v1 v2 v3 v4 v5 v6 v7 v8 v9 v10 v11 v12 v13 v14 v15 v16 v17 v18 v19 v20 v21 v22 v23 v24 v25 v26 v27 v28 v29 : AV) : keepS [5] [v0, v1, v2, v3, v4, v5, v6, v7, v8, v9, v10, v11, v12, v13, v14, v15, v16, v17, v18, v19, v20, v21, v22, v23, v24, v25, v26, v27, v28, v29] 0 = [.unk, .unk, .unk, .unk, .unk, v5, .unk, .unk, .unk, .unk, .unk, .unk, .unk, .unk, .unk, .unk, .unk, .unk, .unk, .unk, .unk, .unk, .unk, .unk, .unk, .unk, .unk, .unk, .unk, .unk] := rfl
/-- (spence/index.Index).Places -/
def bd25 : C :=
  (.seq (.reg [⟨some 2, none, .box 33 (.s 0), .none⟩,
      ⟨some 4, none, .mv (.c (.d .nils)), .one 2 true⟩])
  (.seq (.reg [⟨some 5, none, .mv (.c (.d .nils)), .one 2 true⟩])
  (.seq (.reg [⟨some 9, none, .ld (.s 2) 192 true, .none⟩,
      ⟨some 10, none, .mv (.s 1), .none⟩,
      ⟨some 11, none, .call 21 [.s 9, .s 10] 2, .none⟩,
      ⟨some 6, none, .alloc 30 [.bool false, .int .i64 0, .int .i64 0, .str [], .int .i64 0, .int .i64 0, .int .i64 0, .int .i64 0, .nilm, .int .i64 0, .int .i64 0, .int .i64 0], .none⟩,
      ⟨none, none, .st (.s 6) (.s 11) 12, .none⟩])
  (.seq (.seq (.reg [⟨some 12, none, .fa (.s 6) 8, .none⟩,
       ⟨some 13, none, .ld (.s 12) 1 false, .none⟩,
       ⟨some 14, none, .call 38 [.s 13] 0, .none⟩,
       ⟨some 15, none, .call 37 [.s 14] 0, .none⟩,
       ⟨some 16, none, .len (.s 15), .none⟩,
       ⟨some 17, none, .mv (.c (.d (.int .i64 0))), .none⟩])
   (.block 0 (.loop [5, 6, 15, 16, 17] lp25_0)))
  (.seq (.reg [⟨some 29, none, .mv (.s 5), .none⟩,
      ⟨some 4, none, .mv (.s 29), .none⟩])
  (.ret none))))))
def ir25 : F := { n := 30, res := [.tmp 4], body := bd25 }
@[go_sem] theorem n25 : ir25.n = 30 := rfl
@[go_sem] theorem r25 : ir25.res = [.tmp 4] := rfl
@[go_sem] theorem b25 : ir25.body = bd25 := rfl
def lb26_0 : C :=
  (.seq (.reg [⟨some 14, none, .bin .lss (.s 13) (.s 12), .none⟩])
  (.seq (.cond (.s 14)
    .skip
    (.exit 0 (some [])))
  (.seq (.block 1 (.seq (.reg [⟨some 15, none, .mv (.s 13), .none⟩,
        ⟨some 5, none, .mv (.s 15), .none⟩])
    (.seq (.drw [⟨some 16, none, .mv (.s 0), .none⟩,
        ⟨some 17, none, .mv (.s 5), .none⟩,
        ⟨some 18, none, .is (.s 16) (.s 17) 1, .none⟩,
        ⟨some 19, none, .ld (.s 18) 1 false, .none⟩,
        ⟨some 20, none, .mv (.s 1), .none⟩,
        ⟨some 21, none, .mv (.s 5), .none⟩,
        ⟨some 22, none, .is (.s 20) (.s 21) 1, .none⟩,
        ⟨some 23, none, .ld (.s 22) 1 false, .none⟩,
        ⟨some 24, none, .bin .neq (.s 19) (.s 23), .none⟩]
       [[], [], [0, 1], [2], [], [], [4, 5], [6], [3, 7]] [])
    (.cond (.s 24)
     (.seq (.reg [⟨some 4, none, .mv (.c (.d (.bool false))), .none⟩])
     (.ret (some [4])))
     .skip))))
  (.reg [⟨some 25, none, .bin .add (.s 13) (.c (.d (.int .i64 1))), .none⟩,
     ⟨some 13, none, .mv (.s 25), .none⟩]))))
def lp26_0 : C := lb26_0
theorem u26_0 (c : Ev.Callee) (l : Ev.Looper) (s : St) : evC c l lp26_0 s = evC c l lb26_0 s := rfl
abbrev st26_0 (m : Nat) (s0 s1 s12 s13 : AV) (h : Heap) : St := ⟨m, [s0, s1, .unk, .unk, .unk, .unk, .unk, .unk, .unk, .unk, .unk, .unk, s12, s13, .unk, .unk, .unk, .unk, .unk, .unk, .unk, .unk, .unk, .unk, .unk, .unk], h⟩
@[go_sem] theorem ks26_0 (v0 v1 v2 v3 v4 v5 v6 v7 v8 v9 v10 v11 v12 v13 v14 v15 v16 v17 v18 v19 v20 v21 v22 v23 v24 v25 : AV) : keepS [0, 1, 12, 13] [v0, v1, v2, v3, v4, v5, v6, v7, v8, v9, v10, v11, v12, v13, v14, v15, v16, v17, v18, v19, v20, v21, v22, v23, v24, v25] 0 = [v0, v1, .unk, .unk, .unk, .unk, .unk, .unk, .unk, .unk, .unk, .unk, v12, v13, .unk, .unk, .unk, .unk, .unk, .unk, .unk, .unk, .unk, .unk, .unk, .unk] := rfl
@[go_sem] theorem ks26_1 (v0 v1 v2 v3 v4 v5 v6 v7 v8 v9 v10 v11 v12 v13 v14 v15 v16 v17 v18 v19 v20 v21 v22 v23 v24 v25 : AV) : keepS [] [v0, v1, v2, v3, v4, v5, v6, v7, v8, v9, v10, v11, v12, v13, v14, v15, v16, v17, v18, v19, v20, v21, v22, v23, v24, v25] 0 = [.unk, .unk, .unk, .unk, .unk, .unk, .unk, .unk, .unk, .unk, .unk, .unk, .unk, .unk, .unk, .unk, .unk, .unk, .unk, .unk, .unk, .unk, .unk, .unk, .unk, .unk] := rfl
@[go_sem] theorem ks26_2 (v0 v1 v2 v3 v4 v5 v6 v7 v8 v9 v10 v11 v12 v13 v14 v15 v16 v17 v18 v19 v20 v21 v22 v23 v24 v25 : AV) : keepS [4] [v0, v1, v2, v3, v4, v5, v6, v7, v8, v9, v10, v11, v12, v13, v14, v15, v16, v17, v18, v19, v20, v21, v22, v23, v24, v25] 0 = [.unk, .unk, .unk, .unk, v4, .unk, .unk, .unk, .unk, .unk, .unk, .unk, .unk, .unk, .unk, .unk, .unk, .unk, .unk, .unk, .unk, .unk, .unk, .unk, .unk, .unk] := rfl
/-- spence/spenceref01.Ints -/
def bd26 : C :=
  (.seq (.reg [⟨some 4, none, .mv (.c (.d (.bool false))), .none⟩])
  (.seq (.seq (.reg [⟨some 6, none, .mv (.s 0), .none⟩,
       ⟨some 7, none, .len (.s 6), .none⟩,
       ⟨some 8, none, .mv (.s 1), .none⟩,
       ⟨some 9, none, .len (.s 8), .none⟩,
       ⟨some 10, none, .bin .neq (.s 7) (.s 9), .none⟩])
   (.cond (.s 10)
    (.seq (.reg [⟨some 4, none, .mv (.c (.d (.bool false))), .none⟩])
    (.ret none))
    .skip))
  (.seq (.seq (.reg [⟨some 11, none, .mv (.s 0), .none⟩,
       ⟨some 12, none, .len (.s 11), .none⟩,
       ⟨some 13, none, .mv (.c (.d (.int .i64 0))), .none⟩])
   (.block 0 (.loop [0, 1, 12, 13] lp26_0)))
  (.seq (.reg [⟨some 4, none, .mv (.c (.d (.bool true))), .none⟩])
  (.ret none)))))
def ir26 : F := { n := 26, res := [.tmp 4], body := bd26 }
@[go_sem] theorem n26 : ir26.n = 26 := rfl
@[go_sem] theorem r26 : ir26.res = [.tmp 4] := rfl
@[go_sem] theorem b26 : ir26.body = bd26 := rfl
/-- (spence/index.Index).Slices -/
def bd27 : C :=
  (.seq (.reg [⟨some 2, none, .box 33 (.s 0), .none⟩,
      ⟨some 4, none, .alloc 74 [.int .u64 0, .int .u64 0, .int .u64 0, .int .u64 0, .int .u64 0, .int .u64 0, .int .u64 0, .int .u64 0, .int .u64 0, .int .u64 0, .int .u64 0, .int .u64 0, .int .u64 0, .int .u64 0, .int .u64 0, .int .u64 0, .int .u64 0, .int .u64 0, .int .u64 0, .int .u64 0, .int .u64 0, .int .u64 0, .int .u64 0, .int .u64 0, .int .u64 0, .int .u64 0, .int .u64 0, .int .u64 0, .int .u64 0, .int .u64 0, .int .u64 0, .int .u64 0, .int .u64 0, .int .u64 0, .int .u64 0, .int .u64 0, .int .u64 0, .int .u64 0, .int .u64 0, .int .u64 0, .int .u64 0, .int .u64 0, .int .u64 0, .int .u64 0, .int .u64 0, .int .u64 0, .int .u64 0, .int .u64 0, .int .u64 0, .int .u64 0, .int .u64 0, .int .u64 0, .int .u64 0, .int .u64 0, .int .u64 0, .int .u64 0, .int .u64 0, .int .u64 0, .int .u64 0, .int .u64 0, .int .u64 0, .int .u64 0, .int .u64 0, .int .u64 0, .int .u64 0], .none⟩])
  (.seq (.reg [⟨some 5, none, .ld (.s 2) 192 true, .none⟩,
      ⟨some 6, none, .mv (.s 1), .none⟩,
      ⟨some 7, none, .call 21 [.s 5, .s 6] 2, .none⟩,
      ⟨some 8, none, .fld (.s 7) 8 1 false, .none⟩,
      ⟨some 9, none, .call 38 [.s 8] 0, .none⟩,
      ⟨some 10, none, .call 37 [.s 9] 0, .none⟩,
      ⟨some 11, none, .call 39 [.s 10] 2, .none⟩,
      ⟨none, none, .st (.s 4) (.s 11) 65, .none⟩])
  (.ret none)))
def ir27 : F := { n := 12, res := [.cell 4 65 true], body := bd27 }
@[go_sem] theorem n27 : ir27.n = 12 := rfl
@[go_sem] theorem r27 : ir27.res = [.cell 4 65 true] := rfl
@[go_sem] theorem b27 : ir27.body = bd27 := rfl
def lb29_0 : C :=
  (.seq (.reg [⟨some 9, none, .bin .lss (.s 8) (.c (.d (.int .i64 16))), .none⟩])
  (.seq (.cond (.s 9)
    .skip
    (.exit 0 (some [3])))
  (.seq (.block 1 (.seq (.reg [⟨some 10, none, .mv (.s 8), .none⟩,
        ⟨some 11, none, .idx (.s 7) (.s 8) 16 12 true, .none⟩,
        ⟨some 5, none, .alloc 30 [.bool false, .int .i64 0, .int .i64 0, .str [], .int .i64 0, .int .i64 0, .int .i64 0, .int .i64 0, .nilm, .int .i64 0, .int .i64 0, .int .i64 0], .none⟩,
        ⟨some 4, none, .mv (.s 10), .none⟩,
        ⟨none, none, .st (.s 5) (.s 11) 12, .none⟩])
    (.seq (.reg [⟨some 12, none, .fa (.s 5) 0, .none⟩,
        ⟨some 13, none, .ld (.s 12) 1 false, .none⟩])
    (.cond (.s 13)
     (.reg [⟨some 14, none, .mv (.s 3), .none⟩,
        ⟨some 15, none, .mv (.s 4), .none⟩,
        ⟨some 16, none, .bsl 3 1 1 [.int .i64 0] [(0, (1, .s 15))], .none⟩,
        ⟨some 17, none, .app 3 1 8 (.s 14) (.s 16), .none⟩,
        ⟨some 3, none, .mv (.s 17), .none⟩])
     .skip))))
  (.reg [⟨some 18, none, .bin .add (.s 8) (.c (.d (.int .i64 1))), .none⟩,
     ⟨some 8, none, .mv (.s 18), .none⟩]))))
def lp29_0 : C := lb29_0
theorem u29_0 (c : Ev.Callee) (l : Ev.Looper) (s : St) : evC c l lp29_0 s = evC c l lb29_0 s := rfl
abbrev st29_0 (m : Nat) (s3 s7 s8 : AV) (h : Heap) : St := ⟨m, [.unk, .unk, .unk, s3, .unk, .unk, .unk, s7, s8, .unk, .unk, .unk, .unk, .unk, .unk, .unk, .unk, .unk, .unk, .unk], h⟩
@[go_sem] theorem ks29_0 (v0 v1 v2 v3 v4 v5 v6 v7 v8 v9 v10 v11 v12 v13 v14 v15 v16 v17 v18 v19 : AV) : keepS [3, 7, 8] [v0, v1, v2, v3, v4, v5, v6, v7, v8, v9, v10, v11, v12, v13, v14, v15, v16, v17, v18, v19] 0 = [.unk, .unk, .unk, v3, .unk, .unk, .unk, v7, v8, .unk, .unk, .unk, .unk, .unk, .unk, .unk, .unk, .unk, .unk, .unk] := rfl
@[go_sem] theorem ks29_1 (v0 v1 v2 v3 v4 v5 v6 v7 v8 v9 v10 v11 v12 v13 v14 v15 v16 v17 v18 v19 : AV) : keepS [3] [v0, v1, v2, v3, v4, v5, v6, v7, v8, v9, v10, v11, v12, v13, v14, v15, v16, v17, v18, v19] 0 = [.unk, .unk, .unk, v3, .unk, .unk, .unk, .unk, .unk, .unk, .unk, .unk, .unk, .unk, .unk, .unk, .unk, .unk, .unk, .unk] := rfl
/-- (spence/index.Index).Objects -/
def bd29 : C :=
  (.seq (.reg [⟨some 1, none, .box 33 (.s 0), .none⟩,
      ⟨some 2, none, .mv (.c (.d .nils)), .one 1 true⟩])
  (.seq (.reg [⟨some 3, none, .mv (.c (.d .nils)), .one 1 true⟩])
  (.seq (.seq (.reg [⟨some 6, none, .fa (.s 1) 0, .none⟩,
       ⟨some 7, none, .ld (.s 6) 192 true, .none⟩,
       ⟨some 8, none, .mv (.c (.d (.int .i64 0))), .none⟩])
   (.block 0 (.loop [3, 7, 8] lp29_0)))
  (.seq (.reg [⟨some 19, none, .mv (.s 3), .none⟩,
      ⟨some 2, none, .mv (.s 19), .none⟩])
  (.ret none)))))
def ir29 : F := { n := 20, res := [.tmp 2], body := bd29 }
@[go_sem] theorem n29 : ir29.n = 20 := rfl
@[go_sem] theorem r29 : ir29.res = [.tmp 2] := rfl
@[go_sem] theorem b29 : ir29.body = bd29 := rfl
@[go_sem] theorem ks30_0 (v0 v1 v2 v3 v4 v5 v6 v7 v8 v9 v10 v11 v12 v13 v14 v15 v16 v17 v18 : AV) : keepS [3, 6] [v0, v1, v2, v3, v4, v5, v6, v7, v8, v9, v10, v11, v12, v13, v14, v15, v16, v17, v18] 0 = [.unk, .unk, .unk, v3, .unk, .unk, v6, .unk, .unk, .unk, .unk, .unk, .unk, .unk, .unk, .unk, .unk, .unk, .unk] := rfl
/-- (spence/index.Index).change -/
def bd30 : C :=
  (.seq (.reg [⟨some 3, none, .box 33 (.s 0), .none⟩,
      ⟨some 6, none, .alloc 33 [.bool false, .int .i64 0, .int .i64 0, .str [], .int .i64 0, .int .i64 0, .int .i64 0, .int .i64 0, .nilm, .int .i64 0, .int .i64 0, .int .i64 0, .bool false, .int .i64 0, .int .i64 0, .str [], .int .i64 0, .int .i64 0, .int .i64 0, .int .i64 0, .nilm, .int .i64 0, .int .i64 0, .int .i64 0, .bool false, .int .i64 0, .int .i64 0, .str [], .int .i64 0, .int .i64 0, .int .i64 0, .int .i64 0, .nilm, .int .i64 0, .int .i64 0, .int .i64 0, .bool false, .int .i64 0, .int .i64 0, .str [], .int .i64 0, .int .i64 0, .int .i64 0, .int .i64 0, .nilm, .int .i64 0, .int .i64 0, .int .i64 0, .bool false, .int .i64 0, .int .i64 0, .str [], .int .i64 0, .int .i64 0, .int .i64 0, .int .i64 0, .nilm, .int .i64 0, .int .i64 0, .int .i64 0, .bool false, .int .i64 0, .int .i64 0, .str [], .int .i64 0, .int .i64 0, .int .i64 0, .int .i64 0, .nilm, .int .i64 0, .int .i64 0, .int .i64 0, .bool false, .int .i64 0, .int .i64 0, .str [], .int .i64 0, .int .i64 0, .int .i64 0, .int .i64 0, .nilm, .int .i64 0, .int .i64 0, .int .i64 0, .bool false, .int .i64 0, .int .i64 0, .str [], .int .i64 0, .int .i64 0, .int .i64 0, .int .i64 0, .nilm, .int .i64 0, .int .i64 0, .int .i64 0, .bool false, .int .i64 0, .int .i64 0, .str [], .int .i64 0, .int .i64 0, .int .i64 0, .int .i64 0, .nilm, .int .i64 0, .int .i64 0, .int .i64 0, .bool false, .int .i64 0, .int .i64 0, .str [], .int .i64 0, .int .i64 0, .int .i64 0, .int .i64 0, .nilm, .int .i64 0, .int .i64 0, .int .i64 0, .bool false, .int .i64 0, .int .i64 0, .str [], .int .i64 0, .int .i64 0, .int .i64 0, .int .i64 0, .nilm, .int .i64 0, .int .i64 0, .int .i64 0, .bool false, .int .i64 0, .int .i64 0, .str [], .int .i64 0, .int .i64 0, .int .i64 0, .int .i64 0, .nilm, .int .i64 0, .int .i64 0, .int .i64 0, .bool false, .int .i64 0, .int .i64 0, .str [], .int .i64 0, .int .i64 0, .int .i64 0, .int .i64 0, .nilm, .int .i64 0, .int .i64 0, .int .i64 0, .bool false, .int .i64 0, .int .i64 0, .str [], .int .i64 0, .int .i64 0, .int .i64 0, .int .i64 0, .nilm, .int .i64 0, .int .i64 0, .int .i64 0, .bool false, .int .i64 0, .int .i64 0, .str [], .int .i64 0, .int .i64 0, .int .i64 0, .int .i64 0, .nilm, .int .i64 0, .int .i64 0, .int .i64 0, .bool false, .int .i64 0, .int .i64 0, .str [], .int .i64 0, .int .i64 0, .int .i64 0, .int .i64 0, .nilm, .int .i64 0, .int .i64 0, .int .i64 0], .none⟩])
  (.seq (.seq (.reg [⟨some 7, none, .mv (.s 1), .none⟩,
       ⟨some 8, none, .call 36 [.s 7] 2, .none⟩])
   (.cond (.s 8)
    (.reg [⟨some 9, none, .mv (.s 1), .none⟩,
       ⟨some 10, none, .mv (.s 2), .none⟩,
       ⟨some 11, none, .mv (.s 1), .none⟩,
       ⟨some 12, none, .fa (.s 3) 0, .none⟩,
       ⟨some 13, none, .ia (.s 12) (.s 11) 16 12, .none⟩,
       ⟨some 14, none, .ld (.s 13) 12 true, .none⟩,
       ⟨some 15, none, .callv (.s 10) [.s 14] 0, .none⟩,
       ⟨some 16, none, .fa (.s 3) 0, .none⟩,
       ⟨some 17, none, .ia (.s 16) (.s 9) 16 12, .none⟩,
       ⟨none, none, .st (.s 17) (.s 15) 12, .none⟩])
    .skip))
  (.ann [3, 6] (.seq (.reg [⟨some 18, none, .ld (.s 3) 192 true, .none⟩,
      ⟨none, none, .st (.s 6) (.s 18) 192, .none⟩])
  (.ret none)))))
def ir30 : F := { n := 19, res := [.cell 6 192 true], body := bd30 }
@[go_sem] theorem n30 : ir30.n = 19 := rfl
@[go_sem] theorem r30 : ir30.res = [.cell 6 192 true] := rfl
@[go_sem] theorem b30 : ir30.body = bd30 := rfl
/-- (spence/index.Index).Bound$1 -/
def bd31 : C :=
  (.seq (.reg [⟨some 3, none, .box 30 (.s 0), .none⟩,
      ⟨some 4, none, .alloc 30 [.bool false, .int .i64 0, .int .i64 0, .str [], .int .i64 0, .int .i64 0, .int .i64 0, .int .i64 0, .nilm, .int .i64 0, .int .i64 0, .int .i64 0], .none⟩])
  (.seq (.block 0 (.seq (.reg [⟨some 6, none, .fa (.s 1) 1, .none⟩,
        ⟨some 7, none, .ld (.s 6) 1 false, .none⟩,
        ⟨some 8, none, .fa (.s 3) 9, .none⟩,
        ⟨some 9, none, .ld (.s 8) 1 false, .none⟩,
        ⟨some 10, none, .bin .leq (.s 7) (.s 9), .none⟩,
        ⟨some 5, none, .mv (.s 10), .none⟩])
    (.cond (.s 5)
     .skip
     (.seq (.reg [⟨some 12, none, .fa (.s 3) 0, .none⟩,
         ⟨some 13, none, .ld (.s 12) 1 false, .none⟩,
         ⟨some 14, none, .un .not (.s 13), .none⟩,
         ⟨some 15, none, .mv (.s 14), .none⟩,
         ⟨some 16, some (15, false), .fa (.s 3) 1, .none⟩,
         ⟨some 17, some (15, false), .fa (.s 16) 1, .none⟩,
         ⟨some 18, some (15, false), .ld (.s 17) 1 false, .none⟩,
         ⟨some 19, some (15, false), .fa (.s 1) 1, .none⟩,
         ⟨some 20, some (15, false), .ld (.s 19) 1 false, .none⟩,
         ⟨some 21, some (15, false), .bin .lss (.s 18) (.s 20), .none⟩,
         ⟨some 22, none, .pick (.s 15) (.c (.d (.bool true))) (.s 21), .none⟩,
         ⟨some 11, none, .mv (.s 22), .none⟩])
     (.cond (.s 11)
      (.drw [⟨some 23, none, .ld (.s 1) 5 true, .none⟩,
         ⟨some 24, none, .ld (.s 2) 2 true, .none⟩,
         ⟨some 25, none, .fa (.s 3) 0, .none⟩,
         ⟨none, none, .st (.s 25) (.c (.d (.bool true))) 1, .none⟩,
         ⟨some 26, none, .fa (.s 3) 1, .none⟩,
         ⟨none, none, .st (.s 26) (.s 23) 5, .none⟩,
         ⟨some 27, none, .fa (.s 3) 6, .none⟩,
         ⟨none, none, .st (.s 27) (.s 24) 2, .none⟩,
         ⟨some 28, none, .fa (.s 3) 8, .none⟩,
         ⟨none, none, .st (.s 28) (.c (.d .nilm)) 1, .none⟩]
        [[], [], [], [2], [0, 2, 3], [4, 0, 3, 0, 2, 3], [0, 1, 2, 3, 4, 5], [6, 1, 5, 0, 1, 2, 3, 4, 5], [0, 1, 2, 3, 4, 5, 6, 7], [8, 7, 0, 1, 2, 3, 4, 5, 6, 7]] [(1, 25), (2, 25), (2, 26)])
      (.seq (.reg [⟨some 30, none, .fa (.s 3) 1, .none⟩,
          ⟨some 31, none, .fa (.s 30) 1, .none⟩,
          ⟨some 32, none, .ld (.s 31) 1 false, .none⟩,
          ⟨some 33, none, .fa (.s 1) 1, .none⟩,
          ⟨some 34, none, .ld (.s 33) 1 false, .none⟩,
          ⟨some 35, none, .bin .eql (.s 32) (.s 34), .none⟩,
          ⟨some 36, none, .mv (.s 35), .none⟩,
          ⟨some 37, some (36, true), .fa (.s 3) 1, .none⟩,
          ⟨some 38, some (36, true), .fa (.s 37) 2, .none⟩,
          ⟨some 39, some (36, true), .ld (.s 38) 1 false, .none⟩,
          ⟨some 40, some (36, true), .fa (.s 1) 2, .none⟩,
          ⟨some 41, some (36, true), .ld (.s 40) 1 false, .none⟩,
          ⟨some 42, some (36, true), .bin .eql (.s 39) (.s 41), .none⟩,
          ⟨some 43, none, .pick (.s 36) (.s 42) (.c (.d (.bool false))), .none⟩,
          ⟨some 44, none, .mv (.s 43), .none⟩,
          ⟨some 45, some (44, true), .fa (.s 3) 1, .none⟩,
          ⟨some 46, some (44, true), .fa (.s 45) 3, .none⟩,
          ⟨some 47, some (44, true), .ld (.s 46) 1 false, .none⟩,
          ⟨some 48, some (44, true), .fa (.s 1) 3, .none⟩,
          ⟨some 49, some (44, true), .ld (.s 48) 1 false, .none⟩,
          ⟨some 50, some (44, true), .bin .eql (.s 47) (.s 49), .none⟩,
          ⟨some 51, none, .pick (.s 44) (.s 50) (.c (.d (.bool false))), .none⟩,
          ⟨some 52, none, .mv (.s 51), .none⟩,
          ⟨some 53, some (52, true), .fa (.s 3) 1, .none⟩,
          ⟨some 54, some (52, true), .fa (.s 53) 4, .none⟩,
          ⟨some 55, some (52, true), .ld (.s 54) 1 false, .none⟩,
          ⟨some 56, some (52, true), .fa (.s 1) 4, .none⟩,
          ⟨some 57, some (52, true), .ld (.s 56) 1 false, .none⟩,
          ⟨some 58, some (52, true), .bin .leq (.s 55) (.s 57), .none⟩,
          ⟨some 59, none, .pick (.s 52) (.s 58) (.c (.d (.bool false))), .none⟩,
          ⟨some 29, none, .mv (.s 59), .none⟩])
      (.cond (.s 29)
       (.drw [⟨some 60, none, .fa (.s 1) 4, .none⟩,
          ⟨some 61, none, .ld (.s 60) 1 false, .none⟩,
          ⟨some 62, none, .ld (.s 2) 2 true, .none⟩,
          ⟨some 63, none, .fa (.s 3) 1, .none⟩,
          ⟨some 64, none, .fa (.s 63) 4, .none⟩,
          ⟨none, none, .st (.s 64) (.s 61) 1, .none⟩,
          ⟨some 65, none, .fa (.s 3) 6, .none⟩,
          ⟨none, none, .st (.s 65) (.s 62) 2, .none⟩]
         [[], [0], [], [0, 1], [3, 0, 1], [4, 1, 0, 1], [0, 1, 2, 3, 4, 5], [6, 2, 5, 0, 1, 2, 3, 4, 5]] [(2, 64)])
       .skip)))))))
  (.seq (.reg [⟨some 66, none, .ld (.s 3) 12 true, .none⟩,
      ⟨none, none, .st (.s 4) (.s 66) 12, .none⟩])
  (.ret none))))
def ir31 : F := { n := 67, res := [.cell 4 12 true], body := bd31 }
@[go_sem] theorem n31 : ir31.n = 67 := rfl
@[go_sem] theorem r31 : ir31.res = [.cell 4 12 true] := rfl
@[go_sem] theorem b31 : ir31.body = bd31 := rfl
@[go_sem] theorem ks32_0 (v0 v1 v2 v3 v4 v5 v6 v7 v8 v9 v10 v11 v12 v13 v14 v15 v16 v17 v18 v19 v20 v21 v22 v23 v24 v25 v26 v27 v28 v29 v30 v31 v32 v33 v34 v35 v36 v37 : AV) : keepS [2, 3, 4, 5, 6] [v0, v1, v2, v3, v4, v5, v6, v7, v8, v9, v10, v11, v12, v13, v14, v15, v16, v17, v18, v19, v20, v21, v22, v23, v24, v25, v26, v27, v28, v29, v30, v31, v32, v33, v34, v35, v36, v37] 0 = [.unk, .unk, v2, v3, v4, v5, v6, .unk, .unk, .unk, .unk, .unk, .unk, .unk, .unk, .unk, .unk, .unk, .unk, .unk, .unk, .unk, .unk, .unk, .unk, .unk, .unk, .unk, .unk, .unk, .unk, .unk, .unk, .unk, .unk, .unk, .unk, .unk] := rfl
/-- (spence/index.Index).Piece$1 -/
def bd32 : C :=
  (.seq (.reg [⟨some 4, none, .box 30 (.s 0), .none⟩,
      ⟨some 5, none, .alloc 30 [.bool false, .int .i64 0, .int .i64 0, .str [], .int .i64 0, .int .i64 0, .int .i64 0, .int .i64 0, .nilm, .int .i64 0, .int .i64 0, .int .i64 0], .none⟩])
  (.seq (.seq (.reg [⟨some 7, none, .fa (.s 4) 0, .none⟩,
       ⟨some 8, none, .ld (.s 7) 1 false, .none⟩,
       ⟨some 9, none, .un .not (.s 8), .none⟩,
       ⟨some 10, none, .mv (.s 9), .none⟩,
       ⟨some 11, some (10, false), .fa (.s 4) 1, .none⟩,
       ⟨some 12, some (10, false), .fa (.s 11) 1, .none⟩,
       ⟨some 13, some (10, false), .ld (.s 12) 1 false, .none⟩,
       ⟨some 14, some (10, false), .ld (.s 1) 1 false, .none⟩,
       ⟨some 15, some (10, false), .bin .neq (.s 13) (.s 14), .none⟩,
       ⟨some 16, none, .pick (.s 10) (.c (.d (.bool true))) (.s 15), .none⟩,
       ⟨some 17, none, .mv (.s 16), .none⟩,
       ⟨some 18, some (17, false), .ld (.s 2) 1 false, .none⟩,
       ⟨some 19, some (17, false), .bin .lss (.s 18) (.c (.d (.int .i64 0))), .none⟩,
       ⟨some 20, none, .pick (.s 17) (.c (.d (.bool true))) (.s 19), .none⟩,
       ⟨some 21, none, .mv (.s 20), .none⟩,
       ⟨some 22, some (21, false), .ld (.s 2) 1 false, .none⟩,
       ⟨some 23, some (21, false), .bin .gtr (.s 22) (.c (.d (.int .i64 4096))), .none⟩,
       ⟨some 24, none, .pick (.s 21) (.c (.d (.bool true))) (.s 23), .none⟩])
   (.cond (.s 24)
    (.seq (.reg [⟨some 25, none, .ld (.s 4) 12 true, .none⟩,
        ⟨none, none, .st (.s 5) (.s 25) 12, .none⟩])
    (.ret none))
    .skip))
  (.seq (.reg [⟨some 26, none, .fa (.s 4) 8, .none⟩,
      ⟨some 27, none, .ld (.s 26) 1 false, .none⟩,
      ⟨some 28, none, .call 33 [.s 27] 0, .none⟩,
      ⟨some 6, none, .mv (.s 28), .none⟩])
  (.seq (.seq (.reg [⟨some 29, none, .mv (.s 6), .none⟩,
       ⟨some 30, none, .isn false 2 (.s 29), .none⟩])
   (.cond (.s 30)
    (.reg [⟨some 31, none, .mmk, .none⟩,
       ⟨some 6, none, .mv (.s 31), .none⟩])
    .skip))
  (.ann [2, 3, 4, 5, 6] (.seq (.reg [⟨some 32, none, .mv (.s 6), .none⟩,
      ⟨some 33, none, .ld (.s 2) 1 false, .none⟩,
      ⟨some 34, none, .ld (.s 3) 2 true, .none⟩,
      ⟨none, none, .mput (.s 32) (.s 33) (.s 34), .none⟩])
  (.seq (.reg [⟨some 35, none, .mv (.s 6), .frz⟩,
      ⟨some 36, none, .fa (.s 4) 8, .none⟩,
      ⟨none, none, .st (.s 36) (.s 35) 1, .none⟩])
  (.seq (.reg [⟨some 37, none, .ld (.s 4) 12 true, .none⟩,
      ⟨none, none, .st (.s 5) (.s 37) 12, .none⟩])
  (.ret none)))))))))
def ir32 : F := { n := 38, res := [.cell 5 12 true], body := bd32 }
@[go_sem] theorem n32 : ir32.n = 38 := rfl
@[go_sem] theorem r32 : ir32.res = [.cell 5 12 true] := rfl
@[go_sem] theorem b32 : ir32.body = bd32 := rfl
@[go_sem] theorem ks34_0 (v0 v1 v2 v3 v4 v5 v6 v7 v8 v9 v10 v11 v12 v13 v14 v15 v16 v17 v18 v19 v20 v21 v22 v23 v24 v25 v26 v27 v28 v29 v30 v31 v32 : AV) : keepS [1, 3, 4] [v0, v1, v2, v3, v4, v5, v6, v7, v8, v9, v10, v11, v12, v13, v14, v15, v16, v17, v18, v19, v20, v21, v22, v23, v24, v25, v26, v27, v28, v29, v30, v31, v32] 0 = [.unk, v1, .unk, v3, v4, .unk, .unk, .unk, .unk, .unk, .unk, .unk, .unk, .unk, .unk, .unk, .unk, .unk, .unk, .unk, .unk, .unk, .unk, .unk, .unk, .unk, .unk, .unk, .unk, .unk, .unk, .unk, .unk] := rfl
@[go_sem] theorem ks34_1 (v0 v1 v2 v3 v4 v5 v6 v7 v8 v9 v10 v11 v12 v13 v14 v15 v16 v17 v18 v19 v20 v21 v22 v23 v24 v25 v26 v27 v28 v29 v30 v31 v32 : AV) : keepS [3, 4] [v0, v1, v2, v3, v4, v5, v6, v7, v8, v9, v10, v11, v12, v13, v14, v15, v16, v17, v18, v19, v20, v21, v22, v23, v24, v25, v26, v27, v28, v29, v30, v31, v32] 0 = [.unk, .unk, .unk, v3, v4, .unk, .unk, .unk, .unk, .unk, .unk, .unk, .unk, .unk, .unk, .unk, .unk, .unk, .unk, .unk, .unk, .unk, .unk, .unk, .unk, .unk, .unk, .unk, .unk, .unk, .unk, .unk, .unk] := rfl
/-- (spence/index.Index).Forget$1 -/
def bd34 : C :=
  (.seq (.reg [⟨some 3, none, .box 30 (.s 0), .none⟩,
      ⟨some 4, none, .alloc 30 [.bool false, .int .i64 0, .int .i64 0, .str [], .int .i64 0, .int .i64 0, .int .i64 0, .int .i64 0, .nilm, .int .i64 0, .int .i64 0, .int .i64 0], .none⟩])
  (.seq (.seq (.reg [⟨some 5, none, .ld (.s 1) 1 false, .none⟩,
       ⟨some 6, none, .fa (.s 3) 9, .none⟩,
       ⟨some 7, none, .ld (.s 6) 1 false, .none⟩,
       ⟨some 8, none, .bin .geq (.s 5) (.s 7), .none⟩,
       ⟨some 9, none, .mv (.s 8), .none⟩,
       ⟨some 10, some (9, true), .ld (.s 1) 1 false, .none⟩,
       ⟨some 11, some (9, true), .bin .gtr (.s 10) (.c (.d (.int .i64 0))), .none⟩,
       ⟨some 12, none, .pick (.s 9) (.s 11) (.c (.d (.bool false))), .none⟩])
   (.cond (.s 12)
    (.drw [⟨some 13, none, .ld (.s 1) 1 false, .none⟩,
       ⟨some 14, none, .ld (.s 2) 2 true, .none⟩,
       ⟨some 15, none, .fa (.s 3) 9, .none⟩,
       ⟨none, none, .st (.s 15) (.s 13) 1, .none⟩,
       ⟨some 16, none, .fa (.s 3) 10, .none⟩,
       ⟨none, none, .st (.s 16) (.s 14) 2, .none⟩]
      [[], [], [0], [2, 0, 0], [0, 1, 2, 3], [4, 1, 3, 0, 1, 2, 3]] [(2, 15)])
    .skip))
  (.ann [1, 3, 4] (.seq (.seq (.reg [⟨some 17, none, .fa (.s 3) 0, .none⟩,
       ⟨some 18, none, .ld (.s 17) 1 false, .none⟩,
       ⟨some 19, none, .mv (.s 18), .none⟩,
       ⟨some 20, some (19, true), .fa (.s 3) 1, .none⟩,
       ⟨some 21, some (19, true), .fa (.s 20) 1, .none⟩,
       ⟨some 22, some (19, true), .ld (.s 21) 1 false, .none⟩,
       ⟨some 23, some (19, true), .ld (.s 1) 1 false, .none⟩,
       ⟨some 24, some (19, true), .bin .leq (.s 22) (.s 23), .none⟩,
       ⟨some 25, none, .pick (.s 19) (.s 24) (.c (.d (.bool false))), .none⟩])
   (.cond (.s 25)
    (.reg [⟨some 26, none, .build [.int .i64 0, .int .i64 0, .str [], .int .i64 0, .int .i64 0] [], .none⟩,
       ⟨some 27, none, .build [.int .i64 0, .int .i64 0] [], .none⟩,
       ⟨some 28, none, .fa (.s 3) 0, .none⟩,
       ⟨none, none, .st (.s 28) (.c (.d (.bool false))) 1, .none⟩,
       ⟨some 29, none, .fa (.s 3) 1, .none⟩,
       ⟨none, none, .st (.s 29) (.s 26) 5, .none⟩,
       ⟨some 30, none, .fa (.s 3) 6, .none⟩,
       ⟨none, none, .st (.s 30) (.s 27) 2, .none⟩,
       ⟨some 31, none, .fa (.s 3) 8, .none⟩,
       ⟨none, none, .st (.s 31) (.c (.d .nilm)) 1, .none⟩])
    .skip))
  (.ann [3, 4] (.seq (.reg [⟨some 32, none, .ld (.s 3) 12 true, .none⟩,
      ⟨none, none, .st (.s 4) (.s 32) 12, .none⟩])
  (.ret none)))))))
def ir34 : F := { n := 33, res := [.cell 4 12 true], body := bd34 }
@[go_sem] theorem n34 : ir34.n = 33 := rfl
@[go_sem] theorem r34 : ir34.res = [.cell 4 12 true] := rfl
@[go_sem] theorem b34 : ir34.body = bd34 := rfl
/-- spence/index.may -/
def bd36 : C :=
  (.seq (.reg [⟨some 2, none, .mv (.c (.d (.bool false))), .none⟩])
  (.seq (.reg [⟨some 3, none, .mv (.s 0), .none⟩,
      ⟨some 4, none, .bin .geq (.s 3) (.c (.d (.int .i64 0))), .none⟩,
      ⟨some 5, none, .mv (.s 4), .none⟩,
      ⟨some 6, some (5, true), .mv (.s 0), .none⟩,
      ⟨some 7, some (5, true), .bin .lss (.s 6) (.c (.d (.int .i64 16))), .none⟩,
      ⟨some 8, none, .pick (.s 5) (.s 7) (.c (.d (.bool false))), .none⟩,
      ⟨some 2, none, .mv (.s 8), .none⟩])
  (.ret none)))
def ir36 : F := { n := 9, res := [.tmp 2], body := bd36 }
@[go_sem] theorem n36 : ir36.n = 9 := rfl
@[go_sem] theorem r36 : ir36.res = [.tmp 2] := rfl
@[go_sem] theorem b36 : ir36.body = bd36 := rfl
/-- maps.Keys[map[int]spence/api.Addr,int,spence/api.Addr] -/
def bd38 : C :=
  (.seq (.reg [⟨some 1, none, .box 28 (.s 0), .none⟩,
      ⟨some 2, none, .mv (.c (.d .nilf)), .none⟩])
  (.seq (.reg [⟨some 3, none, .fn (.func 44) [] [.s 1], .none⟩,
      ⟨some 2, none, .mv (.s 3), .none⟩])
  (.ret none)))
def ir38 : F := { n := 4, res := [.tmp 2], body := bd38 }
@[go_sem] theorem n38 : ir38.n = 4 := rfl
@[go_sem] theorem r38 : ir38.res = [.tmp 2] := rfl
@[go_sem] theorem b38 : ir38.body = bd38 := rfl
def lb39_0 : C :=
  (.seq (.reg [⟨some 9, none, .bin .lss (.s 8) (.s 7), .none⟩])
  (.seq (.cond (.s 9)
    .skip
    (.exit 0 (some [2, 3])))
  (.seq (.block 1 (.seq (.reg [⟨some 10, none, .is (.s 6) (.s 8) 1, .none⟩,
        ⟨some 11, none, .ld (.s 10) 1 false, .none⟩,
        ⟨some 5, none, .mv (.s 11), .none⟩])
    (.reg [⟨some 12, none, .ld (.s 3) 65 true, .none⟩,
       ⟨some 13, none, .mv (.s 5), .none⟩,
       ⟨some 14, none, .call 45 [.s 12, .s 13] 2, .none⟩,
       ⟨none, none, .st (.s 3) (.s 14) 65, .none⟩])))
  (.reg [⟨some 15, none, .bin .add (.s 8) (.c (.d (.int .i64 1))), .none⟩,
     ⟨some 8, none, .mv (.s 15), .none⟩]))))
def lp39_0 : C := lb39_0
theorem u39_0 (c : Ev.Callee) (l : Ev.Looper) (s : St) : evC c l lp39_0 s = evC c l lb39_0 s := rfl
abbrev st39_0 (m : Nat) (s2 s3 s6 s7 s8 : AV) (h : Heap) : St := ⟨m, [.unk, .unk, s2, s3, .unk, .unk, s6, s7, s8, .unk, .unk, .unk, .unk, .unk, .unk, .unk, .unk], h⟩
@[go_sem] theorem ks39_0 (v0 v1 v2 v3 v4 v5 v6 v7 v8 v9 v10 v11 v12 v13 v14 v15 v16 : AV) : keepS [2, 3, 6, 7, 8] [v0, v1, v2, v3, v4, v5, v6, v7, v8, v9, v10, v11, v12, v13, v14, v15, v16] 0 = [.unk, .unk, v2, v3, .unk, .unk, v6, v7, v8, .unk, .unk, .unk, .unk, .unk, .unk, .unk, .unk] := rfl
@[go_sem] theorem ks39_1 (v0 v1 v2 v3 v4 v5 v6 v7 v8 v9 v10 v11 v12 v13 v14 v15 v16 : AV) : keepS [2, 3] [v0, v1, v2, v3, v4, v5, v6, v7, v8, v9, v10, v11, v12, v13, v14, v15, v16] 0 = [.unk, .unk, v2, v3, .unk, .unk, .unk, .unk, .unk, .unk, .unk, .unk, .unk, .unk, .unk, .unk, .unk] := rfl
/-- spence/bitmap.Of -/
def bd39 : C :=
  (.seq (.reg [⟨some 2, none, .alloc 74 [.int .u64 0, .int .u64 0, .int .u64 0, .int .u64 0, .int .u64 0, .int .u64 0, .int .u64 0, .int .u64 0, .int .u64 0, .int .u64 0, .int .u64 0, .int .u64 0, .int .u64 0, .int .u64 0, .int .u64 0, .int .u64 0, .int .u64 0, .int .u64 0, .int .u64 0, .int .u64 0, .int .u64 0, .int .u64 0, .int .u64 0, .int .u64 0, .int .u64 0, .int .u64 0, .int .u64 0, .int .u64 0, .int .u64 0, .int .u64 0, .int .u64 0, .int .u64 0, .int .u64 0, .int .u64 0, .int .u64 0, .int .u64 0, .int .u64 0, .int .u64 0, .int .u64 0, .int .u64 0, .int .u64 0, .int .u64 0, .int .u64 0, .int .u64 0, .int .u64 0, .int .u64 0, .int .u64 0, .int .u64 0, .int .u64 0, .int .u64 0, .int .u64 0, .int .u64 0, .int .u64 0, .int .u64 0, .int .u64 0, .int .u64 0, .int .u64 0, .int .u64 0, .int .u64 0, .int .u64 0, .int .u64 0, .int .u64 0, .int .u64 0, .int .u64 0, .int .u64 0], .none⟩])
  (.seq (.reg [⟨some 3, none, .alloc 74 [.int .u64 0, .int .u64 0, .int .u64 0, .int .u64 0, .int .u64 0, .int .u64 0, .int .u64 0, .int .u64 0, .int .u64 0, .int .u64 0, .int .u64 0, .int .u64 0, .int .u64 0, .int .u64 0, .int .u64 0, .int .u64 0, .int .u64 0, .int .u64 0, .int .u64 0, .int .u64 0, .int .u64 0, .int .u64 0, .int .u64 0, .int .u64 0, .int .u64 0, .int .u64 0, .int .u64 0, .int .u64 0, .int .u64 0, .int .u64 0, .int .u64 0, .int .u64 0, .int .u64 0, .int .u64 0, .int .u64 0, .int .u64 0, .int .u64 0, .int .u64 0, .int .u64 0, .int .u64 0, .int .u64 0, .int .u64 0, .int .u64 0, .int .u64 0, .int .u64 0, .int .u64 0, .int .u64 0, .int .u64 0, .int .u64 0, .int .u64 0, .int .u64 0, .int .u64 0, .int .u64 0, .int .u64 0, .int .u64 0, .int .u64 0, .int .u64 0, .int .u64 0, .int .u64 0, .int .u64 0, .int .u64 0, .int .u64 0, .int .u64 0, .int .u64 0, .int .u64 0], .none⟩])
  (.seq (.seq (.reg [⟨some 6, none, .mv (.s 0), .none⟩,
       ⟨some 7, none, .len (.s 6), .none⟩,
       ⟨some 8, none, .mv (.c (.d (.int .i64 0))), .none⟩])
   (.block 0 (.loop [2, 3, 6, 7, 8] lp39_0)))
  (.seq (.reg [⟨some 16, none, .ld (.s 3) 65 true, .none⟩,
      ⟨none, none, .st (.s 2) (.s 16) 65, .none⟩])
  (.ret none)))))
def ir39 : F := { n := 17, res := [.cell 2 65 true], body := bd39 }
@[go_sem] theorem n39 : ir39.n = 17 := rfl
@[go_sem] theorem r39 : ir39.res = [.cell 2 65 true] := rfl
@[go_sem] theorem b39 : ir39.body = bd39 := rfl
def lb44_0 : C :=
  (.seq (.reg [⟨some 6, none, .bad, .none⟩,
      ⟨some 7, none, .ext (.s 6) 0, .none⟩])
  (.seq (.cond (.s 7)
    .skip
    (.exit 0 (some [])))
  (.block 1 (.seq (.reg [⟨some 8, none, .bad, .none⟩,
       ⟨some 9, none, .ext (.s 8) 0, .none⟩,
       ⟨some 3, none, .mv (.s 9), .none⟩])
   (.seq (.reg [⟨some 10, none, .mv (.s 0), .none⟩,
       ⟨some 11, none, .mv (.s 3), .none⟩,
       ⟨some 12, none, .callv (.s 10) [.s 11] 0, .none⟩,
       ⟨some 13, none, .un .not (.s 12), .none⟩])
   (.cond (.s 13)
    (.ret (some []))
    .skip))))))
def lp44_0 : C := lb44_0
theorem u44_0 (c : Ev.Callee) (l : Ev.Looper) (s : St) : evC c l lp44_0 s = evC c l lb44_0 s := rfl
abbrev st44_0 (m : Nat) (s0 : AV) (h : Heap) : St := ⟨m, [s0, .unk, .unk, .unk, .unk, .unk, .unk, .unk, .unk, .unk, .unk, .unk, .unk, .unk], h⟩
@[go_sem] theorem ks44_0 (v0 v1 v2 v3 v4 v5 v6 v7 v8 v9 v10 v11 v12 v13 : AV) : keepS [0] [v0, v1, v2, v3, v4, v5, v6, v7, v8, v9, v10, v11, v12, v13] 0 = [v0, .unk, .unk, .unk, .unk, .unk, .unk, .unk, .unk, .unk, .unk, .unk, .unk, .unk] := rfl
@[go_sem] theorem ks44_1 (v0 v1 v2 v3 v4 v5 v6 v7 v8 v9 v10 v11 v12 v13 : AV) : keepS [] [v0, v1, v2, v3, v4, v5, v6, v7, v8, v9, v10, v11, v12, v13] 0 = [.unk, .unk, .unk, .unk, .unk, .unk, .unk, .unk, .unk, .unk, .unk, .unk, .unk, .unk] := rfl
/-- maps.Keys[map[int]spence/api.Addr,int,spence/api.Addr]$1 -/
def bd44 : C :=
  (.seq (.reg [⟨some 4, none, .ld (.s 1) 1 false, .none⟩,
      ⟨some 5, none, .bad, .none⟩])
  (.block 0 (.loop [0] lp44_0)))
def ir44 : F := { n := 14, res := [], body := bd44 }
@[go_sem] theorem n44 : ir44.n = 14 := rfl
@[go_sem] theorem r44 : ir44.res = [] := rfl
@[go_sem] theorem b44 : ir44.body = bd44 := rfl
@[go_sem] theorem ks45_0 (v0 v1 v2 v3 v4 v5 v6 v7 v8 v9 v10 v11 v12 v13 v14 v15 v16 v17 v18 : AV) : keepS [2, 4] [v0, v1, v2, v3, v4, v5, v6, v7, v8, v9, v10, v11, v12, v13, v14, v15, v16, v17, v18] 0 = [.unk, .unk, v2, .unk, v4, .unk, .unk, .unk, .unk, .unk, .unk, .unk, .unk, .unk, .unk, .unk, .unk, .unk, .unk] := rfl
/-- (spence/bitmap.Map).With -/
def bd45 : C :=
  (.seq (.reg [⟨some 2, none, .box 74 (.s 0), .none⟩,
      ⟨some 4, none, .alloc 74 [.int .u64 0, .int .u64 0, .int .u64 0, .int .u64 0, .int .u64 0, .int .u64 0, .int .u64 0, .int .u64 0, .int .u64 0, .int .u64 0, .int .u64 0, .int .u64 0, .int .u64 0, .int .u64 0, .int .u64 0, .int .u64 0, .int .u64 0, .int .u64 0, .int .u64 0, .int .u64 0, .int .u64 0, .int .u64 0, .int .u64 0, .int .u64 0, .int .u64 0, .int .u64 0, .int .u64 0, .int .u64 0, .int .u64 0, .int .u64 0, .int .u64 0, .int .u64 0, .int .u64 0, .int .u64 0, .int .u64 0, .int .u64 0, .int .u64 0, .int .u64 0, .int .u64 0, .int .u64 0, .int .u64 0, .int .u64 0, .int .u64 0, .int .u64 0, .int .u64 0, .int .u64 0, .int .u64 0, .int .u64 0, .int .u64 0, .int .u64 0, .int .u64 0, .int .u64 0, .int .u64 0, .int .u64 0, .int .u64 0, .int .u64 0, .int .u64 0, .int .u64 0, .int .u64 0, .int .u64 0, .int .u64 0, .int .u64 0, .int .u64 0, .int .u64 0, .int .u64 0], .none⟩])
  (.seq (.seq (.reg [⟨some 5, none, .mv (.s 1), .none⟩,
       ⟨some 6, none, .call 51 [.s 5] 2, .none⟩])
   (.cond (.s 6)
    (.drw [⟨some 7, none, .mv (.s 1), .none⟩,
       ⟨some 8, none, .bin .quo (.s 7) (.c (.d (.int .i64 64))), .none⟩,
       ⟨some 9, none, .fa (.s 2) 0, .none⟩,
       ⟨some 10, none, .ia (.s 9) (.s 8) 65 1, .none⟩,
       ⟨some 11, none, .ld (.s 10) 1 false, .none⟩,
       ⟨some 12, none, .mv (.s 1), .none⟩,
       ⟨some 13, none, .bin .rem (.s 12) (.c (.d (.int .i64 64))), .none⟩,
       ⟨some 14, none, .bin .shl (.c (.d (.int .u64 1))) (.s 13), .none⟩,
       ⟨some 15, none, .bin .or (.s 11) (.s 14), .none⟩,
       ⟨some 16, none, .fa (.s 2) 0, .none⟩,
       ⟨some 17, none, .ia (.s 16) (.s 8) 65 1, .none⟩,
       ⟨none, none, .st (.s 17) (.s 15) 1, .none⟩]
      [[], [0], [], [2, 1], [3], [], [5], [6], [4, 7], [], [9, 1, 0, 1, 2, 3, 4, 5, 6, 7, 8], [10, 8, 0, 1, 2, 3, 4, 5, 6, 7, 8]] [])
    .skip))
  (.ann [2, 4] (.seq (.reg [⟨some 18, none, .ld (.s 2) 65 true, .none⟩,
      ⟨none, none, .st (.s 4) (.s 18) 65, .none⟩])
  (.ret none)))))
def ir45 : F := { n := 19, res := [.cell 4 65 true], body := bd45 }
@[go_sem] theorem n45 : ir45.n = 19 := rfl
@[go_sem] theorem r45 : ir45.res = [.cell 4 65 true] := rfl
@[go_sem] theorem b45 : ir45.body = bd45 := rfl
/-- spence/bitmap.may -/
def bd51 : C :=
  (.seq (.reg [⟨some 2, none, .mv (.c (.d (.bool false))), .none⟩])
  (.seq (.reg [⟨some 3, none, .mv (.s 0), .none⟩,
      ⟨some 4, none, .bin .geq (.s 3) (.c (.d (.int .i64 0))), .none⟩,
      ⟨some 5, none, .mv (.s 4), .none⟩,
      ⟨some 6, some (5, true), .mv (.s 0), .none⟩,
      ⟨some 7, some (5, true), .bin .leq (.s 6) (.c (.d (.int .i64 4096))), .none⟩,
      ⟨some 8, none, .pick (.s 5) (.s 7) (.c (.d (.bool false))), .none⟩,
      ⟨some 2, none, .mv (.s 8), .none⟩])
  (.ret none)))
def ir51 : F := { n := 9, res := [.tmp 2], body := bd51 }
@[go_sem] theorem n51 : ir51.n = 9 := rfl
@[go_sem] theorem r51 : ir51.res = [.tmp 2] := rfl
@[go_sem] theorem b51 : ir51.body = bd51 := rfl

def irf : FuncId → Option F
  | 3 => some ir3
  | 4 => some ir4
  | 5 => some ir5
  | 6 => some ir6
  | 7 => some ir7
  | 8 => some ir8
  | 9 => some ir9
  | 10 => some ir10
  | 11 => some ir11
  | 12 => some ir12
  | 13 => some ir13
  | 14 => some ir14
  | 15 => some ir15
  | 16 => some ir16
  | 17 => some ir17
  | 18 => some ir18
  | 19 => some ir19
  | 20 => some ir20
  | 21 => some ir21
  | 22 => some ir22
  | 23 => some ir23
  | 24 => some ir24
  | 25 => some ir25
  | 26 => some ir26
  | 27 => some ir27
  | 29 => some ir29
  | 30 => some ir30
  | 31 => some ir31
  | 32 => some ir32
  | 34 => some ir34
  | 36 => some ir36
  | 38 => some ir38
  | 39 => some ir39
  | 44 => some ir44
  | 45 => some ir45
  | 51 => some ir51
  | _ => none
def ir : IR := ⟨irf, natOr (natME 35) (natOr (natMC 33) (natOr (natSO 37 44) (natOr (natBL 28) (natNo))))⟩
theorem c3 : cF Tryd.prog 3 = some ir3.strip := by kernel_rfl
theorem k3 : ir3.body.okD = true := by kernel_rfl
theorem c4 : cF Tryd.prog 4 = some ir4.strip := by kernel_rfl
theorem k4 : ir4.body.okD = true := by kernel_rfl
theorem c5 : cF Tryd.prog 5 = some ir5.strip := by kernel_rfl
theorem k5 : ir5.body.okD = true := by kernel_rfl
theorem c6 : cF Tryd.prog 6 = some ir6.strip := by kernel_rfl
theorem k6 : ir6.body.okD = true := by kernel_rfl
theorem c7 : cF Tryd.prog 7 = some ir7.strip := by kernel_rfl
theorem k7 : ir7.body.okD = true := by kernel_rfl
theorem c8 : cF Tryd.prog 8 = some ir8.strip := by kernel_rfl
theorem k8 : ir8.body.okD = true := by kernel_rfl
theorem c9 : cF Tryd.prog 9 = some ir9.strip := by kernel_rfl
theorem k9 : ir9.body.okD = true := by kernel_rfl
theorem c10 : cF Tryd.prog 10 = some ir10.strip := by kernel_rfl
theorem k10 : ir10.body.okD = true := by kernel_rfl
theorem c11 : cF Tryd.prog 11 = some ir11.strip := by kernel_rfl
theorem k11 : ir11.body.okD = true := by kernel_rfl
theorem c12 : cF Tryd.prog 12 = some ir12.strip := by kernel_rfl
theorem k12 : ir12.body.okD = true := by kernel_rfl
theorem c13 : cF Tryd.prog 13 = some ir13.strip := by kernel_rfl
theorem k13 : ir13.body.okD = true := by kernel_rfl
theorem c14 : cF Tryd.prog 14 = some ir14.strip := by kernel_rfl
theorem k14 : ir14.body.okD = true := by kernel_rfl
theorem c15 : cF Tryd.prog 15 = some ir15.strip := by kernel_rfl
theorem k15 : ir15.body.okD = true := by kernel_rfl
theorem c16 : cF Tryd.prog 16 = some ir16.strip := by kernel_rfl
theorem k16 : ir16.body.okD = true := by kernel_rfl
theorem c17 : cF Tryd.prog 17 = some ir17.strip := by kernel_rfl
theorem k17 : ir17.body.okD = true := by kernel_rfl
theorem c18 : cF Tryd.prog 18 = some ir18.strip := by kernel_rfl
theorem k18 : ir18.body.okD = true := by kernel_rfl
theorem c19 : cF Tryd.prog 19 = some ir19.strip := by kernel_rfl
theorem k19 : ir19.body.okD = true := by kernel_rfl
theorem c20 : cF Tryd.prog 20 = some ir20.strip := by kernel_rfl
theorem k20 : ir20.body.okD = true := by kernel_rfl
theorem c21 : cF Tryd.prog 21 = some ir21.strip := by kernel_rfl
theorem k21 : ir21.body.okD = true := by kernel_rfl
theorem c22 : cF Tryd.prog 22 = some ir22.strip := by kernel_rfl
theorem k22 : ir22.body.okD = true := by kernel_rfl
theorem c23 : cF Tryd.prog 23 = some ir23.strip := by kernel_rfl
theorem k23 : ir23.body.okD = true := by kernel_rfl
theorem c24 : cF Tryd.prog 24 = some ir24.strip := by kernel_rfl
theorem k24 : ir24.body.okD = true := by kernel_rfl
theorem c25 : cF Tryd.prog 25 = some ir25.strip := by kernel_rfl
theorem k25 : ir25.body.okD = true := by kernel_rfl
theorem c26 : cF Tryd.prog 26 = some ir26.strip := by kernel_rfl
theorem k26 : ir26.body.okD = true := by kernel_rfl
theorem c27 : cF Tryd.prog 27 = some ir27.strip := by kernel_rfl
theorem k27 : ir27.body.okD = true := by kernel_rfl
theorem c29 : cF Tryd.prog 29 = some ir29.strip := by kernel_rfl
theorem k29 : ir29.body.okD = true := by kernel_rfl
theorem c30 : cF Tryd.prog 30 = some ir30.strip := by kernel_rfl
theorem k30 : ir30.body.okD = true := by kernel_rfl
theorem c31 : cF Tryd.prog 31 = some ir31.strip := by kernel_rfl
theorem k31 : ir31.body.okD = true := by kernel_rfl
theorem c32 : cF Tryd.prog 32 = some ir32.strip := by kernel_rfl
theorem k32 : ir32.body.okD = true := by kernel_rfl
theorem c34 : cF Tryd.prog 34 = some ir34.strip := by kernel_rfl
theorem k34 : ir34.body.okD = true := by kernel_rfl
theorem c36 : cF Tryd.prog 36 = some ir36.strip := by kernel_rfl
theorem k36 : ir36.body.okD = true := by kernel_rfl
theorem c38 : cF Tryd.prog 38 = some ir38.strip := by kernel_rfl
theorem k38 : ir38.body.okD = true := by kernel_rfl
theorem c39 : cF Tryd.prog 39 = some ir39.strip := by kernel_rfl
theorem k39 : ir39.body.okD = true := by kernel_rfl
theorem c44 : cF Tryd.prog 44 = some ir44.strip := by kernel_rfl
theorem k44 : ir44.body.okD = true := by kernel_rfl
theorem c45 : cF Tryd.prog 45 = some ir45.strip := by kernel_rfl
theorem k45 : ir45.body.okD = true := by kernel_rfl
theorem c51 : cF Tryd.prog 51 = some ir51.strip := by kernel_rfl
theorem k51 : ir51.body.okD = true := by kernel_rfl
theorem tab : Tab Tryd.prog ir := by
  refine ⟨by kernel_rfl, fun f fn h => ?_, natOr_snd (Tryd.equalN) (natOr_snd (Tryd.cloneN) (natOr_snd (Tryd.sortedN) (natOr_snd (Tryd.listN) (natNo_snd))))⟩
  change irf f = some fn at h
  unfold irf at h
  split at h
  · cases h; exact ⟨c3, k3⟩
  · cases h; exact ⟨c4, k4⟩
  · cases h; exact ⟨c5, k5⟩
  · cases h; exact ⟨c6, k6⟩
  · cases h; exact ⟨c7, k7⟩
  · cases h; exact ⟨c8, k8⟩
  · cases h; exact ⟨c9, k9⟩
  · cases h; exact ⟨c10, k10⟩
  · cases h; exact ⟨c11, k11⟩
  · cases h; exact ⟨c12, k12⟩
  · cases h; exact ⟨c13, k13⟩
  · cases h; exact ⟨c14, k14⟩
  · cases h; exact ⟨c15, k15⟩
  · cases h; exact ⟨c16, k16⟩
  · cases h; exact ⟨c17, k17⟩
  · cases h; exact ⟨c18, k18⟩
  · cases h; exact ⟨c19, k19⟩
  · cases h; exact ⟨c20, k20⟩
  · cases h; exact ⟨c21, k21⟩
  · cases h; exact ⟨c22, k22⟩
  · cases h; exact ⟨c23, k23⟩
  · cases h; exact ⟨c24, k24⟩
  · cases h; exact ⟨c25, k25⟩
  · cases h; exact ⟨c26, k26⟩
  · cases h; exact ⟨c27, k27⟩
  · cases h; exact ⟨c29, k29⟩
  · cases h; exact ⟨c30, k30⟩
  · cases h; exact ⟨c31, k31⟩
  · cases h; exact ⟨c32, k32⟩
  · cases h; exact ⟨c34, k34⟩
  · cases h; exact ⟨c36, k36⟩
  · cases h; exact ⟨c38, k38⟩
  · cases h; exact ⟨c39, k39⟩
  · cases h; exact ⟨c44, k44⟩
  · cases h; exact ⟨c45, k45⟩
  · cases h; exact ⟨c51, k51⟩
  · cases h
end Go.Proofs.YtoipfdbdifoecaaDoor.Ir
