/- The texts of the functions in the small language. Printed by a program of my own (irgen.py). -/
import Derived.Test.YtefcgdcmhhgfgaaEvSim
import Derived.Test.YtefcgdcmhhgfgaaProg
namespace Go.Proofs.Ytefcgdcmhhgfgaa.Ir
open Go Go.Ev
set_option maxRecDepth 10000

def lb6_0 : C :=
  (.seq (.reg [⟨some 25, none, .bin .lss (.s 24) (.s 23), .none⟩])
  (.seq (.cond (.s 25)
    .skip
    (.exit 0 (some [0, 3, 5, 6, 9, 10])))
  (.seq (.block 1 (.seq (.reg [⟨some 26, none, .mv (.s 24), .none⟩,
        ⟨some 27, none, .is (.s 22) (.s 24) 2, .none⟩,
        ⟨some 28, none, .ld (.s 27) 2 true, .none⟩,
        ⟨some 12, none, .alloc 38 [.int .i64 0, .int .i64 0], .none⟩,
        ⟨some 11, none, .mv (.s 26), .none⟩,
        ⟨none, none, .st (.s 12) (.s 28) 2, .none⟩])
    (.seq (.seq (.reg [⟨some 29, none, .ld (.s 12) 2 true, .none⟩,
         ⟨some 30, none, .call 22 [.s 29] 2, .none⟩])
     (.cond (.s 30)
      (.reg [⟨some 31, none, .mv (.s 9), .none⟩,
         ⟨some 32, none, .fa (.s 12) 1, .none⟩,
         ⟨some 33, none, .ld (.s 32) 1 false, .none⟩,
         ⟨some 34, none, .fa (.s 12) 0, .none⟩,
         ⟨some 35, none, .ld (.s 34) 1 false, .none⟩,
         ⟨some 36, none, .bin .sub (.s 33) (.s 35), .none⟩,
         ⟨some 37, none, .cvi .u64 (.s 36), .none⟩,
         ⟨some 38, none, .bin .add (.s 31) (.s 37), .none⟩,
         ⟨some 9, none, .mv (.s 38), .none⟩])
      .skip))
    (.seq (.seq (.reg [⟨some 39, none, .mv (.s 9), .none⟩,
         ⟨some 40, none, .bin .gtr (.s 39) (.c (.d (.int .u64 4611686018427387903))), .none⟩])
     (.cond (.s 40)
      (.reg [⟨some 9, none, .mv (.c (.d (.int .u64 4611686018427387903))), .none⟩])
      .skip))
    (.drw [⟨some 41, none, .mv (.s 10), .none⟩,
       ⟨some 42, none, .mv (.s 41), .none⟩,
       ⟨some 43, some (42, true), .ld (.s 12) 2 true, .none⟩,
       ⟨some 44, some (42, true), .call 22 [.s 43] 2, .none⟩,
       ⟨some 45, none, .pick (.s 42) (.s 44) (.c (.d (.bool false))), .none⟩,
       ⟨some 46, none, .mv (.s 45), .none⟩,
       ⟨some 47, some (46, true), .mv (.s 11), .none⟩,
       ⟨some 48, some (46, true), .bin .eql (.s 47) (.c (.d (.int .i64 0))), .none⟩,
       ⟨some 49, some (46, true), .mv (.s 48), .none⟩,
       ⟨some 50, some (49, false), .mv (.s 0), .none⟩,
       ⟨some 51, some (49, false), .mv (.s 11), .none⟩,
       ⟨some 52, some (49, false), .bin .sub (.s 51) (.c (.d (.int .i64 1))), .none⟩,
       ⟨some 53, some (49, false), .is (.s 50) (.s 52) 2, .none⟩,
       ⟨some 54, some (49, false), .fa (.s 53) 1, .none⟩,
       ⟨some 55, some (49, false), .ld (.s 54) 1 false, .none⟩,
       ⟨some 56, some (49, false), .fa (.s 12) 0, .none⟩,
       ⟨some 57, some (49, false), .ld (.s 56) 1 false, .none⟩,
       ⟨some 58, some (49, false), .bin .lss (.s 55) (.s 57), .none⟩,
       ⟨some 59, some (46, true), .pick (.s 49) (.c (.d (.bool true))) (.s 58), .none⟩,
       ⟨some 60, none, .pick (.s 46) (.s 59) (.c (.d (.bool false))), .none⟩,
       ⟨some 10, none, .mv (.s 60), .none⟩]
      [[], [0], [1], [2, 1, 1], [1, 3], [4, 3], [5], [6, 5], [7, 5, 5], [8], [8], [10, 8], [9, 11, 8], [12, 8], [13, 8], [8], [15, 8], [14, 16, 8], [8, 17, 5], [5, 18], [19, 8, 0, 1, 2, 3, 4, 5, 6, 7, 8, 9, 10, 11, 12, 13, 14, 15, 16, 17, 18, 19]])))))
  (.reg [⟨some 61, none, .bin .add (.s 24) (.c (.d (.int .i64 1))), .none⟩,
     ⟨some 24, none, .mv (.s 61), .none⟩]))))
def lp6_0 : C := lb6_0
theorem u6_0 (c : Ev.Callee) (l : Ev.Looper) (s : St) : evC c l lp6_0 s = evC c l lb6_0 s := rfl
abbrev st6_0 (m : Nat) (s0 s3 s5 s6 s9 s10 s22 s23 s24 : AV) (h : Heap) : St := ⟨m, [s0, .unk, .unk, s3, .unk, s5, s6, .unk, .unk, s9, s10, .unk, .unk, .unk, .unk, .unk, .unk, .unk, .unk, .unk, .unk, .unk, s22, s23, s24, .unk, .unk, .unk, .unk, .unk, .unk, .unk, .unk, .unk, .unk, .unk, .unk, .unk, .unk, .unk, .unk, .unk, .unk, .unk, .unk, .unk, .unk, .unk, .unk, .unk, .unk, .unk, .unk, .unk, .unk, .unk, .unk, .unk, .unk, .unk, .unk, .unk, .unk, .unk, .unk, .unk, .unk, .unk, .unk, .unk, .unk, .unk, .unk, .unk, .unk, .unk, .unk, .unk, .unk, .unk, .unk, .unk, .unk, .unk, .unk, .unk, .unk, .unk, .unk, .unk, .unk, .unk, .unk, .unk, .unk, .unk, .unk, .unk, .unk, .unk, .unk, .unk, .unk, .unk, .unk, .unk, .unk, .unk, .unk, .unk, .unk, .unk, .unk, .unk, .unk, .unk, .unk, .unk, .unk, .unk, .unk, .unk, .unk], h⟩
@[go_sem] theorem ks6_0 (v0 v1 v2 v3 v4 v5 v6 v7 v8 v9 v10 v11 v12 v13 v14 v15 v16 v17 v18 v19 v20 v21 v22 v23 v24 v25 v26 v27 v28 v29 v30 v31 v32 v33 v34 v35 v36 v37 v38 v39 v40 v41 v42 v43 v44 v45 v46 v47 v48 v49 v50 v51 v52 v53 v54 v55 v56 v57 v58 v59 v60 v61 v62 v63 v64 v65 v66 v67 v68 v69 v70 v71 v72 v73 v74 v75 v76 v77 v78 v79 v80 v81 v82 v83 v84 v85 v86 v87 v88 v89 v90 v91 v92 v93 v94 v95 v96 v97 v98 v99 v100 v101 v102 v103 v104 v105 v106 v107 v108 v109 v110 v111 v112 v113 v114 v115 v116 v117 v118 v119 v120 v121 v122 : AV) : keepS [0, 3, 5, 6, 9, 10, 22, 23, 24] [v0, v1, v2, v3, v4, v5, v6, v7, v8, v9, v10, v11, v12, v13, v14, v15, v16, v17, v18, v19, v20, v21, v22, v23, v24, v25, v26, v27, v28, v29, v30, v31, v32, v33, v34, v35, v36, v37, v38, v39, v40, v41, v42, v43, v44, v45, v46, v47, v48, v49, v50, v51, v52, v53, v54, v55, v56, v57, v58, v59, v60, v61, v62, v63, v64, v65, v66, v67, v68, v69, v70, v71, v72, v73, v74, v75, v76, v77, v78, v79, v80, v81, v82, v83, v84, v85, v86, v87, v88, v89, v90, v91, v92, v93, v94, v95, v96, v97, v98, v99, v100, v101, v102, v103, v104, v105, v106, v107, v108, v109, v110, v111, v112, v113, v114, v115, v116, v117, v118, v119, v120, v121, v122] 0 = [v0, .unk, .unk, v3, .unk, v5, v6, .unk, .unk, v9, v10, .unk, .unk, .unk, .unk, .unk, .unk, .unk, .unk, .unk, .unk, .unk, v22, v23, v24, .unk, .unk, .unk, .unk, .unk, .unk, .unk, .unk, .unk, .unk, .unk, .unk, .unk, .unk, .unk, .unk, .unk, .unk, .unk, .unk, .unk, .unk, .unk, .unk, .unk, .unk, .unk, .unk, .unk, .unk, .unk, .unk, .unk, .unk, .unk, .unk, .unk, .unk, .unk, .unk, .unk, .unk, .unk, .unk, .unk, .unk, .unk, .unk, .unk, .unk, .unk, .unk, .unk, .unk, .unk, .unk, .unk, .unk, .unk, .unk, .unk, .unk, .unk, .unk, .unk, .unk, .unk, .unk, .unk, .unk, .unk, .unk, .unk, .unk, .unk, .unk, .unk, .unk, .unk, .unk, .unk, .unk, .unk, .unk, .unk, .unk, .unk, .unk, .unk, .unk, .unk, .unk, .unk, .unk, .unk, .unk, .unk, .unk] := rfl
@[go_sem] theorem ks6_1 (v0 v1 v2 v3 v4 v5 v6 v7 v8 v9 v10 v11 v12 v13 v14 v15 v16 v17 v18 v19 v20 v21 v22 v23 v24 v25 v26 v27 v28 v29 v30 v31 v32 v33 v34 v35 v36 v37 v38 v39 v40 v41 v42 v43 v44 v45 v46 v47 v48 v49 v50 v51 v52 v53 v54 v55 v56 v57 v58 v59 v60 v61 v62 v63 v64 v65 v66 v67 v68 v69 v70 v71 v72 v73 v74 v75 v76 v77 v78 v79 v80 v81 v82 v83 v84 v85 v86 v87 v88 v89 v90 v91 v92 v93 v94 v95 v96 v97 v98 v99 v100 v101 v102 v103 v104 v105 v106 v107 v108 v109 v110 v111 v112 v113 v114 v115 v116 v117 v118 v119 v120 v121 v122 : AV) : keepS [0, 3, 5, 6, 9, 10] [v0, v1, v2, v3, v4, v5, v6, v7, v8, v9, v10, v11, v12, v13, v14, v15, v16, v17, v18, v19, v20, v21, v22, v23, v24, v25, v26, v27, v28, v29, v30, v31, v32, v33, v34, v35, v36, v37, v38, v39, v40, v41, v42, v43, v44, v45, v46, v47, v48, v49, v50, v51, v52, v53, v54, v55, v56, v57, v58, v59, v60, v61, v62, v63, v64, v65, v66, v67, v68, v69, v70, v71, v72, v73, v74, v75, v76, v77, v78, v79, v80, v81, v82, v83, v84, v85, v86, v87, v88, v89, v90, v91, v92, v93, v94, v95, v96, v97, v98, v99, v100, v101, v102, v103, v104, v105, v106, v107, v108, v109, v110, v111, v112, v113, v114, v115, v116, v117, v118, v119, v120, v121, v122] 0 = [v0, .unk, .unk, v3, .unk, v5, v6, .unk, .unk, v9, v10, .unk, .unk, .unk, .unk, .unk, .unk, .unk, .unk, .unk, .unk, .unk, .unk, .unk, .unk, .unk, .unk, .unk, .unk, .unk, .unk, .unk, .unk, .unk, .unk, .unk, .unk, .unk, .unk, .unk, .unk, .unk, .unk, .unk, .unk, .unk, .unk, .unk, .unk, .unk, .unk, .unk, .unk, .unk, .unk, .unk, .unk, .unk, .unk, .unk, .unk, .unk, .unk, .unk, .unk, .unk, .unk, .unk, .unk, .unk, .unk, .unk, .unk, .unk, .unk, .unk, .unk, .unk, .unk, .unk, .unk, .unk, .unk, .unk, .unk, .unk, .unk, .unk, .unk, .unk, .unk, .unk, .unk, .unk, .unk, .unk, .unk, .unk, .unk, .unk, .unk, .unk, .unk, .unk, .unk, .unk, .unk, .unk, .unk, .unk, .unk, .unk, .unk, .unk, .unk, .unk, .unk, .unk, .unk, .unk, .unk, .unk, .unk] := rfl
/-- spence/spencelaw06.SpanTells -/
def bd6 : C :=
  (.seq (.reg [⟨some 5, none, .box 38 (.s 1), .none⟩,
      ⟨some 6, none, .box 38 (.s 2), .none⟩,
      ⟨some 8, none, .mv (.c (.d (.bool false))), .none⟩])
  (.seq (.seq (.reg [⟨some 17, none, .call 18 [] 2, .none⟩,
       ⟨some 18, none, .un .not (.s 17), .none⟩])
   (.cond (.s 18)
    (.seq (.reg [⟨some 8, none, .mv (.c (.d (.bool false))), .none⟩])
    (.ret none))
    .skip))
  (.seq (.seq (.reg [⟨some 19, none, .mv (.s 0), .none⟩,
       ⟨some 20, none, .len (.s 19), .none⟩,
       ⟨some 21, none, .bin .gtr (.s 20) (.c (.d (.int .i64 40))), .none⟩])
   (.cond (.s 21)
    (.seq (.reg [⟨some 8, none, .mv (.c (.d (.bool true))), .none⟩])
    (.ret none))
    .skip))
  (.seq (.reg [⟨some 9, none, .mv (.c (.d (.int .u64 0))), .none⟩])
  (.seq (.reg [⟨some 10, none, .mv (.c (.d (.bool true))), .none⟩])
  (.seq (.seq (.reg [⟨some 22, none, .mv (.s 0), .none⟩,
       ⟨some 23, none, .len (.s 22), .none⟩,
       ⟨some 24, none, .mv (.c (.d (.int .i64 0))), .none⟩])
   (.block 0 (.loop [0, 3, 5, 6, 9, 10, 22, 23, 24] lp6_0)))
  (.seq (.reg [⟨some 13, none, .mv (.c (.d (.int .i64 0))), .none⟩])
  (.seq (.seq (.reg [⟨some 62, none, .ld (.s 5) 2 true, .none⟩,
       ⟨some 63, none, .call 22 [.s 62] 2, .none⟩])
   (.cond (.s 63)
    (.reg [⟨some 64, none, .fa (.s 5) 1, .none⟩,
       ⟨some 65, none, .ld (.s 64) 1 false, .none⟩,
       ⟨some 66, none, .fa (.s 5) 0, .none⟩,
       ⟨some 67, none, .ld (.s 66) 1 false, .none⟩,
       ⟨some 68, none, .bin .sub (.s 65) (.s 67), .none⟩,
       ⟨some 13, none, .mv (.s 68), .none⟩])
    .skip))
  (.seq (.reg [⟨some 70, none, .ld (.s 5) 2 true, .none⟩,
      ⟨some 71, none, .ld (.s 6) 2 true, .none⟩,
      ⟨some 72, none, .call 23 [.s 70, .s 71] 2, .none⟩,
      ⟨some 69, none, .mv (.s 72), .none⟩,
      ⟨some 73, none, .ext (.s 69) 0, .none⟩,
      ⟨some 74, none, .ext (.s 69) 1, .none⟩,
      ⟨some 14, none, .alloc 38 [.int .i64 0, .int .i64 0], .none⟩,
      ⟨none, none, .st (.s 14) (.s 73) 2, .none⟩,
      ⟨some 15, none, .mv (.s 74), .none⟩])
  (.seq (.reg [⟨some 75, none, .ld (.s 5) 2 true, .none⟩,
      ⟨some 76, none, .ld (.s 6) 2 true, .none⟩,
      ⟨some 77, none, .call 24 [.s 75, .s 76] 2, .none⟩,
      ⟨some 16, none, .alloc 38 [.int .i64 0, .int .i64 0], .none⟩,
      ⟨none, none, .st (.s 16) (.s 77) 2, .none⟩])
  (.seq (.drw [⟨some 78, none, .ld (.s 5) 2 true, .none⟩,
      ⟨some 79, none, .call 25 [.s 78] 2, .none⟩,
      ⟨some 80, none, .ld (.s 5) 2 true, .none⟩,
      ⟨some 81, none, .call 22 [.s 80] 2, .none⟩,
      ⟨some 82, none, .beq false (.s 79) (.s 81), .none⟩,
      ⟨some 83, none, .mv (.s 82), .none⟩,
      ⟨some 84, some (83, true), .ld (.s 5) 2 true, .none⟩,
      ⟨some 85, some (83, true), .call 26 [.s 84] 2, .none⟩,
      ⟨some 86, some (83, true), .mv (.s 13), .none⟩,
      ⟨some 87, some (83, true), .bin .eql (.s 85) (.s 86), .none⟩,
      ⟨some 88, none, .pick (.s 83) (.s 87) (.c (.d (.bool false))), .none⟩,
      ⟨some 89, none, .mv (.s 88), .none⟩,
      ⟨some 90, some (89, true), .mv (.s 0), .none⟩,
      ⟨some 91, some (89, true), .call 27 [.s 90] 2, .none⟩,
      ⟨some 92, some (89, true), .cvi .u64 (.s 91), .none⟩,
      ⟨some 93, some (89, true), .mv (.s 9), .none⟩,
      ⟨some 94, some (89, true), .bin .eql (.s 92) (.s 93), .none⟩,
      ⟨some 95, none, .pick (.s 89) (.s 94) (.c (.d (.bool false))), .none⟩,
      ⟨some 96, none, .mv (.s 95), .none⟩,
      ⟨some 97, some (96, true), .ld (.s 14) 2 true, .none⟩,
      ⟨some 98, some (96, true), .ld (.s 16) 2 true, .none⟩,
      ⟨some 99, some (96, true), .eqs false [1, 1] (.s 97) (.s 98), .none⟩,
      ⟨some 100, none, .pick (.s 96) (.s 99) (.c (.d (.bool false))), .none⟩,
      ⟨some 101, none, .mv (.s 100), .none⟩,
      ⟨some 102, some (101, true), .mv (.s 15), .none⟩,
      ⟨some 103, some (101, true), .fa (.s 16) 1, .none⟩,
      ⟨some 104, some (101, true), .ld (.s 103) 1 false, .none⟩,
      ⟨some 105, some (101, true), .bin .gtr (.s 104) (.c (.d (.int .i64 0))), .none⟩,
      ⟨some 106, some (101, true), .beq false (.s 102) (.s 105), .none⟩,
      ⟨some 107, none, .pick (.s 101) (.s 106) (.c (.d (.bool false))), .none⟩,
      ⟨some 108, none, .mv (.s 107), .none⟩,
      ⟨some 109, some (108, true), .mv (.s 0), .none⟩,
      ⟨some 110, some (108, true), .mv (.s 3), .none⟩,
      ⟨some 111, some (108, true), .call 28 [.s 109, .s 110] 2, .none⟩,
      ⟨some 112, some (108, true), .mv (.s 0), .none⟩,
      ⟨some 113, some (108, true), .mv (.s 3), .none⟩,
      ⟨some 114, some (108, true), .call 29 [.s 112, .s 113] 2, .none⟩,
      ⟨some 115, some (108, true), .beq false (.s 111) (.s 114), .none⟩,
      ⟨some 116, none, .pick (.s 108) (.s 115) (.c (.d (.bool false))), .none⟩,
      ⟨some 117, none, .mv (.s 116), .none⟩,
      ⟨some 118, some (117, true), .mv (.s 0), .none⟩,
      ⟨some 119, some (117, true), .call 30 [.s 118] 2, .none⟩,
      ⟨some 120, some (117, true), .mv (.s 10), .none⟩,
      ⟨some 121, some (117, true), .beq false (.s 119) (.s 120), .none⟩,
      ⟨some 122, none, .pick (.s 117) (.s 121) (.c (.d (.bool false))), .none⟩,
      ⟨some 8, none, .mv (.s 122), .none⟩]
     [[], [0], [], [2, 1], [1, 3], [4, 3], [5], [6, 5, 5], [5], [7, 8, 5], [5, 9], [10, 7], [11], [12, 11, 11], [13, 11], [11], [14, 15, 11], [11, 16], [17, 13], [18], [18], [19, 20, 18], [18, 21], [22, 18], [23], [23], [25, 23], [26, 23], [24, 27, 23], [23, 28], [29, 23], [30], [30], [31, 32, 30, 30], [30], [30], [34, 35, 33, 30], [33, 36, 30], [30, 37], [38, 36], [39], [40, 39, 39], [39], [41, 42, 39], [39, 43], [44, 41, 0, 1, 2, 3, 4, 5, 6, 7, 8, 9, 10, 11, 12, 13, 14, 15, 16, 17, 18, 19, 20, 21, 22, 23, 24, 25, 26, 27, 28, 29, 30, 31, 32, 33, 34, 35, 36, 37, 38, 39, 40, 41, 42, 43, 44]])
  (.ret none))))))))))))
def ir6 : F := { n := 123, res := [.tmp 8], body := bd6 }
@[go_sem] theorem n6 : ir6.n = 123 := rfl
@[go_sem] theorem r6 : ir6.res = [.tmp 8] := rfl
@[go_sem] theorem b6 : ir6.body = bd6 := rfl
/-- spence/spencelaw06.awake -/
def bd18 : C :=
  (.seq (.reg [⟨some 0, none, .mv (.c (.d (.bool false))), .none⟩])
  (.seq (.reg [⟨some 2, none, .build [.int .i64 0, .int .i64 0, .int .i64 0] [(0, (1, .c (.d (.int .i64 3)))), (1, (1, .c (.d (.int .i64 500))))], .none⟩,
      ⟨some 3, none, .bsl 96 3 1 [.int .i64 0, .int .i64 0, .int .i64 0] [(0, (3, .s 2))], .none⟩,
      ⟨some 4, none, .call 19 [.s 3, .c (.d (.int .i64 100))] 0, .none⟩,
      ⟨some 1, none, .mv (.s 4), .none⟩])
  (.seq (.reg [⟨some 5, none, .mv (.s 1), .none⟩,
      ⟨some 6, none, .len (.s 5), .none⟩,
      ⟨some 7, none, .bin .eql (.s 6) (.c (.d (.int .i64 1))), .none⟩,
      ⟨some 8, none, .mv (.s 7), .none⟩,
      ⟨some 9, some (8, true), .mv (.s 1), .none⟩,
      ⟨some 10, some (8, true), .is (.s 9) (.c (.d (.int .i64 0))) 2, .none⟩,
      ⟨some 11, some (8, true), .ld (.s 10) 2 true, .none⟩,
      ⟨some 12, some (8, true), .build [.int .i64 0, .int .i64 0] [(1, (1, .c (.d (.int .i64 100))))], .none⟩,
      ⟨some 13, some (8, true), .eqs false [1, 1] (.s 11) (.s 12), .none⟩,
      ⟨some 14, none, .pick (.s 8) (.s 13) (.c (.d (.bool false))), .none⟩,
      ⟨some 0, none, .mv (.s 14), .none⟩])
  (.ret none))))
def ir18 : F := { n := 15, res := [.tmp 0], body := bd18 }
@[go_sem] theorem n18 : ir18.n = 15 := rfl
@[go_sem] theorem r18 : ir18.res = [.tmp 0] := rfl
@[go_sem] theorem b18 : ir18.body = bd18 := rfl
def lb19_0 : C :=
  (.seq (.reg [⟨some 15, none, .bin .lss (.s 14) (.s 13), .none⟩])
  (.seq (.cond (.s 15)
    .skip
    (.exit 0 (some [5])))
  (.seq (.block 1 (.seq (.reg [⟨some 16, none, .is (.s 12) (.s 14) 3, .none⟩,
        ⟨some 17, none, .ld (.s 16) 3 true, .none⟩,
        ⟨some 7, none, .alloc 96 [.int .i64 0, .int .i64 0, .int .i64 0], .none⟩,
        ⟨none, none, .st (.s 7) (.s 17) 3, .none⟩])
    (.seq (.seq (.reg [⟨some 18, none, .ld (.s 7) 3 true, .none⟩,
         ⟨some 19, none, .call 49 [.s 18] 2, .none⟩,
         ⟨some 20, none, .un .not (.s 19), .none⟩])
     (.cond (.s 20)
      (.exit 1 none)
      .skip))
    (.seq (.reg [⟨some 21, none, .ld (.s 7) 3 true, .none⟩,
        ⟨some 22, none, .mv (.s 1), .none⟩,
        ⟨some 23, none, .call 50 [.s 21, .s 22] 2, .none⟩,
        ⟨some 8, none, .alloc 38 [.int .i64 0, .int .i64 0], .none⟩,
        ⟨none, none, .st (.s 8) (.s 23) 2, .none⟩])
    (.seq (.reg [⟨some 24, none, .ld (.s 8) 2 true, .none⟩,
        ⟨some 25, none, .call 25 [.s 24] 2, .none⟩])
    (.cond (.s 25)
     (.reg [⟨some 26, none, .mv (.s 5), .none⟩,
        ⟨some 27, none, .ld (.s 8) 2 true, .none⟩,
        ⟨some 28, none, .bsl 38 2 1 [.int .i64 0, .int .i64 0] [(0, (2, .s 27))], .none⟩,
        ⟨some 29, none, .app 38 2 16 (.s 26) (.s 28), .none⟩,
        ⟨some 5, none, .mv (.s 29), .none⟩])
     .skip))))))
  (.reg [⟨some 30, none, .bin .add (.s 14) (.c (.d (.int .i64 1))), .none⟩,
     ⟨some 14, none, .mv (.s 30), .none⟩]))))
def lp19_0 : C := lb19_0
theorem u19_0 (c : Ev.Callee) (l : Ev.Looper) (s : St) : evC c l lp19_0 s = evC c l lb19_0 s := rfl
abbrev st19_0 (m : Nat) (s1 s5 s12 s13 s14 : AV) (h : Heap) : St := ⟨m, [.unk, s1, .unk, .unk, .unk, s5, .unk, .unk, .unk, .unk, .unk, .unk, s12, s13, s14, .unk, .unk, .unk, .unk, .unk, .unk, .unk, .unk, .unk, .unk, .unk, .unk, .unk, .unk, .unk, .unk, .unk], h⟩
@[go_sem] theorem ks19_0 (v0 v1 v2 v3 v4 v5 v6 v7 v8 v9 v10 v11 v12 v13 v14 v15 v16 v17 v18 v19 v20 v21 v22 v23 v24 v25 v26 v27 v28 v29 v30 v31 : AV) : keepS [1, 5, 12, 13, 14] [v0, v1, v2, v3, v4, v5, v6, v7, v8, v9, v10, v11, v12, v13, v14, v15, v16, v17, v18, v19, v20, v21, v22, v23, v24, v25, v26, v27, v28, v29, v30, v31] 0 = [.unk, v1, .unk, .unk, .unk, v5, .unk, .unk, .unk, .unk, .unk, .unk, v12, v13, v14, .unk, .unk, .unk, .unk, .unk, .unk, .unk, .unk, .unk, .unk, .unk, .unk, .unk, .unk, .unk, .unk, .unk] := rfl
@[go_sem] theorem ks19_1 (v0 v1 v2 v3 v4 v5 v6 v7 v8 v9 v10 v11 v12 v13 v14 v15 v16 v17 v18 v19 v20 v21 v22 v23 v24 v25 v26 v27 v28 v29 v30 v31 : AV) : keepS [5] [v0, v1, v2, v3, v4, v5, v6, v7, v8, v9, v10, v11, v12, v13, v14, v15, v16, v17, v18, v19, v20, v21, v22, v23, v24, v25, v26, v27, v28, v29, v30, v31] 0 = [.unk, .unk, .unk, .unk, .unk, v5, .unk, .unk, .unk, .unk, .unk, .unk, .unk, .unk, .unk, .unk, .unk, .unk, .unk, .unk, .unk, .unk, .unk, .unk, .unk, .unk, .unk, .unk, .unk, .unk, .unk, .unk] := rfl
/-- spence/span.Resolve -/
def bd19 : C :=
  (.seq (.reg [⟨some 4, none, .mv (.c (.d .nils)), .one 2 true⟩])
  (.seq (.seq (.reg [⟨some 9, none, .mv (.s 1), .none⟩,
       ⟨some 10, none, .call 48 [.s 9, .c (.d (.int .i64 1)), .c (.d (.int .i64 4611686018427387903))] 2, .none⟩,
       ⟨some 11, none, .un .not (.s 10), .none⟩])
   (.cond (.s 11)
    (.seq (.reg [⟨some 4, none, .mv (.c (.d .nils)), .one 2 true⟩])
    (.ret none))
    .skip))
  (.seq (.reg [⟨some 5, none, .mv (.c (.d .nils)), .one 2 true⟩])
  (.seq (.seq (.reg [⟨some 12, none, .mv (.s 0), .none⟩,
       ⟨some 13, none, .len (.s 12), .none⟩,
       ⟨some 14, none, .mv (.c (.d (.int .i64 0))), .none⟩])
   (.block 0 (.loop [1, 5, 12, 13, 14] lp19_0)))
  (.seq (.reg [⟨some 31, none, .mv (.s 5), .none⟩,
      ⟨some 4, none, .mv (.s 31), .none⟩])
  (.ret none))))))
def ir19 : F := { n := 32, res := [.tmp 4], body := bd19 }
@[go_sem] theorem n19 : ir19.n = 32 := rfl
@[go_sem] theorem r19 : ir19.res = [.tmp 4] := rfl
@[go_sem] theorem b19 : ir19.body = bd19 := rfl
/-- spence/spenceref04.Right -/
def bd22 : C :=
  (.seq (.reg [⟨some 1, none, .box 38 (.s 0), .none⟩,
      ⟨some 2, none, .mv (.c (.d (.bool false))), .none⟩])
  (.seq (.reg [⟨some 3, none, .fa (.s 1) 0, .none⟩,
      ⟨some 4, none, .ld (.s 3) 1 false, .none⟩,
      ⟨some 5, none, .bin .geq (.s 4) (.c (.d (.int .i64 0))), .none⟩,
      ⟨some 6, none, .mv (.s 5), .none⟩,
      ⟨some 7, some (6, true), .fa (.s 1) 1, .none⟩,
      ⟨some 8, some (6, true), .ld (.s 7) 1 false, .none⟩,
      ⟨some 9, some (6, true), .fa (.s 1) 0, .none⟩,
      ⟨some 10, some (6, true), .ld (.s 9) 1 false, .none⟩,
      ⟨some 11, some (6, true), .bin .gtr (.s 8) (.s 10), .none⟩,
      ⟨some 12, none, .pick (.s 6) (.s 11) (.c (.d (.bool false))), .none⟩,
      ⟨some 13, none, .mv (.s 12), .none⟩,
      ⟨some 14, some (13, true), .fa (.s 1) 1, .none⟩,
      ⟨some 15, some (13, true), .ld (.s 14) 1 false, .none⟩,
      ⟨some 16, some (13, true), .bin .leq (.s 15) (.c (.d (.int .i64 4611686018427387903))), .none⟩,
      ⟨some 17, none, .pick (.s 13) (.s 16) (.c (.d (.bool false))), .none⟩,
      ⟨some 2, none, .mv (.s 17), .none⟩])
  (.ret none)))
def ir22 : F := { n := 18, res := [.tmp 2], body := bd22 }
@[go_sem] theorem n22 : ir22.n = 18 := rfl
@[go_sem] theorem r22 : ir22.res = [.tmp 2] := rfl
@[go_sem] theorem b22 : ir22.body = bd22 := rfl
/-- spence/span.Meet -/
def bd23 : C :=
  (.seq (.reg [⟨some 2, none, .box 38 (.s 0), .none⟩,
      ⟨some 3, none, .box 38 (.s 1), .none⟩,
      ⟨some 4, none, .alloc 38 [.int .i64 0, .int .i64 0], .none⟩,
      ⟨some 5, none, .mv (.c (.d (.bool false))), .none⟩])
  (.seq (.reg [⟨some 7, none, .fa (.s 2) 0, .none⟩,
      ⟨some 8, none, .ld (.s 7) 1 false, .none⟩,
      ⟨some 9, none, .fa (.s 3) 0, .none⟩,
      ⟨some 10, none, .ld (.s 9) 1 false, .none⟩,
      ⟨some 11, none, .mx (.s 8) (.s 10), .none⟩,
      ⟨some 12, none, .fa (.s 2) 1, .none⟩,
      ⟨some 13, none, .ld (.s 12) 1 false, .none⟩,
      ⟨some 14, none, .fa (.s 3) 1, .none⟩,
      ⟨some 15, none, .ld (.s 14) 1 false, .none⟩,
      ⟨some 16, none, .mn (.s 13) (.s 15), .none⟩,
      ⟨some 17, none, .build [.int .i64 0, .int .i64 0] [(0, (1, .s 11)), (1, (1, .s 16))], .none⟩,
      ⟨some 6, none, .alloc 38 [.int .i64 0, .int .i64 0], .none⟩,
      ⟨none, none, .st (.s 6) (.s 17) 2, .none⟩])
  (.seq (.seq (.reg [⟨some 18, none, .ld (.s 2) 2 true, .none⟩,
       ⟨some 19, none, .call 25 [.s 18] 2, .none⟩,
       ⟨some 20, none, .un .not (.s 19), .none⟩,
       ⟨some 21, none, .mv (.s 20), .none⟩,
       ⟨some 22, some (21, false), .ld (.s 3) 2 true, .none⟩,
       ⟨some 23, some (21, false), .call 25 [.s 22] 2, .none⟩,
       ⟨some 24, some (21, false), .un .not (.s 23), .none⟩,
       ⟨some 25, none, .pick (.s 21) (.c (.d (.bool true))) (.s 24), .none⟩,
       ⟨some 26, none, .mv (.s 25), .none⟩,
       ⟨some 27, some (26, false), .ld (.s 6) 2 true, .none⟩,
       ⟨some 28, some (26, false), .call 25 [.s 27] 2, .none⟩,
       ⟨some 29, some (26, false), .un .not (.s 28), .none⟩,
       ⟨some 30, none, .pick (.s 26) (.c (.d (.bool true))) (.s 29), .none⟩])
   (.cond (.s 30)
    (.seq (.reg [⟨some 31, none, .build [.int .i64 0, .int .i64 0] [], .none⟩,
        ⟨none, none, .st (.s 4) (.s 31) 2, .none⟩,
        ⟨some 5, none, .mv (.c (.d (.bool false))), .none⟩])
    (.ret none))
    .skip))
  (.seq (.reg [⟨some 32, none, .ld (.s 6) 2 true, .none⟩,
      ⟨none, none, .st (.s 4) (.s 32) 2, .none⟩,
      ⟨some 5, none, .mv (.c (.d (.bool true))), .none⟩])
  (.ret none)))))
def ir23 : F := { n := 33, res := [.cell 4 2 true, .tmp 5], body := bd23 }
@[go_sem] theorem n23 : ir23.n = 33 := rfl
@[go_sem] theorem r23 : ir23.res = [.cell 4 2 true, .tmp 5] := rfl
@[go_sem] theorem b23 : ir23.body = bd23 := rfl
/-- spence/spenceref04.Meet -/
def bd24 : C :=
  (.seq (.reg [⟨some 2, none, .box 38 (.s 0), .none⟩,
      ⟨some 3, none, .box 38 (.s 1), .none⟩,
      ⟨some 4, none, .alloc 38 [.int .i64 0, .int .i64 0], .none⟩])
  (.seq (.seq (.reg [⟨some 5, none, .ld (.s 2) 2 true, .none⟩,
       ⟨some 6, none, .call 22 [.s 5] 2, .none⟩,
       ⟨some 7, none, .un .not (.s 6), .none⟩,
       ⟨some 8, none, .mv (.s 7), .none⟩,
       ⟨some 9, some (8, false), .ld (.s 3) 2 true, .none⟩,
       ⟨some 10, some (8, false), .call 22 [.s 9] 2, .none⟩,
       ⟨some 11, some (8, false), .un .not (.s 10), .none⟩,
       ⟨some 12, none, .pick (.s 8) (.c (.d (.bool true))) (.s 11), .none⟩])
   (.cond (.s 12)
    (.seq (.reg [⟨some 13, none, .build [.int .i64 0, .int .i64 0] [], .none⟩,
        ⟨none, none, .st (.s 4) (.s 13) 2, .none⟩])
    (.ret none))
    .skip))
  (.seq (.seq (.reg [⟨some 14, none, .fa (.s 3) 0, .none⟩,
       ⟨some 15, none, .ld (.s 14) 1 false, .none⟩,
       ⟨some 16, none, .fa (.s 2) 0, .none⟩,
       ⟨some 17, none, .ld (.s 16) 1 false, .none⟩,
       ⟨some 18, none, .bin .gtr (.s 15) (.s 17), .none⟩])
   (.cond (.s 18)
    (.reg [⟨some 19, none, .fa (.s 3) 0, .none⟩,
       ⟨some 20, none, .ld (.s 19) 1 false, .none⟩,
       ⟨some 21, none, .fa (.s 2) 0, .none⟩,
       ⟨none, none, .st (.s 21) (.s 20) 1, .none⟩])
    .skip))
  (.seq (.seq (.reg [⟨some 22, none, .fa (.s 3) 1, .none⟩,
       ⟨some 23, none, .ld (.s 22) 1 false, .none⟩,
       ⟨some 24, none, .fa (.s 2) 1, .none⟩,
       ⟨some 25, none, .ld (.s 24) 1 false, .none⟩,
       ⟨some 26, none, .bin .lss (.s 23) (.s 25), .none⟩])
   (.cond (.s 26)
    (.reg [⟨some 27, none, .fa (.s 3) 1, .none⟩,
       ⟨some 28, none, .ld (.s 27) 1 false, .none⟩,
       ⟨some 29, none, .fa (.s 2) 1, .none⟩,
       ⟨none, none, .st (.s 29) (.s 28) 1, .none⟩])
    .skip))
  (.seq (.seq (.reg [⟨some 30, none, .fa (.s 2) 0, .none⟩,
       ⟨some 31, none, .ld (.s 30) 1 false, .none⟩,
       ⟨some 32, none, .fa (.s 2) 1, .none⟩,
       ⟨some 33, none, .ld (.s 32) 1 false, .none⟩,
       ⟨some 34, none, .bin .geq (.s 31) (.s 33), .none⟩])
   (.cond (.s 34)
    (.seq (.reg [⟨some 35, none, .build [.int .i64 0, .int .i64 0] [], .none⟩,
        ⟨none, none, .st (.s 4) (.s 35) 2, .none⟩])
    (.ret none))
    .skip))
  (.seq (.reg [⟨some 36, none, .ld (.s 2) 2 true, .none⟩,
      ⟨none, none, .st (.s 4) (.s 36) 2, .none⟩])
  (.ret none)))))))
def ir24 : F := { n := 37, res := [.cell 4 2 true], body := bd24 }
@[go_sem] theorem n24 : ir24.n = 37 := rfl
@[go_sem] theorem r24 : ir24.res = [.cell 4 2 true] := rfl
@[go_sem] theorem b24 : ir24.body = bd24 := rfl
/-- spence/span.Right -/
def bd25 : C :=
  (.seq (.reg [⟨some 1, none, .box 38 (.s 0), .none⟩,
      ⟨some 2, none, .mv (.c (.d (.bool false))), .none⟩])
  (.seq (.reg [⟨some 3, none, .fa (.s 1) 0, .none⟩,
      ⟨some 4, none, .ld (.s 3) 1 false, .none⟩,
      ⟨some 5, none, .bin .geq (.s 4) (.c (.d (.int .i64 0))), .none⟩,
      ⟨some 6, none, .mv (.s 5), .none⟩,
      ⟨some 7, some (6, true), .fa (.s 1) 0, .none⟩,
      ⟨some 8, some (6, true), .ld (.s 7) 1 false, .none⟩,
      ⟨some 9, some (6, true), .fa (.s 1) 1, .none⟩,
      ⟨some 10, some (6, true), .ld (.s 9) 1 false, .none⟩,
      ⟨some 11, some (6, true), .bin .lss (.s 8) (.s 10), .none⟩,
      ⟨some 12, none, .pick (.s 6) (.s 11) (.c (.d (.bool false))), .none⟩,
      ⟨some 13, none, .mv (.s 12), .none⟩,
      ⟨some 14, some (13, true), .fa (.s 1) 1, .none⟩,
      ⟨some 15, some (13, true), .ld (.s 14) 1 false, .none⟩,
      ⟨some 16, some (13, true), .bin .leq (.s 15) (.c (.d (.int .i64 4611686018427387903))), .none⟩,
      ⟨some 17, none, .pick (.s 13) (.s 16) (.c (.d (.bool false))), .none⟩,
      ⟨some 2, none, .mv (.s 17), .none⟩])
  (.ret none)))
def ir25 : F := { n := 18, res := [.tmp 2], body := bd25 }
@[go_sem] theorem n25 : ir25.n = 18 := rfl
@[go_sem] theorem r25 : ir25.res = [.tmp 2] := rfl
@[go_sem] theorem b25 : ir25.body = bd25 := rfl
/-- spence/span.Len -/
def bd26 : C :=
  (.seq (.reg [⟨some 1, none, .box 38 (.s 0), .none⟩,
      ⟨some 2, none, .mv (.c (.d (.int .i64 0))), .none⟩])
  (.seq (.seq (.reg [⟨some 3, none, .ld (.s 1) 2 true, .none⟩,
       ⟨some 4, none, .call 25 [.s 3] 2, .none⟩,
       ⟨some 5, none, .un .not (.s 4), .none⟩])
   (.cond (.s 5)
    (.seq (.reg [⟨some 2, none, .mv (.c (.d (.int .i64 0))), .none⟩])
    (.ret none))
    .skip))
  (.seq (.reg [⟨some 6, none, .fa (.s 1) 1, .none⟩,
      ⟨some 7, none, .ld (.s 6) 1 false, .none⟩,
      ⟨some 8, none, .fa (.s 1) 0, .none⟩,
      ⟨some 9, none, .ld (.s 8) 1 false, .none⟩,
      ⟨some 10, none, .bin .sub (.s 7) (.s 9), .none⟩,
      ⟨some 2, none, .mv (.s 10), .none⟩])
  (.ret none))))
def ir26 : F := { n := 11, res := [.tmp 2], body := bd26 }
@[go_sem] theorem n26 : ir26.n = 11 := rfl
@[go_sem] theorem r26 : ir26.res = [.tmp 2] := rfl
@[go_sem] theorem b26 : ir26.body = bd26 := rfl
def lb27_0 : C :=
  (.seq (.reg [⟨some 11, none, .bin .lss (.s 10) (.s 9), .none⟩])
  (.seq (.cond (.s 11)
    .skip
    (.exit 0 (some [3])))
  (.seq (.block 1 (.seq (.reg [⟨some 12, none, .is (.s 8) (.s 10) 2, .none⟩,
        ⟨some 13, none, .ld (.s 12) 2 true, .none⟩,
        ⟨some 5, none, .alloc 38 [.int .i64 0, .int .i64 0], .none⟩,
        ⟨none, none, .st (.s 5) (.s 13) 2, .none⟩])
    (.seq (.reg [⟨some 15, none, .mv (.s 3), .none⟩,
        ⟨some 16, none, .ld (.s 5) 2 true, .none⟩,
        ⟨some 17, none, .call 26 [.s 16] 2, .none⟩,
        ⟨some 18, none, .call 52 [.s 15, .s 17] 2, .none⟩,
        ⟨some 14, none, .mv (.s 18), .none⟩,
        ⟨some 19, none, .ext (.s 14) 0, .none⟩,
        ⟨some 20, none, .ext (.s 14) 1, .none⟩,
        ⟨some 6, none, .mv (.s 19), .none⟩,
        ⟨some 7, none, .mv (.s 20), .none⟩])
    (.seq (.seq (.reg [⟨some 21, none, .mv (.s 7), .none⟩,
         ⟨some 22, none, .bin .neq (.s 21) (.c (.d (.int .i64 0))), .none⟩])
     (.cond (.s 22)
      (.seq (.reg [⟨some 2, none, .mv (.c (.d (.int .i64 4611686018427387903))), .none⟩])
      (.ret (some [2])))
      .skip))
    (.reg [⟨some 23, none, .mv (.s 6), .none⟩,
       ⟨some 3, none, .mv (.s 23), .none⟩])))))
  (.reg [⟨some 24, none, .bin .add (.s 10) (.c (.d (.int .i64 1))), .none⟩,
     ⟨some 10, none, .mv (.s 24), .none⟩]))))
def lp27_0 : C := lb27_0
theorem u27_0 (c : Ev.Callee) (l : Ev.Looper) (s : St) : evC c l lp27_0 s = evC c l lb27_0 s := rfl
abbrev st27_0 (m : Nat) (s3 s8 s9 s10 : AV) (h : Heap) : St := ⟨m, [.unk, .unk, .unk, s3, .unk, .unk, .unk, .unk, s8, s9, s10, .unk, .unk, .unk, .unk, .unk, .unk, .unk, .unk, .unk, .unk, .unk, .unk, .unk, .unk, .unk], h⟩
@[go_sem] theorem ks27_0 (v0 v1 v2 v3 v4 v5 v6 v7 v8 v9 v10 v11 v12 v13 v14 v15 v16 v17 v18 v19 v20 v21 v22 v23 v24 v25 : AV) : keepS [3, 8, 9, 10] [v0, v1, v2, v3, v4, v5, v6, v7, v8, v9, v10, v11, v12, v13, v14, v15, v16, v17, v18, v19, v20, v21, v22, v23, v24, v25] 0 = [.unk, .unk, .unk, v3, .unk, .unk, .unk, .unk, v8, v9, v10, .unk, .unk, .unk, .unk, .unk, .unk, .unk, .unk, .unk, .unk, .unk, .unk, .unk, .unk, .unk] := rfl
@[go_sem] theorem ks27_1 (v0 v1 v2 v3 v4 v5 v6 v7 v8 v9 v10 v11 v12 v13 v14 v15 v16 v17 v18 v19 v20 v21 v22 v23 v24 v25 : AV) : keepS [3] [v0, v1, v2, v3, v4, v5, v6, v7, v8, v9, v10, v11, v12, v13, v14, v15, v16, v17, v18, v19, v20, v21, v22, v23, v24, v25] 0 = [.unk, .unk, .unk, v3, .unk, .unk, .unk, .unk, .unk, .unk, .unk, .unk, .unk, .unk, .unk, .unk, .unk, .unk, .unk, .unk, .unk, .unk, .unk, .unk, .unk, .unk] := rfl
@[go_sem] theorem ks27_2 (v0 v1 v2 v3 v4 v5 v6 v7 v8 v9 v10 v11 v12 v13 v14 v15 v16 v17 v18 v19 v20 v21 v22 v23 v24 v25 : AV) : keepS [2] [v0, v1, v2, v3, v4, v5, v6, v7, v8, v9, v10, v11, v12, v13, v14, v15, v16, v17, v18, v19, v20, v21, v22, v23, v24, v25] 0 = [.unk, .unk, v2, .unk, .unk, .unk, .unk, .unk, .unk, .unk, .unk, .unk, .unk, .unk, .unk, .unk, .unk, .unk, .unk, .unk, .unk, .unk, .unk, .unk, .unk, .unk] := rfl
/-- spence/span.Total -/
def bd27 : C :=
  (.seq (.reg [⟨some 2, none, .mv (.c (.d (.int .i64 0))), .none⟩])
  (.seq (.reg [⟨some 3, none, .mv (.c (.d (.int .i64 0))), .none⟩])
  (.seq (.seq (.reg [⟨some 8, none, .mv (.s 0), .none⟩,
       ⟨some 9, none, .len (.s 8), .none⟩,
       ⟨some 10, none, .mv (.c (.d (.int .i64 0))), .none⟩])
   (.block 0 (.loop [3, 8, 9, 10] lp27_0)))
  (.seq (.reg [⟨some 25, none, .mv (.s 3), .none⟩,
      ⟨some 2, none, .mv (.s 25), .none⟩])
  (.ret none)))))
def ir27 : F := { n := 26, res := [.tmp 2], body := bd27 }
@[go_sem] theorem n27 : ir27.n = 26 := rfl
@[go_sem] theorem r27 : ir27.res = [.tmp 2] := rfl
@[go_sem] theorem b27 : ir27.body = bd27 := rfl
/-- spence/span.Has -/
def bd28 : C :=
  (.seq (.reg [⟨some 3, none, .box 3 (.s 1), .none⟩,
      ⟨some 4, none, .mv (.c (.d (.bool false))), .none⟩])
  (.seq (.reg [⟨some 5, none, .mv (.s 0), .none⟩,
      ⟨some 6, none, .fn (.func 54) [] [.s 3], .none⟩,
      ⟨some 7, none, .call 53 [.s 5, .s 6] 0, .none⟩,
      ⟨some 4, none, .mv (.s 7), .none⟩])
  (.ret none)))
def ir28 : F := { n := 8, res := [.tmp 4], body := bd28 }
@[go_sem] theorem n28 : ir28.n = 8 := rfl
@[go_sem] theorem r28 : ir28.res = [.tmp 4] := rfl
@[go_sem] theorem b28 : ir28.body = bd28 := rfl
def lb29_0 : C :=
  (.seq (.reg [⟨some 10, none, .bin .lss (.s 9) (.s 8), .none⟩])
  (.seq (.cond (.s 10)
    .skip
    (.exit 0 (some [])))
  (.seq (.block 1 (.seq (.reg [⟨some 11, none, .is (.s 7) (.s 9) 2, .none⟩,
        ⟨some 12, none, .ld (.s 11) 2 true, .none⟩,
        ⟨some 6, none, .alloc 38 [.int .i64 0, .int .i64 0], .none⟩,
        ⟨none, none, .st (.s 6) (.s 12) 2, .none⟩])
    (.seq (.reg [⟨some 13, none, .ld (.s 6) 2 true, .none⟩,
        ⟨some 14, none, .call 22 [.s 13] 2, .none⟩,
        ⟨some 15, none, .mv (.s 14), .none⟩,
        ⟨some 16, some (15, true), .fa (.s 6) 0, .none⟩,
        ⟨some 17, some (15, true), .ld (.s 16) 1 false, .none⟩,
        ⟨some 18, some (15, true), .mv (.s 1), .none⟩,
        ⟨some 19, some (15, true), .bin .leq (.s 17) (.s 18), .none⟩,
        ⟨some 20, none, .pick (.s 15) (.s 19) (.c (.d (.bool false))), .none⟩,
        ⟨some 21, none, .mv (.s 20), .none⟩,
        ⟨some 22, some (21, true), .mv (.s 1), .none⟩,
        ⟨some 23, some (21, true), .fa (.s 6) 1, .none⟩,
        ⟨some 24, some (21, true), .ld (.s 23) 1 false, .none⟩,
        ⟨some 25, some (21, true), .bin .lss (.s 22) (.s 24), .none⟩,
        ⟨some 26, none, .pick (.s 21) (.s 25) (.c (.d (.bool false))), .none⟩])
    (.cond (.s 26)
     (.seq (.reg [⟨some 4, none, .mv (.c (.d (.bool true))), .none⟩])
     (.ret (some [4])))
     .skip))))
  (.reg [⟨some 27, none, .bin .add (.s 9) (.c (.d (.int .i64 1))), .none⟩,
     ⟨some 9, none, .mv (.s 27), .none⟩]))))
def lp29_0 : C := lb29_0
theorem u29_0 (c : Ev.Callee) (l : Ev.Looper) (s : St) : evC c l lp29_0 s = evC c l lb29_0 s := rfl
abbrev st29_0 (m : Nat) (s1 s7 s8 s9 : AV) (h : Heap) : St := ⟨m, [.unk, s1, .unk, .unk, .unk, .unk, .unk, s7, s8, s9, .unk, .unk, .unk, .unk, .unk, .unk, .unk, .unk, .unk, .unk, .unk, .unk, .unk, .unk, .unk, .unk, .unk, .unk], h⟩
@[go_sem] theorem ks29_0 (v0 v1 v2 v3 v4 v5 v6 v7 v8 v9 v10 v11 v12 v13 v14 v15 v16 v17 v18 v19 v20 v21 v22 v23 v24 v25 v26 v27 : AV) : keepS [1, 7, 8, 9] [v0, v1, v2, v3, v4, v5, v6, v7, v8, v9, v10, v11, v12, v13, v14, v15, v16, v17, v18, v19, v20, v21, v22, v23, v24, v25, v26, v27] 0 = [.unk, v1, .unk, .unk, .unk, .unk, .unk, v7, v8, v9, .unk, .unk, .unk, .unk, .unk, .unk, .unk, .unk, .unk, .unk, .unk, .unk, .unk, .unk, .unk, .unk, .unk, .unk] := rfl
@[go_sem] theorem ks29_1 (v0 v1 v2 v3 v4 v5 v6 v7 v8 v9 v10 v11 v12 v13 v14 v15 v16 v17 v18 v19 v20 v21 v22 v23 v24 v25 v26 v27 : AV) : keepS [] [v0, v1, v2, v3, v4, v5, v6, v7, v8, v9, v10, v11, v12, v13, v14, v15, v16, v17, v18, v19, v20, v21, v22, v23, v24, v25, v26, v27] 0 = [.unk, .unk, .unk, .unk, .unk, .unk, .unk, .unk, .unk, .unk, .unk, .unk, .unk, .unk, .unk, .unk, .unk, .unk, .unk, .unk, .unk, .unk, .unk, .unk, .unk, .unk, .unk, .unk] := rfl
@[go_sem] theorem ks29_2 (v0 v1 v2 v3 v4 v5 v6 v7 v8 v9 v10 v11 v12 v13 v14 v15 v16 v17 v18 v19 v20 v21 v22 v23 v24 v25 v26 v27 : AV) : keepS [4] [v0, v1, v2, v3, v4, v5, v6, v7, v8, v9, v10, v11, v12, v13, v14, v15, v16, v17, v18, v19, v20, v21, v22, v23, v24, v25, v26, v27] 0 = [.unk, .unk, .unk, .unk, v4, .unk, .unk, .unk, .unk, .unk, .unk, .unk, .unk, .unk, .unk, .unk, .unk, .unk, .unk, .unk, .unk, .unk, .unk, .unk, .unk, .unk, .unk, .unk] := rfl
/-- spence/spenceref04.Has -/
def bd29 : C :=
  (.seq (.reg [⟨some 4, none, .mv (.c (.d (.bool false))), .none⟩])
  (.seq (.seq (.reg [⟨some 7, none, .mv (.s 0), .none⟩,
       ⟨some 8, none, .len (.s 7), .none⟩,
       ⟨some 9, none, .mv (.c (.d (.int .i64 0))), .none⟩])
   (.block 0 (.loop [1, 7, 8, 9] lp29_0)))
  (.seq (.reg [⟨some 4, none, .mv (.c (.d (.bool false))), .none⟩])
  (.ret none))))
def ir29 : F := { n := 28, res := [.tmp 4], body := bd29 }
@[go_sem] theorem n29 : ir29.n = 28 := rfl
@[go_sem] theorem r29 : ir29.res = [.tmp 4] := rfl
@[go_sem] theorem b29 : ir29.body = bd29 := rfl
def lb30_0 : C :=
  (.seq (.reg [⟨some 8, none, .bin .lss (.s 7) (.s 6), .none⟩])
  (.seq (.cond (.s 8)
    .skip
    (.exit 0 (some [])))
  (.seq (.block 1 (.seq (.reg [⟨some 9, none, .mv (.s 7), .none⟩,
        ⟨some 10, none, .is (.s 5) (.s 7) 2, .none⟩,
        ⟨some 11, none, .ld (.s 10) 2 true, .none⟩,
        ⟨some 4, none, .alloc 38 [.int .i64 0, .int .i64 0], .none⟩,
        ⟨some 3, none, .mv (.s 9), .none⟩,
        ⟨none, none, .st (.s 4) (.s 11) 2, .none⟩])
    (.seq (.drw [⟨some 12, none, .ld (.s 4) 2 true, .none⟩,
        ⟨some 13, none, .call 25 [.s 12] 2, .none⟩,
        ⟨some 14, none, .un .not (.s 13), .none⟩,
        ⟨some 15, none, .mv (.s 14), .none⟩,
        ⟨some 16, some (15, false), .mv (.s 3), .none⟩,
        ⟨some 17, some (15, false), .bin .gtr (.s 16) (.c (.d (.int .i64 0))), .none⟩,
        ⟨some 18, some (15, false), .mv (.s 17), .none⟩,
        ⟨some 19, some (18, true), .mv (.s 0), .none⟩,
        ⟨some 20, some (18, true), .mv (.s 3), .none⟩,
        ⟨some 21, some (18, true), .bin .sub (.s 20) (.c (.d (.int .i64 1))), .none⟩,
        ⟨some 22, some (18, true), .is (.s 19) (.s 21) 2, .none⟩,
        ⟨some 23, some (18, true), .fa (.s 22) 1, .none⟩,
        ⟨some 24, some (18, true), .ld (.s 23) 1 false, .none⟩,
        ⟨some 25, some (18, true), .fa (.s 4) 0, .none⟩,
        ⟨some 26, some (18, true), .ld (.s 25) 1 false, .none⟩,
        ⟨some 27, some (18, true), .bin .geq (.s 24) (.s 26), .none⟩,
        ⟨some 28, some (15, false), .pick (.s 18) (.s 27) (.c (.d (.bool false))), .none⟩,
        ⟨some 29, none, .pick (.s 15) (.c (.d (.bool true))) (.s 28), .none⟩]
       [[], [0], [1], [2, 1], [3], [4, 3], [5, 3, 3], [6], [6], [8, 6], [7, 9, 6], [10, 6], [11, 6], [6], [13, 6], [12, 14, 6], [6, 15, 3], [3, 16]])
    (.cond (.s 29)
     (.seq (.reg [⟨some 2, none, .mv (.c (.d (.bool false))), .none⟩])
     (.ret (some [2])))
     .skip))))
  (.reg [⟨some 30, none, .bin .add (.s 7) (.c (.d (.int .i64 1))), .none⟩,
     ⟨some 7, none, .mv (.s 30), .none⟩]))))
def lp30_0 : C := lb30_0
theorem u30_0 (c : Ev.Callee) (l : Ev.Looper) (s : St) : evC c l lp30_0 s = evC c l lb30_0 s := rfl
abbrev st30_0 (m : Nat) (s0 s5 s6 s7 : AV) (h : Heap) : St := ⟨m, [s0, .unk, .unk, .unk, .unk, s5, s6, s7, .unk, .unk, .unk, .unk, .unk, .unk, .unk, .unk, .unk, .unk, .unk, .unk, .unk, .unk, .unk, .unk, .unk, .unk, .unk, .unk, .unk, .unk, .unk], h⟩
@[go_sem] theorem ks30_0 (v0 v1 v2 v3 v4 v5 v6 v7 v8 v9 v10 v11 v12 v13 v14 v15 v16 v17 v18 v19 v20 v21 v22 v23 v24 v25 v26 v27 v28 v29 v30 : AV) : keepS [0, 5, 6, 7] [v0, v1, v2, v3, v4, v5, v6, v7, v8, v9, v10, v11, v12, v13, v14, v15, v16, v17, v18, v19, v20, v21, v22, v23, v24, v25, v26, v27, v28, v29, v30] 0 = [v0, .unk, .unk, .unk, .unk, v5, v6, v7, .unk, .unk, .unk, .unk, .unk, .unk, .unk, .unk, .unk, .unk, .unk, .unk, .unk, .unk, .unk, .unk, .unk, .unk, .unk, .unk, .unk, .unk, .unk] := rfl
@[go_sem] theorem ks30_1 (v0 v1 v2 v3 v4 v5 v6 v7 v8 v9 v10 v11 v12 v13 v14 v15 v16 v17 v18 v19 v20 v21 v22 v23 v24 v25 v26 v27 v28 v29 v30 : AV) : keepS [] [v0, v1, v2, v3, v4, v5, v6, v7, v8, v9, v10, v11, v12, v13, v14, v15, v16, v17, v18, v19, v20, v21, v22, v23, v24, v25, v26, v27, v28, v29, v30] 0 = [.unk, .unk, .unk, .unk, .unk, .unk, .unk, .unk, .unk, .unk, .unk, .unk, .unk, .unk, .unk, .unk, .unk, .unk, .unk, .unk, .unk, .unk, .unk, .unk, .unk, .unk, .unk, .unk, .unk, .unk, .unk] := rfl
@[go_sem] theorem ks30_2 (v0 v1 v2 v3 v4 v5 v6 v7 v8 v9 v10 v11 v12 v13 v14 v15 v16 v17 v18 v19 v20 v21 v22 v23 v24 v25 v26 v27 v28 v29 v30 : AV) : keepS [2] [v0, v1, v2, v3, v4, v5, v6, v7, v8, v9, v10, v11, v12, v13, v14, v15, v16, v17, v18, v19, v20, v21, v22, v23, v24, v25, v26, v27, v28, v29, v30] 0 = [.unk, .unk, v2, .unk, .unk, .unk, .unk, .unk, .unk, .unk, .unk, .unk, .unk, .unk, .unk, .unk, .unk, .unk, .unk, .unk, .unk, .unk, .unk, .unk, .unk, .unk, .unk, .unk, .unk, .unk, .unk] := rfl
/-- spence/span.Apart -/
def bd30 : C :=
  (.seq (.reg [⟨some 2, none, .mv (.c (.d (.bool false))), .none⟩])
  (.seq (.seq (.reg [⟨some 5, none, .mv (.s 0), .none⟩,
       ⟨some 6, none, .len (.s 5), .none⟩,
       ⟨some 7, none, .mv (.c (.d (.int .i64 0))), .none⟩])
   (.block 0 (.loop [0, 5, 6, 7] lp30_0)))
  (.seq (.reg [⟨some 2, none, .mv (.c (.d (.bool true))), .none⟩])
  (.ret none))))
def ir30 : F := { n := 31, res := [.tmp 2], body := bd30 }
@[go_sem] theorem n30 : ir30.n = 31 := rfl
@[go_sem] theorem r30 : ir30.res = [.tmp 2] := rfl
@[go_sem] theorem b30 : ir30.body = bd30 := rfl
/-- spence/nums.Fits -/
def bd48 : C :=
  (.seq (.reg [⟨some 6, none, .mv (.c (.d (.bool false))), .none⟩])
  (.seq (.reg [⟨some 7, none, .mv (.s 0), .none⟩,
      ⟨some 8, none, .mv (.s 1), .none⟩,
      ⟨some 9, none, .bin .geq (.s 7) (.s 8), .none⟩,
      ⟨some 10, none, .mv (.s 9), .none⟩,
      ⟨some 11, some (10, true), .mv (.s 0), .none⟩,
      ⟨some 12, some (10, true), .mv (.s 2), .none⟩,
      ⟨some 13, some (10, true), .bin .leq (.s 11) (.s 12), .none⟩,
      ⟨some 14, none, .pick (.s 10) (.s 13) (.c (.d (.bool false))), .none⟩,
      ⟨some 6, none, .mv (.s 14), .none⟩])
  (.ret none)))
def ir48 : F := { n := 15, res := [.tmp 6], body := bd48 }
@[go_sem] theorem n48 : ir48.n = 15 := rfl
@[go_sem] theorem r48 : ir48.res = [.tmp 6] := rfl
@[go_sem] theorem b48 : ir48.body = bd48 := rfl
/-- spence/spec.Right -/
def bd49 : C :=
  (.seq (.reg [⟨some 1, none, .box 96 (.s 0), .none⟩,
      ⟨some 2, none, .mv (.c (.d (.bool false))), .none⟩])
  (.seq (.seq (.reg [⟨some 3, none, .fa (.s 1) 0, .none⟩,
       ⟨some 4, none, .ld (.s 3) 1 false, .none⟩])
   (.block 0 (.seq (.block 3 (.block 2 (.seq (.block 1 (.seq (.seq (.seq (.reg [⟨some 6, none, .bin .eql (.s 4) (.c (.d (.int .i64 2))), .none⟩,
               ⟨some 5, none, .mv (.s 6), .none⟩])
           (.cond (.s 5)
            (.exit 1 none)
            .skip))
          (.seq (.seq (.reg [⟨some 8, none, .bin .eql (.s 4) (.c (.d (.int .i64 1))), .none⟩,
               ⟨some 7, none, .mv (.s 8), .none⟩])
           (.cond (.s 7)
            (.exit 2 none)
            .skip))
          (.seq (.reg [⟨some 10, none, .bin .eql (.s 4) (.c (.d (.int .i64 3))), .none⟩,
              ⟨some 9, none, .mv (.s 10), .none⟩])
          (.cond (.s 9)
           (.exit 3 none)
           .skip))))
         (.exit 0 none)))
       (.seq (.seq (.reg [⟨some 11, none, .fa (.s 1) 1, .none⟩,
            ⟨some 12, none, .ld (.s 11) 1 false, .none⟩,
            ⟨some 13, none, .bin .geq (.s 12) (.c (.d (.int .i64 0))), .none⟩,
            ⟨some 14, none, .mv (.s 13), .none⟩,
            ⟨some 15, some (14, true), .fa (.s 1) 2, .none⟩,
            ⟨some 16, some (14, true), .ld (.s 15) 1 false, .none⟩,
            ⟨some 17, some (14, true), .fa (.s 1) 1, .none⟩,
            ⟨some 18, some (14, true), .ld (.s 17) 1 false, .none⟩,
            ⟨some 19, some (14, true), .bin .geq (.s 16) (.s 18), .none⟩,
            ⟨some 20, none, .pick (.s 14) (.s 19) (.c (.d (.bool false))), .none⟩,
            ⟨some 21, none, .mv (.s 20), .none⟩,
            ⟨some 22, some (21, true), .fa (.s 1) 2, .none⟩,
            ⟨some 23, some (21, true), .ld (.s 22) 1 false, .none⟩,
            ⟨some 24, some (21, true), .bin .leq (.s 23) (.c (.d (.int .i64 4611686018427387903))), .none⟩,
            ⟨some 25, none, .pick (.s 21) (.s 24) (.c (.d (.bool false))), .none⟩,
            ⟨some 2, none, .mv (.s 25), .none⟩])
        (.ret none))
       (.exit 0 none)))))
    (.seq (.seq (.reg [⟨some 26, none, .fa (.s 1) 1, .none⟩,
         ⟨some 27, none, .ld (.s 26) 1 false, .none⟩,
         ⟨some 28, none, .call 48 [.s 27, .c (.d (.int .i64 0)), .c (.d (.int .i64 4611686018427387903))] 2, .none⟩,
         ⟨some 29, none, .mv (.s 28), .none⟩,
         ⟨some 30, some (29, true), .fa (.s 1) 2, .none⟩,
         ⟨some 31, some (29, true), .ld (.s 30) 1 false, .none⟩,
         ⟨some 32, some (29, true), .bin .eql (.s 31) (.c (.d (.int .i64 0))), .none⟩,
         ⟨some 33, none, .pick (.s 29) (.s 32) (.c (.d (.bool false))), .none⟩,
         ⟨some 2, none, .mv (.s 33), .none⟩])
     (.ret none))
    (.exit 0 none)))))
  (.seq (.reg [⟨some 2, none, .mv (.c (.d (.bool false))), .none⟩])
  (.ret none))))
def ir49 : F := { n := 34, res := [.tmp 2], body := bd49 }
@[go_sem] theorem n49 : ir49.n = 34 := rfl
@[go_sem] theorem r49 : ir49.res = [.tmp 2] := rfl
@[go_sem] theorem b49 : ir49.body = bd49 := rfl
/-- spence/span.one -/
def bd50 : C :=
  (.seq (.reg [⟨some 2, none, .box 96 (.s 0), .none⟩,
      ⟨some 4, none, .alloc 38 [.int .i64 0, .int .i64 0], .none⟩])
  (.seq (.seq (.reg [⟨some 5, none, .fa (.s 2) 0, .none⟩,
       ⟨some 6, none, .ld (.s 5) 1 false, .none⟩])
   (.block 0 (.seq (.reg [⟨some 8, none, .bin .eql (.s 6) (.c (.d (.int .i64 1))), .none⟩,
        ⟨some 7, none, .mv (.s 8), .none⟩])
    (.cond (.s 7)
     (.seq (.reg [⟨some 9, none, .fa (.s 2) 1, .none⟩,
         ⟨some 10, none, .ld (.s 9) 1 false, .none⟩,
         ⟨some 11, none, .mv (.s 1), .none⟩,
         ⟨some 12, none, .build [.int .i64 0, .int .i64 0] [(0, (1, .s 10)), (1, (1, .s 11))], .none⟩,
         ⟨none, none, .st (.s 4) (.s 12) 2, .none⟩])
     (.ret none))
     (.seq (.reg [⟨some 14, none, .bin .eql (.s 6) (.c (.d (.int .i64 2))), .none⟩,
         ⟨some 13, none, .mv (.s 14), .none⟩])
     (.cond (.s 13)
      (.seq (.reg [⟨some 15, none, .fa (.s 2) 1, .none⟩,
          ⟨some 16, none, .ld (.s 15) 1 false, .none⟩,
          ⟨some 17, none, .fa (.s 2) 2, .none⟩,
          ⟨some 18, none, .ld (.s 17) 1 false, .none⟩,
          ⟨some 19, none, .mv (.s 1), .none⟩,
          ⟨some 20, none, .bin .sub (.s 19) (.c (.d (.int .i64 1))), .none⟩,
          ⟨some 21, none, .mn (.s 18) (.s 20), .none⟩,
          ⟨some 22, none, .bin .add (.s 21) (.c (.d (.int .i64 1))), .none⟩,
          ⟨some 23, none, .build [.int .i64 0, .int .i64 0] [(0, (1, .s 16)), (1, (1, .s 22))], .none⟩,
          ⟨none, none, .st (.s 4) (.s 23) 2, .none⟩])
      (.ret none))
      .skip))))))
  (.seq (.reg [⟨some 24, none, .mv (.s 1), .none⟩,
      ⟨some 25, none, .fa (.s 2) 1, .none⟩,
      ⟨some 26, none, .ld (.s 25) 1 false, .none⟩,
      ⟨some 27, none, .mv (.s 1), .none⟩,
      ⟨some 28, none, .mn (.s 26) (.s 27), .none⟩,
      ⟨some 29, none, .bin .sub (.s 24) (.s 28), .none⟩,
      ⟨some 30, none, .mv (.s 1), .none⟩,
      ⟨some 31, none, .build [.int .i64 0, .int .i64 0] [(0, (1, .s 29)), (1, (1, .s 30))], .none⟩,
      ⟨none, none, .st (.s 4) (.s 31) 2, .none⟩])
  (.ret none))))
def ir50 : F := { n := 32, res := [.cell 4 2 true], body := bd50 }
@[go_sem] theorem n50 : ir50.n = 32 := rfl
@[go_sem] theorem r50 : ir50.res = [.cell 4 2 true] := rfl
@[go_sem] theorem b50 : ir50.body = bd50 := rfl
/-- spence/nums.Add -/
def bd52 : C :=
  (.seq (.reg [⟨some 4, none, .mv (.c (.d (.int .i64 0))), .none⟩,
      ⟨some 5, none, .mv (.c (.d (.int .i64 0))), .none⟩])
  (.seq (.block 0 (.seq (.reg [⟨some 7, none, .mv (.s 0), .none⟩,
        ⟨some 8, none, .call 48 [.s 7, .c (.d (.int .i64 0)), .c (.d (.int .i64 4611686018427387903))] 2, .none⟩,
        ⟨some 9, none, .un .not (.s 8), .none⟩,
        ⟨some 10, none, .mv (.s 9), .none⟩,
        ⟨some 11, some (10, false), .mv (.s 1), .none⟩,
        ⟨some 12, some (10, false), .call 48 [.s 11, .c (.d (.int .i64 0)), .c (.d (.int .i64 4611686018427387903))] 2, .none⟩,
        ⟨some 13, some (10, false), .un .not (.s 12), .none⟩,
        ⟨some 14, none, .pick (.s 10) (.c (.d (.bool true))) (.s 13), .none⟩,
        ⟨some 6, none, .mv (.s 14), .none⟩])
    (.cond (.s 6)
     (.seq (.reg [⟨some 4, none, .mv (.c (.d (.int .i64 0))), .none⟩,
         ⟨some 5, none, .mv (.c (.d (.int .i64 1))), .none⟩])
     (.ret none))
     (.seq (.reg [⟨some 16, none, .mv (.s 0), .none⟩,
         ⟨some 17, none, .mv (.s 1), .none⟩,
         ⟨some 18, none, .bin .sub (.c (.d (.int .i64 4611686018427387903))) (.s 17), .none⟩,
         ⟨some 19, none, .bin .gtr (.s 16) (.s 18), .none⟩,
         ⟨some 15, none, .mv (.s 19), .none⟩])
     (.cond (.s 15)
      (.seq (.reg [⟨some 4, none, .mv (.c (.d (.int .i64 0))), .none⟩,
          ⟨some 5, none, .mv (.c (.d (.int .i64 9))), .none⟩])
      (.ret none))
      .skip)))))
  (.seq (.reg [⟨some 20, none, .mv (.s 0), .none⟩,
      ⟨some 21, none, .mv (.s 1), .none⟩,
      ⟨some 22, none, .bin .add (.s 20) (.s 21), .none⟩,
      ⟨some 4, none, .mv (.s 22), .none⟩,
      ⟨some 5, none, .mv (.c (.d (.int .i64 0))), .none⟩])
  (.ret none))))
def ir52 : F := { n := 23, res := [.tmp 4, .tmp 5], body := bd52 }
@[go_sem] theorem n52 : ir52.n = 23 := rfl
@[go_sem] theorem r52 : ir52.res = [.tmp 4, .tmp 5] := rfl
@[go_sem] theorem b52 : ir52.body = bd52 := rfl
/-- slices.ContainsFunc[[]spence/api.Span,spence/api.Span] -/
def bd53 : C :=
  (.seq (.reg [⟨some 4, none, .mv (.c (.d (.bool false))), .none⟩])
  (.seq (.reg [⟨some 5, none, .mv (.s 0), .none⟩,
      ⟨some 6, none, .mv (.s 1), .none⟩,
      ⟨some 7, none, .call 82 [.s 5, .s 6] 0, .none⟩,
      ⟨some 8, none, .bin .geq (.s 7) (.c (.d (.int .i64 0))), .none⟩,
      ⟨some 4, none, .mv (.s 8), .none⟩])
  (.ret none)))
def ir53 : F := { n := 9, res := [.tmp 4], body := bd53 }
@[go_sem] theorem n53 : ir53.n = 9 := rfl
@[go_sem] theorem r53 : ir53.res = [.tmp 4] := rfl
@[go_sem] theorem b53 : ir53.body = bd53 := rfl
/-- spence/span.Has$1 -/
def bd54 : C :=
  (.seq (.reg [⟨some 2, none, .box 38 (.s 0), .none⟩,
      ⟨some 3, none, .mv (.c (.d (.bool false))), .none⟩])
  (.seq (.reg [⟨some 4, none, .ld (.s 2) 2 true, .none⟩,
      ⟨some 5, none, .call 25 [.s 4] 2, .none⟩,
      ⟨some 6, none, .mv (.s 5), .none⟩,
      ⟨some 7, some (6, true), .ld (.s 1) 1 false, .none⟩,
      ⟨some 8, some (6, true), .fa (.s 2) 0, .none⟩,
      ⟨some 9, some (6, true), .ld (.s 8) 1 false, .none⟩,
      ⟨some 10, some (6, true), .bin .geq (.s 7) (.s 9), .none⟩,
      ⟨some 11, none, .pick (.s 6) (.s 10) (.c (.d (.bool false))), .none⟩,
      ⟨some 12, none, .mv (.s 11), .none⟩,
      ⟨some 13, some (12, true), .ld (.s 1) 1 false, .none⟩,
      ⟨some 14, some (12, true), .fa (.s 2) 1, .none⟩,
      ⟨some 15, some (12, true), .ld (.s 14) 1 false, .none⟩,
      ⟨some 16, some (12, true), .bin .lss (.s 13) (.s 15), .none⟩,
      ⟨some 17, none, .pick (.s 12) (.s 16) (.c (.d (.bool false))), .none⟩,
      ⟨some 3, none, .mv (.s 17), .none⟩])
  (.ret none)))
def ir54 : F := { n := 18, res := [.tmp 3], body := bd54 }
@[go_sem] theorem n54 : ir54.n = 18 := rfl
@[go_sem] theorem r54 : ir54.res = [.tmp 3] := rfl
@[go_sem] theorem b54 : ir54.body = bd54 := rfl
def lb82_0 : C :=
  (.seq (.reg [⟨some 9, none, .bin .lss (.s 8) (.s 7), .none⟩])
  (.seq (.cond (.s 9)
    .skip
    (.exit 0 (some [])))
  (.seq (.block 1 (.seq (.reg [⟨some 10, none, .mv (.s 8), .none⟩,
        ⟨some 5, none, .mv (.s 10), .none⟩])
    (.seq (.reg [⟨some 11, none, .mv (.s 1), .none⟩,
        ⟨some 12, none, .mv (.s 0), .none⟩,
        ⟨some 13, none, .mv (.s 5), .none⟩,
        ⟨some 14, none, .is (.s 12) (.s 13) 2, .none⟩,
        ⟨some 15, none, .ld (.s 14) 2 true, .none⟩,
        ⟨some 16, none, .callv (.s 11) [.s 15] 0, .none⟩])
    (.cond (.s 16)
     (.seq (.reg [⟨some 17, none, .mv (.s 5), .none⟩,
         ⟨some 4, none, .mv (.s 17), .none⟩])
     (.ret (some [4])))
     .skip))))
  (.reg [⟨some 18, none, .bin .add (.s 8) (.c (.d (.int .i64 1))), .none⟩,
     ⟨some 8, none, .mv (.s 18), .none⟩]))))
def lp82_0 : C := lb82_0
theorem u82_0 (c : Ev.Callee) (l : Ev.Looper) (s : St) : evC c l lp82_0 s = evC c l lb82_0 s := rfl
abbrev st82_0 (m : Nat) (s0 s1 s7 s8 : AV) (h : Heap) : St := ⟨m, [s0, s1, .unk, .unk, .unk, .unk, .unk, s7, s8, .unk, .unk, .unk, .unk, .unk, .unk, .unk, .unk, .unk, .unk], h⟩
@[go_sem] theorem ks82_0 (v0 v1 v2 v3 v4 v5 v6 v7 v8 v9 v10 v11 v12 v13 v14 v15 v16 v17 v18 : AV) : keepS [0, 1, 7, 8] [v0, v1, v2, v3, v4, v5, v6, v7, v8, v9, v10, v11, v12, v13, v14, v15, v16, v17, v18] 0 = [v0, v1, .unk, .unk, .unk, .unk, .unk, v7, v8, .unk, .unk, .unk, .unk, .unk, .unk, .unk, .unk, .unk, .unk] := rfl
@[go_sem] theorem ks82_1 (v0 v1 v2 v3 v4 v5 v6 v7 v8 v9 v10 v11 v12 v13 v14 v15 v16 v17 v18 : AV) : keepS [] [v0, v1, v2, v3, v4, v5, v6, v7, v8, v9, v10, v11, v12, v13, v14, v15, v16, v17, v18] 0 = [.unk, .unk, .unk, .unk, .unk, .unk, .unk, .unk, .unk, .unk, .unk, .unk, .unk, .unk, .unk, .unk, .unk, .unk, .unk] := rfl
@[go_sem] theorem ks82_2 (v0 v1 v2 v3 v4 v5 v6 v7 v8 v9 v10 v11 v12 v13 v14 v15 v16 v17 v18 : AV) : keepS [4] [v0, v1, v2, v3, v4, v5, v6, v7, v8, v9, v10, v11, v12, v13, v14, v15, v16, v17, v18] 0 = [.unk, .unk, .unk, .unk, v4, .unk, .unk, .unk, .unk, .unk, .unk, .unk, .unk, .unk, .unk, .unk, .unk, .unk, .unk] := rfl
/-- slices.IndexFunc[[]spence/api.Span,spence/api.Span] -/
def bd82 : C :=
  (.seq (.reg [⟨some 4, none, .mv (.c (.d (.int .i64 0))), .none⟩])
  (.seq (.seq (.reg [⟨some 6, none, .mv (.s 0), .none⟩,
       ⟨some 7, none, .len (.s 6), .none⟩,
       ⟨some 8, none, .mv (.c (.d (.int .i64 0))), .none⟩])
   (.block 0 (.loop [0, 1, 7, 8] lp82_0)))
  (.seq (.reg [⟨some 4, none, .mv (.c (.d (.int .i64 (-1)))), .none⟩])
  (.ret none))))
def ir82 : F := { n := 19, res := [.tmp 4], body := bd82 }
@[go_sem] theorem n82 : ir82.n = 19 := rfl
@[go_sem] theorem r82 : ir82.res = [.tmp 4] := rfl
@[go_sem] theorem b82 : ir82.body = bd82 := rfl

def irf : FuncId → Option F
  | 6 => some ir6
  | 18 => some ir18
  | 19 => some ir19
  | 22 => some ir22
  | 23 => some ir23
  | 24 => some ir24
  | 25 => some ir25
  | 26 => some ir26
  | 27 => some ir27
  | 28 => some ir28
  | 29 => some ir29
  | 30 => some ir30
  | 48 => some ir48
  | 49 => some ir49
  | 50 => some ir50
  | 52 => some ir52
  | 53 => some ir53
  | 54 => some ir54
  | 82 => some ir82
  | _ => none
def ir : IR := ⟨irf, fun _ _ _ => none⟩
theorem c6 : cF Try.prog 6 = some ir6.strip := by kernel_rfl
theorem k6 : ir6.body.okD = true := by kernel_rfl
theorem c18 : cF Try.prog 18 = some ir18.strip := by kernel_rfl
theorem k18 : ir18.body.okD = true := by kernel_rfl
theorem c19 : cF Try.prog 19 = some ir19.strip := by kernel_rfl
theorem k19 : ir19.body.okD = true := by kernel_rfl
theorem c22 : cF Try.prog 22 = some ir22.strip := by kernel_rfl
theorem k22 : ir22.body.okD = true := by kernel_rfl
theorem c23 : cF Try.prog 23 = some ir23.strip := by kernel_rfl
theorem k23 : ir23.body.okD = true := by kernel_rfl
theorem c24 : cF Try.prog 24 = some ir24.strip := by kernel_rfl
theorem k24 : ir24.body.okD = true := by kernel_rfl
theorem c25 : cF Try.prog 25 = some ir25.strip := by kernel_rfl
theorem k25 : ir25.body.okD = true := by kernel_rfl
theorem c26 : cF Try.prog 26 = some ir26.strip := by kernel_rfl
theorem k26 : ir26.body.okD = true := by kernel_rfl
theorem c27 : cF Try.prog 27 = some ir27.strip := by kernel_rfl
theorem k27 : ir27.body.okD = true := by kernel_rfl
theorem c28 : cF Try.prog 28 = some ir28.strip := by kernel_rfl
theorem k28 : ir28.body.okD = true := by kernel_rfl
theorem c29 : cF Try.prog 29 = some ir29.strip := by kernel_rfl
theorem k29 : ir29.body.okD = true := by kernel_rfl
theorem c30 : cF Try.prog 30 = some ir30.strip := by kernel_rfl
theorem k30 : ir30.body.okD = true := by kernel_rfl
theorem c48 : cF Try.prog 48 = some ir48.strip := by kernel_rfl
theorem k48 : ir48.body.okD = true := by kernel_rfl
theorem c49 : cF Try.prog 49 = some ir49.strip := by kernel_rfl
theorem k49 : ir49.body.okD = true := by kernel_rfl
theorem c50 : cF Try.prog 50 = some ir50.strip := by kernel_rfl
theorem k50 : ir50.body.okD = true := by kernel_rfl
theorem c52 : cF Try.prog 52 = some ir52.strip := by kernel_rfl
theorem k52 : ir52.body.okD = true := by kernel_rfl
theorem c53 : cF Try.prog 53 = some ir53.strip := by kernel_rfl
theorem k53 : ir53.body.okD = true := by kernel_rfl
theorem c54 : cF Try.prog 54 = some ir54.strip := by kernel_rfl
theorem k54 : ir54.body.okD = true := by kernel_rfl
theorem c82 : cF Try.prog 82 = some ir82.strip := by kernel_rfl
theorem k82 : ir82.body.okD = true := by kernel_rfl
theorem tab : Tab Try.prog ir := by
  refine ⟨by kernel_rfl, fun f fn h => ?_, fun f args H r H2 h => by simp [ir] at h⟩
  change irf f = some fn at h
  unfold irf at h
  split at h
  · cases h; exact ⟨c6, k6⟩
  · cases h; exact ⟨c18, k18⟩
  · cases h; exact ⟨c19, k19⟩
  · cases h; exact ⟨c22, k22⟩
  · cases h; exact ⟨c23, k23⟩
  · cases h; exact ⟨c24, k24⟩
  · cases h; exact ⟨c25, k25⟩
  · cases h; exact ⟨c26, k26⟩
  · cases h; exact ⟨c27, k27⟩
  · cases h; exact ⟨c28, k28⟩
  · cases h; exact ⟨c29, k29⟩
  · cases h; exact ⟨c30, k30⟩
  · cases h; exact ⟨c48, k48⟩
  · cases h; exact ⟨c49, k49⟩
  · cases h; exact ⟨c50, k50⟩
  · cases h; exact ⟨c52, k52⟩
  · cases h; exact ⟨c53, k53⟩
  · cases h; exact ⟨c54, k54⟩
  · cases h; exact ⟨c82, k82⟩
  · cases h
end Go.Proofs.Ytefcgdcmhhgfgaa.Ir
