/- The texts of the functions in the small language. Printed by a program of my own (irgen.py). -/
import Derived.Test.YtefcgdcmhhgfgaaEvSim
import Derived.Test.YtefcgdcmhhgfgaaProg
import Derived.Test.YtefcgdcmhhgfgaaEvNat
import Derived.Test.YtefcgdcmhhgfgaaShJoin
namespace Go.Proofs.Ytefcgdcmhhgfgaa.Ir
open Go Go.Ev
set_option maxRecDepth 10000

@[go_sem] theorem ks7_0 (v0 v1 v2 v3 v4 v5 v6 v7 v8 v9 v10 v11 v12 v13 v14 v15 v16 v17 v18 v19 v20 v21 v22 v23 v24 v25 v26 v27 v28 v29 v30 v31 v32 v33 v34 v35 v36 v37 v38 v39 v40 v41 v42 v43 v44 v45 v46 v47 v48 v49 v50 v51 v52 v53 v54 v55 v56 v57 v58 v59 v60 v61 v62 v63 v64 v65 v66 v67 v68 v69 v70 v71 v72 v73 v74 v75 v76 v77 v78 v79 v80 v81 v82 v83 v84 v85 v86 v87 v88 v89 v90 v91 v92 v93 v94 v95 v96 v97 v98 v99 v100 v101 v102 v103 v104 v105 v106 v107 v108 v109 v110 v111 v112 v113 v114 v115 v116 v117 v118 v119 v120 v121 v122 v123 v124 v125 v126 v127 v128 v129 v130 v131 v132 : AV) : keepS [1, 2, 3, 8, 9, 10, 11] [v0, v1, v2, v3, v4, v5, v6, v7, v8, v9, v10, v11, v12, v13, v14, v15, v16, v17, v18, v19, v20, v21, v22, v23, v24, v25, v26, v27, v28, v29, v30, v31, v32, v33, v34, v35, v36, v37, v38, v39, v40, v41, v42, v43, v44, v45, v46, v47, v48, v49, v50, v51, v52, v53, v54, v55, v56, v57, v58, v59, v60, v61, v62, v63, v64, v65, v66, v67, v68, v69, v70, v71, v72, v73, v74, v75, v76, v77, v78, v79, v80, v81, v82, v83, v84, v85, v86, v87, v88, v89, v90, v91, v92, v93, v94, v95, v96, v97, v98, v99, v100, v101, v102, v103, v104, v105, v106, v107, v108, v109, v110, v111, v112, v113, v114, v115, v116, v117, v118, v119, v120, v121, v122, v123, v124, v125, v126, v127, v128, v129, v130, v131, v132] 0 = [.unk, v1, v2, v3, .unk, .unk, .unk, .unk, v8, v9, v10, v11, .unk, .unk, .unk, .unk, .unk, .unk, .unk, .unk, .unk, .unk, .unk, .unk, .unk, .unk, .unk, .unk, .unk, .unk, .unk, .unk, .unk, .unk, .unk, .unk, .unk, .unk, .unk, .unk, .unk, .unk, .unk, .unk, .unk, .unk, .unk, .unk, .unk, .unk, .unk, .unk, .unk, .unk, .unk, .unk, .unk, .unk, .unk, .unk, .unk, .unk, .unk, .unk, .unk, .unk, .unk, .unk, .unk, .unk, .unk, .unk, .unk, .unk, .unk, .unk, .unk, .unk, .unk, .unk, .unk, .unk, .unk, .unk, .unk, .unk, .unk, .unk, .unk, .unk, .unk, .unk, .unk, .unk, .unk, .unk, .unk, .unk, .unk, .unk, .unk, .unk, .unk, .unk, .unk, .unk, .unk, .unk, .unk, .unk, .unk, .unk, .unk, .unk, .unk, .unk, .unk, .unk, .unk, .unk, .unk, .unk, .unk, .unk, .unk, .unk, .unk, .unk, .unk, .unk, .unk, .unk, .unk] := rfl
@[go_sem] theorem ks7_1 (v0 v1 v2 v3 v4 v5 v6 v7 v8 v9 v10 v11 v12 v13 v14 v15 v16 v17 v18 v19 v20 v21 v22 v23 v24 v25 v26 v27 v28 v29 v30 v31 v32 v33 v34 v35 v36 v37 v38 v39 v40 v41 v42 v43 v44 v45 v46 v47 v48 v49 v50 v51 v52 v53 v54 v55 v56 v57 v58 v59 v60 v61 v62 v63 v64 v65 v66 v67 v68 v69 v70 v71 v72 v73 v74 v75 v76 v77 v78 v79 v80 v81 v82 v83 v84 v85 v86 v87 v88 v89 v90 v91 v92 v93 v94 v95 v96 v97 v98 v99 v100 v101 v102 v103 v104 v105 v106 v107 v108 v109 v110 v111 v112 v113 v114 v115 v116 v117 v118 v119 v120 v121 v122 v123 v124 v125 v126 v127 v128 v129 v130 v131 v132 : AV) : keepS [1, 2, 3, 9, 10, 11] [v0, v1, v2, v3, v4, v5, v6, v7, v8, v9, v10, v11, v12, v13, v14, v15, v16, v17, v18, v19, v20, v21, v22, v23, v24, v25, v26, v27, v28, v29, v30, v31, v32, v33, v34, v35, v36, v37, v38, v39, v40, v41, v42, v43, v44, v45, v46, v47, v48, v49, v50, v51, v52, v53, v54, v55, v56, v57, v58, v59, v60, v61, v62, v63, v64, v65, v66, v67, v68, v69, v70, v71, v72, v73, v74, v75, v76, v77, v78, v79, v80, v81, v82, v83, v84, v85, v86, v87, v88, v89, v90, v91, v92, v93, v94, v95, v96, v97, v98, v99, v100, v101, v102, v103, v104, v105, v106, v107, v108, v109, v110, v111, v112, v113, v114, v115, v116, v117, v118, v119, v120, v121, v122, v123, v124, v125, v126, v127, v128, v129, v130, v131, v132] 0 = [.unk, v1, v2, v3, .unk, .unk, .unk, .unk, .unk, v9, v10, v11, .unk, .unk, .unk, .unk, .unk, .unk, .unk, .unk, .unk, .unk, .unk, .unk, .unk, .unk, .unk, .unk, .unk, .unk, .unk, .unk, .unk, .unk, .unk, .unk, .unk, .unk, .unk, .unk, .unk, .unk, .unk, .unk, .unk, .unk, .unk, .unk, .unk, .unk, .unk, .unk, .unk, .unk, .unk, .unk, .unk, .unk, .unk, .unk, .unk, .unk, .unk, .unk, .unk, .unk, .unk, .unk, .unk, .unk, .unk, .unk, .unk, .unk, .unk, .unk, .unk, .unk, .unk, .unk, .unk, .unk, .unk, .unk, .unk, .unk, .unk, .unk, .unk, .unk, .unk, .unk, .unk, .unk, .unk, .unk, .unk, .unk, .unk, .unk, .unk, .unk, .unk, .unk, .unk, .unk, .unk, .unk, .unk, .unk, .unk, .unk, .unk, .unk, .unk, .unk, .unk, .unk, .unk, .unk, .unk, .unk, .unk, .unk, .unk, .unk, .unk, .unk, .unk, .unk, .unk, .unk, .unk] := rfl
@[go_sem] theorem ks7_2 (v0 v1 v2 v3 v4 v5 v6 v7 v8 v9 v10 v11 v12 v13 v14 v15 v16 v17 v18 v19 v20 v21 v22 v23 v24 v25 v26 v27 v28 v29 v30 v31 v32 v33 v34 v35 v36 v37 v38 v39 v40 v41 v42 v43 v44 v45 v46 v47 v48 v49 v50 v51 v52 v53 v54 v55 v56 v57 v58 v59 v60 v61 v62 v63 v64 v65 v66 v67 v68 v69 v70 v71 v72 v73 v74 v75 v76 v77 v78 v79 v80 v81 v82 v83 v84 v85 v86 v87 v88 v89 v90 v91 v92 v93 v94 v95 v96 v97 v98 v99 v100 v101 v102 v103 v104 v105 v106 v107 v108 v109 v110 v111 v112 v113 v114 v115 v116 v117 v118 v119 v120 v121 v122 v123 v124 v125 v126 v127 v128 v129 v130 v131 v132 : AV) : keepS [1, 2, 3, 10, 11, 12] [v0, v1, v2, v3, v4, v5, v6, v7, v8, v9, v10, v11, v12, v13, v14, v15, v16, v17, v18, v19, v20, v21, v22, v23, v24, v25, v26, v27, v28, v29, v30, v31, v32, v33, v34, v35, v36, v37, v38, v39, v40, v41, v42, v43, v44, v45, v46, v47, v48, v49, v50, v51, v52, v53, v54, v55, v56, v57, v58, v59, v60, v61, v62, v63, v64, v65, v66, v67, v68, v69, v70, v71, v72, v73, v74, v75, v76, v77, v78, v79, v80, v81, v82, v83, v84, v85, v86, v87, v88, v89, v90, v91, v92, v93, v94, v95, v96, v97, v98, v99, v100, v101, v102, v103, v104, v105, v106, v107, v108, v109, v110, v111, v112, v113, v114, v115, v116, v117, v118, v119, v120, v121, v122, v123, v124, v125, v126, v127, v128, v129, v130, v131, v132] 0 = [.unk, v1, v2, v3, .unk, .unk, .unk, .unk, .unk, .unk, v10, v11, v12, .unk, .unk, .unk, .unk, .unk, .unk, .unk, .unk, .unk, .unk, .unk, .unk, .unk, .unk, .unk, .unk, .unk, .unk, .unk, .unk, .unk, .unk, .unk, .unk, .unk, .unk, .unk, .unk, .unk, .unk, .unk, .unk, .unk, .unk, .unk, .unk, .unk, .unk, .unk, .unk, .unk, .unk, .unk, .unk, .unk, .unk, .unk, .unk, .unk, .unk, .unk, .unk, .unk, .unk, .unk, .unk, .unk, .unk, .unk, .unk, .unk, .unk, .unk, .unk, .unk, .unk, .unk, .unk, .unk, .unk, .unk, .unk, .unk, .unk, .unk, .unk, .unk, .unk, .unk, .unk, .unk, .unk, .unk, .unk, .unk, .unk, .unk, .unk, .unk, .unk, .unk, .unk, .unk, .unk, .unk, .unk, .unk, .unk, .unk, .unk, .unk, .unk, .unk, .unk, .unk, .unk, .unk, .unk, .unk, .unk, .unk, .unk, .unk, .unk, .unk, .unk, .unk, .unk, .unk, .unk] := rfl
@[go_sem] theorem ks7_3 (v0 v1 v2 v3 v4 v5 v6 v7 v8 v9 v10 v11 v12 v13 v14 v15 v16 v17 v18 v19 v20 v21 v22 v23 v24 v25 v26 v27 v28 v29 v30 v31 v32 v33 v34 v35 v36 v37 v38 v39 v40 v41 v42 v43 v44 v45 v46 v47 v48 v49 v50 v51 v52 v53 v54 v55 v56 v57 v58 v59 v60 v61 v62 v63 v64 v65 v66 v67 v68 v69 v70 v71 v72 v73 v74 v75 v76 v77 v78 v79 v80 v81 v82 v83 v84 v85 v86 v87 v88 v89 v90 v91 v92 v93 v94 v95 v96 v97 v98 v99 v100 v101 v102 v103 v104 v105 v106 v107 v108 v109 v110 v111 v112 v113 v114 v115 v116 v117 v118 v119 v120 v121 v122 v123 v124 v125 v126 v127 v128 v129 v130 v131 v132 : AV) : keepS [1, 2, 3, 9, 10, 11, 12, 52, 80] [v0, v1, v2, v3, v4, v5, v6, v7, v8, v9, v10, v11, v12, v13, v14, v15, v16, v17, v18, v19, v20, v21, v22, v23, v24, v25, v26, v27, v28, v29, v30, v31, v32, v33, v34, v35, v36, v37, v38, v39, v40, v41, v42, v43, v44, v45, v46, v47, v48, v49, v50, v51, v52, v53, v54, v55, v56, v57, v58, v59, v60, v61, v62, v63, v64, v65, v66, v67, v68, v69, v70, v71, v72, v73, v74, v75, v76, v77, v78, v79, v80, v81, v82, v83, v84, v85, v86, v87, v88, v89, v90, v91, v92, v93, v94, v95, v96, v97, v98, v99, v100, v101, v102, v103, v104, v105, v106, v107, v108, v109, v110, v111, v112, v113, v114, v115, v116, v117, v118, v119, v120, v121, v122, v123, v124, v125, v126, v127, v128, v129, v130, v131, v132] 0 = [.unk, v1, v2, v3, .unk, .unk, .unk, .unk, .unk, v9, v10, v11, v12, .unk, .unk, .unk, .unk, .unk, .unk, .unk, .unk, .unk, .unk, .unk, .unk, .unk, .unk, .unk, .unk, .unk, .unk, .unk, .unk, .unk, .unk, .unk, .unk, .unk, .unk, .unk, .unk, .unk, .unk, .unk, .unk, .unk, .unk, .unk, .unk, .unk, .unk, .unk, v52, .unk, .unk, .unk, .unk, .unk, .unk, .unk, .unk, .unk, .unk, .unk, .unk, .unk, .unk, .unk, .unk, .unk, .unk, .unk, .unk, .unk, .unk, .unk, .unk, .unk, .unk, .unk, v80, .unk, .unk, .unk, .unk, .unk, .unk, .unk, .unk, .unk, .unk, .unk, .unk, .unk, .unk, .unk, .unk, .unk, .unk, .unk, .unk, .unk, .unk, .unk, .unk, .unk, .unk, .unk, .unk, .unk, .unk, .unk, .unk, .unk, .unk, .unk, .unk, .unk, .unk, .unk, .unk, .unk, .unk, .unk, .unk, .unk, .unk, .unk, .unk, .unk, .unk, .unk, .unk] := rfl
/-- spence/spencelaw44.TraceMoves -/
def bd7 : C :=
  (.seq (.reg [⟨some 3, none, .box 56 (.s 0), .none⟩,
      ⟨some 6, none, .mv (.c (.d (.bool false))), .none⟩])
  (.seq (.seq (.reg [⟨some 13, none, .call 31 [] 2, .none⟩,
       ⟨some 14, none, .un .not (.s 13), .none⟩])
   (.cond (.s 14)
    (.seq (.reg [⟨some 6, none, .mv (.c (.d (.bool false))), .none⟩])
    (.ret none))
    .skip))
  (.seq (.seq (.reg [⟨some 15, none, .fa (.s 3) 1, .none⟩,
       ⟨some 16, none, .fa (.s 15) 1, .none⟩,
       ⟨some 17, none, .ld (.s 16) 1 false, .none⟩,
       ⟨some 18, none, .lens (.s 17), .none⟩,
       ⟨some 19, none, .bin .gtr (.s 18) (.c (.d (.int .i64 200))), .none⟩,
       ⟨some 20, none, .mv (.s 19), .none⟩,
       ⟨some 21, some (20, false), .fa (.s 3) 1, .none⟩,
       ⟨some 22, some (20, false), .fa (.s 21) 2, .none⟩,
       ⟨some 23, some (20, false), .ld (.s 22) 1 false, .none⟩,
       ⟨some 24, some (20, false), .lens (.s 23), .none⟩,
       ⟨some 25, some (20, false), .bin .gtr (.s 24) (.c (.d (.int .i64 200))), .none⟩,
       ⟨some 26, none, .pick (.s 20) (.c (.d (.bool true))) (.s 25), .none⟩])
   (.cond (.s 26)
    (.seq (.reg [⟨some 6, none, .mv (.c (.d (.bool true))), .none⟩])
    (.ret none))
    .skip))
  (.seq (.reg [⟨some 27, none, .bsl 9 1 6 [.str []] [(0, (1, .c (.d (.str [])))), (1, (1, .c (.d (.str [104, 101, 97, 100])))), (2, (1, .c (.d (.str [98, 105, 110, 100])))), (3, (1, .c (.d (.str [112, 105, 101, 99, 101])))), (4, (1, .c (.d (.str [100, 114, 111, 112])))), (5, (1, .c (.d (.str [112, 117, 114, 103, 101]))))], .none⟩,
      ⟨some 7, none, .mv (.s 27), .none⟩])
  (.seq (.reg [⟨some 28, none, .bsl 9 1 5 [.str []] [(0, (1, .c (.d (.str [97, 115, 107, 105, 110, 103])))), (1, (1, .c (.d (.str [112, 108, 97, 110, 110, 105, 110, 103])))), (2, (1, .c (.d (.str [102, 101, 116, 99, 104, 105, 110, 103])))), (3, (1, .c (.d (.str [101, 110, 100, 105, 110, 103])))), (4, (1, .c (.d (.str [111, 118, 101, 114]))))], .none⟩,
      ⟨some 8, none, .mv (.s 28), .none⟩])
  (.seq (.reg [⟨some 29, none, .bsl 9 1 6 [.str []] [(0, (1, .c (.d (.str [])))), (1, (1, .c (.d (.str [115, 116, 101, 112])))), (2, (1, .c (.d (.str [116, 105, 99, 107])))), (3, (1, .c (.d (.str [116, 117, 114, 110])))), (4, (1, .c (.d (.str [102, 97, 117, 108, 116])))), (5, (1, .c (.d (.str [112, 117, 114, 103, 101]))))], .none⟩,
      ⟨some 9, none, .mv (.s 29), .none⟩])
  (.seq (.reg [⟨some 10, none, .mv (.c (.d (.str []))), .none⟩,
      ⟨some 11, none, .mv (.c (.d (.str []))), .none⟩])
  (.seq (.seq (.reg [⟨some 30, none, .mv (.s 1), .none⟩,
       ⟨some 31, none, .cvi .i64 (.s 30), .none⟩,
       ⟨some 32, none, .mv (.s 7), .none⟩,
       ⟨some 33, none, .len (.s 32), .none⟩,
       ⟨some 34, none, .bin .lss (.s 31) (.s 33), .none⟩])
   (.cond (.s 34)
    (.reg [⟨some 35, none, .mv (.s 7), .none⟩,
       ⟨some 36, none, .mv (.s 1), .none⟩,
       ⟨some 37, none, .is (.s 35) (.s 36) 1, .none⟩,
       ⟨some 38, none, .ld (.s 37) 1 false, .none⟩,
       ⟨some 10, none, .mv (.s 38), .none⟩])
    .skip))
  (.ann [1, 2, 3, 8, 9, 10, 11] (.seq (.seq (.reg [⟨some 39, none, .mv (.s 2), .none⟩,
       ⟨some 40, none, .bin .geq (.s 39) (.c (.d (.int .i64 0))), .none⟩,
       ⟨some 41, none, .mv (.s 40), .none⟩,
       ⟨some 42, some (41, true), .mv (.s 2), .none⟩,
       ⟨some 43, some (41, true), .mv (.s 8), .none⟩,
       ⟨some 44, some (41, true), .len (.s 43), .none⟩,
       ⟨some 45, some (41, true), .bin .lss (.s 42) (.s 44), .none⟩,
       ⟨some 46, none, .pick (.s 41) (.s 45) (.c (.d (.bool false))), .none⟩])
   (.cond (.s 46)
    (.reg [⟨some 47, none, .mv (.s 8), .none⟩,
       ⟨some 48, none, .mv (.s 2), .none⟩,
       ⟨some 49, none, .is (.s 47) (.s 48) 1, .none⟩,
       ⟨some 50, none, .ld (.s 49) 1 false, .none⟩,
       ⟨some 11, none, .mv (.s 50), .none⟩])
    .skip))
  (.ann [1, 2, 3, 9, 10, 11] (.seq (.reg [⟨some 12, none, .mv (.c (.d (.str [63]))), .none⟩])
  (.seq (.seq (.reg [⟨some 51, none, .fa (.s 3) 0, .none⟩,
       ⟨some 52, none, .ld (.s 51) 1 false, .none⟩])
   (.block 0 (.seq (.reg [⟨some 54, none, .bin .eql (.s 52) (.c (.d (.int .i64 0))), .none⟩,
        ⟨some 53, none, .mv (.s 54), .none⟩])
    (.cond (.s 53)
     (.seq (.reg [⟨some 55, none, .fa (.s 3) 1, .none⟩,
         ⟨some 56, none, .fa (.s 55) 0, .none⟩,
         ⟨some 57, none, .ld (.s 56) 1 false, .none⟩,
         ⟨some 58, none, .call 32 [.s 57] 2, .none⟩,
         ⟨some 59, none, .bin .add (.c (.d (.str [97, 115, 107, 32]))) (.s 58), .none⟩,
         ⟨some 12, none, .mv (.s 59), .none⟩])
     (.seq (.seq (.reg [⟨some 60, none, .fa (.s 3) 1, .none⟩,
          ⟨some 61, none, .fa (.s 60) 1, .none⟩,
          ⟨some 62, none, .ld (.s 61) 1 false, .none⟩,
          ⟨some 63, none, .bin .neq (.s 62) (.c (.d (.str []))), .none⟩])
      (.cond (.s 63)
       (.reg [⟨some 64, none, .mv (.s 12), .none⟩,
          ⟨some 65, none, .fa (.s 3) 1, .none⟩,
          ⟨some 66, none, .fa (.s 65) 1, .none⟩,
          ⟨some 67, none, .ld (.s 66) 1 false, .none⟩,
          ⟨some 68, none, .bin .add (.c (.d (.str [32]))) (.s 67), .none⟩,
          ⟨some 69, none, .bin .add (.s 64) (.s 68), .none⟩,
          ⟨some 12, none, .mv (.s 69), .none⟩])
       .skip))
     (.ann [1, 2, 3, 10, 11, 12] (.seq (.reg [⟨some 70, none, .fa (.s 3) 1, .none⟩,
         ⟨some 71, none, .fa (.s 70) 2, .none⟩,
         ⟨some 72, none, .ld (.s 71) 1 false, .none⟩,
         ⟨some 73, none, .bin .neq (.s 72) (.c (.d (.str []))), .none⟩])
     (.cond (.s 73)
      (.reg [⟨some 74, none, .mv (.s 12), .none⟩,
         ⟨some 75, none, .fa (.s 3) 1, .none⟩,
         ⟨some 76, none, .fa (.s 75) 2, .none⟩,
         ⟨some 77, none, .ld (.s 76) 1 false, .none⟩,
         ⟨some 78, none, .bin .add (.c (.d (.str [32, 105, 102, 32]))) (.s 77), .none⟩,
         ⟨some 79, none, .bin .add (.s 74) (.s 78), .none⟩,
         ⟨some 12, none, .mv (.s 79), .none⟩])
      .skip)))))
     (.seq (.seq (.reg [⟨some 81, none, .bin .eql (.s 52) (.c (.d (.int .i64 1))), .none⟩,
          ⟨some 80, none, .mv (.s 81), .none⟩])
      (.cond (.s 80)
       .skip
       (.seq (.reg [⟨some 82, none, .bin .eql (.s 52) (.c (.d (.int .i64 2))), .none⟩,
           ⟨some 80, none, .mv (.s 82), .none⟩])
       (.cond (.s 80)
        .skip
        (.seq (.reg [⟨some 83, none, .bin .eql (.s 52) (.c (.d (.int .i64 3))), .none⟩,
            ⟨some 80, none, .mv (.s 83), .none⟩])
        (.cond (.s 80)
         .skip
         (.seq (.reg [⟨some 84, none, .bin .eql (.s 52) (.c (.d (.int .i64 4))), .none⟩,
             ⟨some 80, none, .mv (.s 84), .none⟩])
         (.cond (.s 80)
          .skip
          (.reg [⟨some 85, none, .bin .eql (.s 52) (.c (.d (.int .i64 5))), .none⟩,
             ⟨some 80, none, .mv (.s 85), .none⟩])))))))))
     (.ann [1, 2, 3, 9, 10, 11, 12, 52, 80] (.cond (.s 80)
      (.drw [⟨some 86, none, .mv (.s 9), .none⟩,
         ⟨some 87, none, .fa (.s 3) 0, .none⟩,
         ⟨some 88, none, .ld (.s 87) 1 false, .none⟩,
         ⟨some 89, none, .is (.s 86) (.s 88) 1, .none⟩,
         ⟨some 90, none, .ld (.s 89) 1 false, .none⟩,
         ⟨some 91, none, .bin .add (.s 90) (.c (.d (.str [32]))), .none⟩,
         ⟨some 92, none, .fa (.s 3) 4, .none⟩,
         ⟨some 93, none, .ld (.s 92) 1 false, .none⟩,
         ⟨some 94, none, .call 32 [.s 93] 2, .none⟩,
         ⟨some 95, none, .bin .add (.s 91) (.s 94), .none⟩,
         ⟨some 12, none, .mv (.s 95), .none⟩]
        [[], [], [1], [0, 2], [3], [4], [], [6], [7], [5, 8], [9, 8, 0, 1, 2, 3, 4, 5, 6, 7, 8, 9]])
      (.seq (.reg [⟨some 97, none, .bin .eql (.s 52) (.c (.d (.int .i64 6))), .none⟩,
          ⟨some 96, none, .mv (.s 97), .none⟩])
      (.cond (.s 96)
       (.drw [⟨some 98, none, .fa (.s 3) 5, .none⟩,
          ⟨some 99, none, .fa (.s 98) 0, .none⟩,
          ⟨some 100, none, .ld (.s 99) 1 false, .none⟩,
          ⟨some 101, none, .call 33 [.s 100] 2, .none⟩,
          ⟨some 102, none, .bin .add (.c (.d (.str [99, 114, 97, 115, 104, 32]))) (.s 101), .none⟩,
          ⟨some 103, none, .bin .add (.s 102) (.c (.d (.str [32]))), .none⟩,
          ⟨some 104, none, .fa (.s 3) 5, .none⟩,
          ⟨some 105, none, .fa (.s 104) 1, .none⟩,
          ⟨some 106, none, .ld (.s 105) 1 false, .none⟩,
          ⟨some 107, none, .call 32 [.s 106] 2, .none⟩,
          ⟨some 108, none, .bin .add (.s 103) (.s 107), .none⟩,
          ⟨some 109, none, .bin .add (.s 108) (.c (.d (.str [32]))), .none⟩,
          ⟨some 110, none, .fa (.s 3) 5, .none⟩,
          ⟨some 111, none, .fa (.s 110) 2, .none⟩,
          ⟨some 112, none, .ld (.s 111) 1 false, .none⟩,
          ⟨some 113, none, .call 32 [.s 112] 2, .none⟩,
          ⟨some 114, none, .bin .add (.s 109) (.s 113), .none⟩,
          ⟨some 12, none, .mv (.s 114), .none⟩]
         [[], [0], [1], [2], [3], [4], [], [6], [7], [8, 3], [5, 9], [10], [], [12], [13], [14, 9], [11, 15], [16, 15, 0, 1, 2, 3, 4, 5, 6, 7, 8, 9, 10, 11, 12, 13, 14, 15, 16]])
       (.seq (.reg [⟨some 116, none, .bin .eql (.s 52) (.c (.d (.int .i64 7))), .none⟩,
           ⟨some 115, none, .mv (.s 116), .none⟩])
       (.cond (.s 115)
        (.reg [⟨some 12, none, .mv (.c (.d (.str [115, 121, 110, 99]))), .none⟩])
        .skip)))))))))))
  (.seq (.reg [⟨some 117, none, .ld (.s 3) 8 true, .none⟩,
      ⟨some 118, none, .call 34 [.s 117] 2, .none⟩,
      ⟨some 119, none, .mv (.s 12), .none⟩,
      ⟨some 120, none, .bin .eql (.s 118) (.s 119), .none⟩,
      ⟨some 121, none, .mv (.s 120), .none⟩,
      ⟨some 122, some (121, true), .mv (.s 1), .none⟩,
      ⟨some 123, some (121, true), .call 35 [.s 122] 2, .none⟩,
      ⟨some 124, some (121, true), .mv (.s 10), .none⟩,
      ⟨some 125, some (121, true), .bin .eql (.s 123) (.s 124), .none⟩,
      ⟨some 126, none, .pick (.s 121) (.s 125) (.c (.d (.bool false))), .none⟩,
      ⟨some 127, none, .mv (.s 126), .none⟩,
      ⟨some 128, some (127, true), .mv (.s 2), .none⟩,
      ⟨some 129, some (127, true), .call 36 [.s 128] 2, .none⟩,
      ⟨some 130, some (127, true), .mv (.s 11), .none⟩,
      ⟨some 131, some (127, true), .bin .eql (.s 129) (.s 130), .none⟩,
      ⟨some 132, none, .pick (.s 127) (.s 131) (.c (.d (.bool false))), .none⟩,
      ⟨some 6, none, .mv (.s 132), .none⟩])
  (.ret none)))))))))))))))
def ir7 : F := { n := 133, res := [.tmp 6], body := bd7 }
@[go_sem] theorem n7 : ir7.n = 133 := rfl
@[go_sem] theorem r7 : ir7.res = [.tmp 6] := rfl
@[go_sem] theorem b7 : ir7.body = bd7 := rfl
@[go_sem] theorem ks8_0 (v0 v1 v2 v3 v4 v5 v6 v7 v8 v9 v10 v11 v12 v13 v14 v15 v16 v17 v18 v19 v20 v21 v22 v23 v24 v25 v26 v27 v28 v29 v30 v31 v32 v33 v34 v35 v36 v37 v38 v39 v40 v41 v42 v43 v44 v45 v46 v47 v48 v49 v50 v51 v52 v53 v54 v55 v56 v57 v58 v59 v60 v61 v62 v63 v64 v65 v66 v67 v68 v69 v70 v71 v72 v73 v74 v75 v76 v77 v78 v79 v80 v81 v82 v83 v84 v85 v86 v87 v88 v89 v90 v91 v92 v93 v94 v95 v96 v97 v98 v99 v100 v101 v102 v103 v104 : AV) : keepS [2, 3, 5] [v0, v1, v2, v3, v4, v5, v6, v7, v8, v9, v10, v11, v12, v13, v14, v15, v16, v17, v18, v19, v20, v21, v22, v23, v24, v25, v26, v27, v28, v29, v30, v31, v32, v33, v34, v35, v36, v37, v38, v39, v40, v41, v42, v43, v44, v45, v46, v47, v48, v49, v50, v51, v52, v53, v54, v55, v56, v57, v58, v59, v60, v61, v62, v63, v64, v65, v66, v67, v68, v69, v70, v71, v72, v73, v74, v75, v76, v77, v78, v79, v80, v81, v82, v83, v84, v85, v86, v87, v88, v89, v90, v91, v92, v93, v94, v95, v96, v97, v98, v99, v100, v101, v102, v103, v104] 0 = [.unk, .unk, v2, v3, .unk, v5, .unk, .unk, .unk, .unk, .unk, .unk, .unk, .unk, .unk, .unk, .unk, .unk, .unk, .unk, .unk, .unk, .unk, .unk, .unk, .unk, .unk, .unk, .unk, .unk, .unk, .unk, .unk, .unk, .unk, .unk, .unk, .unk, .unk, .unk, .unk, .unk, .unk, .unk, .unk, .unk, .unk, .unk, .unk, .unk, .unk, .unk, .unk, .unk, .unk, .unk, .unk, .unk, .unk, .unk, .unk, .unk, .unk, .unk, .unk, .unk, .unk, .unk, .unk, .unk, .unk, .unk, .unk, .unk, .unk, .unk, .unk, .unk, .unk, .unk, .unk, .unk, .unk, .unk, .unk, .unk, .unk, .unk, .unk, .unk, .unk, .unk, .unk, .unk, .unk, .unk, .unk, .unk, .unk, .unk, .unk, .unk, .unk, .unk, .unk] := rfl
/-- spence/spencelaw44.TraceDones -/
def bd8 : C :=
  (.seq (.reg [⟨some 2, none, .box 67 (.s 0), .none⟩,
      ⟨some 3, none, .box 69 (.s 1), .none⟩,
      ⟨some 4, none, .mv (.c (.d (.bool false))), .none⟩])
  (.seq (.seq (.reg [⟨some 7, none, .call 31 [] 2, .none⟩,
       ⟨some 8, none, .un .not (.s 7), .none⟩])
   (.cond (.s 8)
    (.seq (.reg [⟨some 4, none, .mv (.c (.d (.bool false))), .none⟩])
    (.ret none))
    .skip))
  (.seq (.seq (.reg [⟨some 9, none, .fa (.s 2) 7, .none⟩,
       ⟨some 10, none, .fa (.s 9) 1, .none⟩,
       ⟨some 11, none, .ld (.s 10) 1 false, .none⟩,
       ⟨some 12, none, .lens (.s 11), .none⟩,
       ⟨some 13, none, .bin .gtr (.s 12) (.c (.d (.int .i64 200))), .none⟩,
       ⟨some 14, none, .mv (.s 13), .none⟩,
       ⟨some 15, some (14, false), .fa (.s 2) 7, .none⟩,
       ⟨some 16, some (14, false), .fa (.s 15) 2, .none⟩,
       ⟨some 17, some (14, false), .ld (.s 16) 1 false, .none⟩,
       ⟨some 18, some (14, false), .lens (.s 17), .none⟩,
       ⟨some 19, some (14, false), .bin .gtr (.s 18) (.c (.d (.int .i64 200))), .none⟩,
       ⟨some 20, none, .pick (.s 14) (.c (.d (.bool true))) (.s 19), .none⟩,
       ⟨some 21, none, .mv (.s 20), .none⟩,
       ⟨some 22, some (21, false), .fa (.s 2) 7, .none⟩,
       ⟨some 23, some (21, false), .fa (.s 22) 3, .none⟩,
       ⟨some 24, some (21, false), .ld (.s 23) 1 false, .none⟩,
       ⟨some 25, some (21, false), .len (.s 24), .none⟩,
       ⟨some 26, some (21, false), .bin .gtr (.s 25) (.c (.d (.int .i64 2000))), .none⟩,
       ⟨some 27, none, .pick (.s 21) (.c (.d (.bool true))) (.s 26), .none⟩])
   (.cond (.s 27)
    (.seq (.reg [⟨some 4, none, .mv (.c (.d (.bool true))), .none⟩])
    (.ret none))
    .skip))
  (.seq (.drw [⟨some 28, none, .fa (.s 2) 0, .none⟩,
      ⟨some 29, none, .fa (.s 28) 0, .none⟩,
      ⟨some 30, none, .ld (.s 29) 1 false, .none⟩,
      ⟨some 31, none, .call 32 [.s 30] 2, .none⟩,
      ⟨some 32, none, .bin .add (.s 31) (.c (.d (.str [32]))), .none⟩,
      ⟨some 33, none, .fa (.s 2) 7, .none⟩,
      ⟨some 34, none, .fa (.s 33) 0, .none⟩,
      ⟨some 35, none, .ld (.s 34) 1 false, .none⟩,
      ⟨some 36, none, .call 32 [.s 35] 2, .none⟩,
      ⟨some 37, none, .bin .add (.s 32) (.s 36), .none⟩,
      ⟨some 38, none, .bin .add (.s 37) (.c (.d (.str [32, 102, 114, 111, 109, 32]))), .none⟩,
      ⟨some 39, none, .fa (.s 2) 5, .none⟩,
      ⟨some 40, none, .ld (.s 39) 1 false, .none⟩,
      ⟨some 41, none, .call 32 [.s 40] 2, .none⟩,
      ⟨some 42, none, .bin .add (.s 38) (.s 41), .none⟩,
      ⟨some 43, none, .bin .add (.s 42) (.c (.d (.str [32, 116, 111, 32]))), .none⟩,
      ⟨some 44, none, .fa (.s 2) 6, .none⟩,
      ⟨some 45, none, .ld (.s 44) 1 false, .none⟩,
      ⟨some 46, none, .call 32 [.s 45] 2, .none⟩,
      ⟨some 47, none, .bin .add (.s 43) (.s 46), .none⟩,
      ⟨some 5, none, .mv (.s 47), .none⟩]
     [[], [0], [1], [2], [3], [], [5], [6], [7, 3], [4, 8], [9], [], [11], [12, 8], [10, 13], [14], [], [16], [17, 13], [15, 18], [19, 18, 0, 1, 2, 3, 4, 5, 6, 7, 8, 9, 10, 11, 12, 13, 14, 15, 16, 17, 18, 19]])
  (.seq (.seq (.reg [⟨some 48, none, .fa (.s 2) 7, .none⟩,
       ⟨some 49, none, .fa (.s 48) 1, .none⟩,
       ⟨some 50, none, .ld (.s 49) 1 false, .none⟩,
       ⟨some 51, none, .bin .neq (.s 50) (.c (.d (.str []))), .none⟩])
   (.cond (.s 51)
    (.reg [⟨some 52, none, .mv (.s 5), .none⟩,
       ⟨some 53, none, .fa (.s 2) 7, .none⟩,
       ⟨some 54, none, .fa (.s 53) 1, .none⟩,
       ⟨some 55, none, .ld (.s 54) 1 false, .none⟩,
       ⟨some 56, none, .bin .add (.c (.d (.str [32]))) (.s 55), .none⟩,
       ⟨some 57, none, .bin .add (.s 52) (.s 56), .none⟩,
       ⟨some 5, none, .mv (.s 57), .none⟩])
    .skip))
  (.ann [2, 3, 5] (.seq (.seq (.reg [⟨some 58, none, .fa (.s 2) 7, .none⟩,
       ⟨some 59, none, .fa (.s 58) 2, .none⟩,
       ⟨some 60, none, .ld (.s 59) 1 false, .none⟩,
       ⟨some 61, none, .bin .neq (.s 60) (.c (.d (.str []))), .none⟩])
   (.cond (.s 61)
    (.reg [⟨some 62, none, .mv (.s 5), .none⟩,
       ⟨some 63, none, .fa (.s 2) 7, .none⟩,
       ⟨some 64, none, .fa (.s 63) 2, .none⟩,
       ⟨some 65, none, .ld (.s 64) 1 false, .none⟩,
       ⟨some 66, none, .bin .add (.c (.d (.str [32]))) (.s 65), .none⟩,
       ⟨some 67, none, .bin .add (.s 62) (.s 66), .none⟩,
       ⟨some 5, none, .mv (.s 67), .none⟩])
    .skip))
  (.ann [2, 3, 5] (.seq (.reg [⟨some 68, none, .mv (.s 5), .none⟩,
      ⟨some 69, none, .fa (.s 2) 7, .none⟩,
      ⟨some 70, none, .fa (.s 69) 3, .none⟩,
      ⟨some 71, none, .ld (.s 70) 1 false, .none⟩,
      ⟨some 72, none, .len (.s 71), .none⟩,
      ⟨some 73, none, .call 32 [.s 72] 2, .none⟩,
      ⟨some 74, none, .bin .add (.c (.d (.str [32]))) (.s 73), .none⟩,
      ⟨some 75, none, .bin .add (.s 74) (.c (.d (.str [32, 98, 121, 116, 101, 115]))), .none⟩,
      ⟨some 76, none, .bin .add (.s 68) (.s 75), .none⟩,
      ⟨some 5, none, .mv (.s 76), .none⟩])
  (.seq (.drw [⟨some 77, none, .fa (.s 3) 0, .none⟩,
      ⟨some 78, none, .ld (.s 77) 1 false, .none⟩,
      ⟨some 79, none, .call 32 [.s 78] 2, .none⟩,
      ⟨some 80, none, .bin .add (.s 79) (.c (.d (.str [32, 108, 105, 118, 101, 32]))), .none⟩,
      ⟨some 81, none, .fa (.s 3) 1, .none⟩,
      ⟨some 82, none, .ld (.s 81) 1 false, .none⟩,
      ⟨some 83, none, .call 32 [.s 82] 2, .none⟩,
      ⟨some 84, none, .bin .add (.s 80) (.s 83), .none⟩,
      ⟨some 85, none, .bin .add (.s 84) (.c (.d (.str [32, 100, 101, 97, 100, 32]))), .none⟩,
      ⟨some 86, none, .fa (.s 3) 2, .none⟩,
      ⟨some 87, none, .ld (.s 86) 1 false, .none⟩,
      ⟨some 88, none, .call 32 [.s 87] 2, .none⟩,
      ⟨some 89, none, .bin .add (.s 85) (.s 88), .none⟩,
      ⟨some 90, none, .bin .add (.s 89) (.c (.d (.str [32, 102, 114, 101, 101, 32]))), .none⟩,
      ⟨some 91, none, .fa (.s 3) 3, .none⟩,
      ⟨some 92, none, .ld (.s 91) 1 false, .none⟩,
      ⟨some 93, none, .call 32 [.s 92] 2, .none⟩,
      ⟨some 94, none, .bin .add (.s 90) (.s 93), .none⟩,
      ⟨some 6, none, .mv (.s 94), .none⟩]
     [[], [0], [1], [2], [], [4], [5, 2], [3, 6], [7], [], [9], [10, 6], [8, 11], [12], [], [14], [15, 11], [13, 16], [17, 16, 0, 1, 2, 3, 4, 5, 6, 7, 8, 9, 10, 11, 12, 13, 14, 15, 16, 17]])
  (.seq (.reg [⟨some 95, none, .ld (.s 2) 11 true, .none⟩,
      ⟨some 96, none, .call 37 [.s 95] 2, .none⟩,
      ⟨some 97, none, .mv (.s 5), .none⟩,
      ⟨some 98, none, .bin .eql (.s 96) (.s 97), .none⟩,
      ⟨some 99, none, .mv (.s 98), .none⟩,
      ⟨some 100, some (99, true), .ld (.s 3) 4 true, .none⟩,
      ⟨some 101, some (99, true), .call 38 [.s 100] 2, .none⟩,
      ⟨some 102, some (99, true), .mv (.s 6), .none⟩,
      ⟨some 103, some (99, true), .bin .eql (.s 101) (.s 102), .none⟩,
      ⟨some 104, none, .pick (.s 99) (.s 103) (.c (.d (.bool false))), .none⟩,
      ⟨some 4, none, .mv (.s 104), .none⟩])
  (.ret none))))))))))))
def ir8 : F := { n := 105, res := [.tmp 4], body := bd8 }
@[go_sem] theorem n8 : ir8.n = 105 := rfl
@[go_sem] theorem r8 : ir8.res = [.tmp 4] := rfl
@[go_sem] theorem b8 : ir8.body = bd8 := rfl
/-- spence/spencelaw44.awake -/
def bd31 : C :=
  (.seq (.reg [⟨some 0, none, .mv (.c (.d (.bool false))), .none⟩])
  (.seq (.reg [⟨some 1, none, .build [.int .i64 0, .int .i64 0, .str [], .str [], .int .i64 0, .int .u64 0, .int .i64 0, .int .i64 0] [(0, (1, .c (.d (.int .i64 7))))], .none⟩,
      ⟨some 2, none, .call 34 [.s 1] 2, .none⟩,
      ⟨some 3, none, .bin .eql (.s 2) (.c (.d (.str [115, 121, 110, 99]))), .none⟩,
      ⟨some 4, none, .mv (.s 3), .none⟩,
      ⟨some 5, some (4, true), .call 35 [.c (.d (.int .u8 5))] 2, .none⟩,
      ⟨some 6, some (4, true), .bin .eql (.s 5) (.c (.d (.str [112, 117, 114, 103, 101]))), .none⟩,
      ⟨some 7, none, .pick (.s 4) (.s 6) (.c (.d (.bool false))), .none⟩,
      ⟨some 0, none, .mv (.s 7), .none⟩])
  (.ret none)))
def ir31 : F := { n := 8, res := [.tmp 0], body := bd31 }
@[go_sem] theorem n31 : ir31.n = 8 := rfl
@[go_sem] theorem r31 : ir31.res = [.tmp 0] := rfl
@[go_sem] theorem b31 : ir31.body = bd31 := rfl
/-- spence/spenceref01.Print -/
def bd32 : C :=
  (.seq (.reg [⟨some 2, none, .mv (.c (.d (.str []))), .none⟩])
  (.seq (.seq (.reg [⟨some 4, none, .mv (.s 0), .none⟩,
       ⟨some 5, none, .bin .lss (.s 4) (.c (.d (.int .i64 0))), .none⟩])
   (.cond (.s 5)
    (.seq (.reg [⟨some 6, none, .mv (.s 0), .none⟩,
        ⟨some 7, none, .bin .add (.s 6) (.c (.d (.int .i64 1))), .none⟩,
        ⟨some 8, none, .un .neg (.s 7), .none⟩,
        ⟨some 9, none, .cvi .u64 (.s 8), .none⟩,
        ⟨some 10, none, .bin .add (.s 9) (.c (.d (.int .u64 1))), .none⟩,
        ⟨some 3, none, .mv (.s 10), .none⟩])
    (.seq (.reg [⟨some 11, none, .mv (.s 3), .none⟩,
        ⟨some 12, none, .call 55 [.s 11] 2, .none⟩,
        ⟨some 13, none, .bin .add (.c (.d (.str [45]))) (.s 12), .none⟩,
        ⟨some 2, none, .mv (.s 13), .none⟩])
    (.ret none)))
    .skip))
  (.seq (.reg [⟨some 14, none, .mv (.s 0), .none⟩,
      ⟨some 15, none, .cvi .u64 (.s 14), .none⟩,
      ⟨some 16, none, .call 55 [.s 15] 2, .none⟩,
      ⟨some 2, none, .mv (.s 16), .none⟩])
  (.ret none))))
def ir32 : F := { n := 17, res := [.tmp 2], body := bd32 }
@[go_sem] theorem n32 : ir32.n = 17 := rfl
@[go_sem] theorem r32 : ir32.res = [.tmp 2] := rfl
@[go_sem] theorem b32 : ir32.body = bd32 := rfl
def lb33_0 : C :=
  (.seq (.seq (.reg [⟨some 10, none, .mv (.s 0), .none⟩,
       ⟨some 11, none, .bin .geq (.s 10) (.c (.d (.int .u64 10))), .none⟩])
   (.cond (.s 11)
    .skip
    (.exit 0 (some [3]))))
  (.block 1 (.seq (.reg [⟨some 12, none, .mv (.s 0), .none⟩,
       ⟨some 13, none, .bin .quo (.s 12) (.c (.d (.int .u64 10))), .none⟩,
       ⟨some 0, none, .mv (.s 13), .none⟩])
   (.reg [⟨some 14, none, .mv (.s 0), .none⟩,
      ⟨some 15, none, .bin .rem (.s 14) (.c (.d (.int .u64 10))), .none⟩,
      ⟨some 16, none, .bin .add (.c (.d (.int .u64 48))) (.s 15), .none⟩,
      ⟨some 17, none, .cvi .u8 (.s 16), .none⟩,
      ⟨some 18, none, .bsl 5 1 1 [.int .u8 0] [(0, (1, .s 17))], .none⟩,
      ⟨some 19, none, .b2s (.s 18), .none⟩,
      ⟨some 20, none, .mv (.s 3), .none⟩,
      ⟨some 21, none, .bin .add (.s 19) (.s 20), .none⟩,
      ⟨some 3, none, .mv (.s 21), .none⟩]))))
def lp33_0 : C := lb33_0
theorem u33_0 (c : Ev.Callee) (l : Ev.Looper) (s : St) : evC c l lp33_0 s = evC c l lb33_0 s := rfl
abbrev st33_0 (m : Nat) (s0 s3 : AV) (h : Heap) : St := ⟨m, [s0, .unk, .unk, s3, .unk, .unk, .unk, .unk, .unk, .unk, .unk, .unk, .unk, .unk, .unk, .unk, .unk, .unk, .unk, .unk, .unk, .unk, .unk], h⟩
@[go_sem] theorem ks33_0 (v0 v1 v2 v3 v4 v5 v6 v7 v8 v9 v10 v11 v12 v13 v14 v15 v16 v17 v18 v19 v20 v21 v22 : AV) : keepS [0, 3] [v0, v1, v2, v3, v4, v5, v6, v7, v8, v9, v10, v11, v12, v13, v14, v15, v16, v17, v18, v19, v20, v21, v22] 0 = [v0, .unk, .unk, v3, .unk, .unk, .unk, .unk, .unk, .unk, .unk, .unk, .unk, .unk, .unk, .unk, .unk, .unk, .unk, .unk, .unk, .unk, .unk] := rfl
@[go_sem] theorem ks33_1 (v0 v1 v2 v3 v4 v5 v6 v7 v8 v9 v10 v11 v12 v13 v14 v15 v16 v17 v18 v19 v20 v21 v22 : AV) : keepS [3] [v0, v1, v2, v3, v4, v5, v6, v7, v8, v9, v10, v11, v12, v13, v14, v15, v16, v17, v18, v19, v20, v21, v22] 0 = [.unk, .unk, .unk, v3, .unk, .unk, .unk, .unk, .unk, .unk, .unk, .unk, .unk, .unk, .unk, .unk, .unk, .unk, .unk, .unk, .unk, .unk, .unk] := rfl
/-- spence/spencelaw44.large -/
def bd33 : C :=
  (.seq (.reg [⟨some 2, none, .mv (.c (.d (.str []))), .none⟩])
  (.seq (.reg [⟨some 4, none, .mv (.s 0), .none⟩,
      ⟨some 5, none, .bin .rem (.s 4) (.c (.d (.int .u64 10))), .none⟩,
      ⟨some 6, none, .bin .add (.c (.d (.int .u64 48))) (.s 5), .none⟩,
      ⟨some 7, none, .cvi .u8 (.s 6), .none⟩,
      ⟨some 8, none, .bsl 5 1 1 [.int .u8 0] [(0, (1, .s 7))], .none⟩,
      ⟨some 9, none, .b2s (.s 8), .none⟩,
      ⟨some 3, none, .mv (.s 9), .none⟩])
  (.seq (.block 0 (.loop [0, 3] lp33_0))
  (.seq (.reg [⟨some 22, none, .mv (.s 3), .none⟩,
      ⟨some 2, none, .mv (.s 22), .none⟩])
  (.ret none)))))
def ir33 : F := { n := 23, res := [.tmp 2], body := bd33 }
@[go_sem] theorem n33 : ir33.n = 23 := rfl
@[go_sem] theorem r33 : ir33.res = [.tmp 2] := rfl
@[go_sem] theorem b33 : ir33.body = bd33 := rfl
/-- spence/trace.Move -/
def bd34 : C :=
  (.seq (.reg [⟨some 1, none, .box 56 (.s 0), .none⟩,
      ⟨some 2, none, .mv (.c (.d (.str []))), .none⟩])
  (.seq (.seq (.reg [⟨some 6, none, .fa (.s 1) 0, .none⟩,
       ⟨some 7, none, .ld (.s 6) 1 false, .none⟩])
   (.block 0 (.seq (.reg [⟨some 9, none, .bin .eql (.s 7) (.c (.d (.int .i64 0))), .none⟩,
        ⟨some 8, none, .mv (.s 9), .none⟩])
    (.cond (.s 8)
     (.seq (.reg [⟨some 10, none, .fa (.s 1) 1, .none⟩,
         ⟨some 11, none, .fa (.s 10) 0, .none⟩,
         ⟨some 12, none, .ld (.s 11) 1 false, .none⟩,
         ⟨some 13, none, .call 56 [.s 12] 2, .none⟩,
         ⟨some 14, none, .bsl 9 1 2 [.str []] [(0, (1, .c (.d (.str [97, 115, 107])))), (1, (1, .s 13))], .none⟩,
         ⟨some 3, none, .alloc 57 [.nils], .cells [(0, 1, true)]⟩,
         ⟨none, none, .st (.s 3) (.s 14) 1, .none⟩])
     (.seq (.reg [⟨some 15, none, .fn (.func 57) [] [.s 3], .none⟩,
         ⟨some 4, none, .mv (.s 15), .none⟩])
     (.seq (.reg [⟨some 16, none, .mv (.s 4), .none⟩,
         ⟨some 17, none, .fa (.s 1) 1, .none⟩,
         ⟨some 18, none, .fa (.s 17) 1, .none⟩,
         ⟨some 19, none, .ld (.s 18) 1 false, .none⟩,
         ⟨some 20, none, .bsl 9 1 1 [.str []] [(0, (1, .s 19))], .none⟩,
         ⟨some 21, none, .callv (.s 16) [.s 20] 0, .none⟩])
     (.seq (.reg [⟨some 22, none, .mv (.s 4), .none⟩,
         ⟨some 23, none, .fa (.s 1) 1, .none⟩,
         ⟨some 24, none, .fa (.s 23) 2, .none⟩,
         ⟨some 25, none, .ld (.s 24) 1 false, .none⟩,
         ⟨some 26, none, .bsl 9 1 2 [.str []] [(0, (1, .c (.d (.str [105, 102])))), (1, (1, .s 25))], .none⟩,
         ⟨some 27, none, .callv (.s 22) [.s 26] 0, .none⟩])
     (.seq (.reg [⟨some 28, none, .ld (.s 3) 1 false, .none⟩,
         ⟨some 29, none, .call 58 [.s 28] 2, .none⟩,
         ⟨some 2, none, .mv (.s 29), .none⟩])
     (.ret none))))))
     (.seq (.reg [⟨some 31, none, .bin .eql (.s 7) (.c (.d (.int .i64 6))), .none⟩,
         ⟨some 30, none, .mv (.s 31), .none⟩])
     (.cond (.s 30)
      (.seq (.drw [⟨some 32, none, .fa (.s 1) 5, .none⟩,
          ⟨some 33, none, .fa (.s 32) 0, .none⟩,
          ⟨some 34, none, .ld (.s 33) 1 false, .none⟩,
          ⟨some 35, none, .call 59 [.s 34] 2, .none⟩,
          ⟨some 36, none, .fa (.s 1) 5, .none⟩,
          ⟨some 37, none, .fa (.s 36) 1, .none⟩,
          ⟨some 38, none, .ld (.s 37) 1 false, .none⟩,
          ⟨some 39, none, .call 56 [.s 38] 2, .none⟩,
          ⟨some 40, none, .fa (.s 1) 5, .none⟩,
          ⟨some 41, none, .fa (.s 40) 2, .none⟩,
          ⟨some 42, none, .ld (.s 41) 1 false, .none⟩,
          ⟨some 43, none, .call 56 [.s 42] 2, .none⟩,
          ⟨some 44, none, .bsl 9 1 4 [.str []] [(0, (1, .c (.d (.str [99, 114, 97, 115, 104])))), (1, (1, .s 35)), (2, (1, .s 39)), (3, (1, .s 43))], .none⟩,
          ⟨some 45, none, .call 58 [.s 44] 2, .none⟩,
          ⟨some 2, none, .mv (.s 45), .none⟩]
         [[], [0], [1], [2], [], [4], [5], [6, 3], [], [8], [9], [10, 7], [3, 7, 11], [12, 11], [13, 13, 0, 1, 2, 3, 4, 5, 6, 7, 8, 9, 10, 11, 12, 13]])
      (.ret none))
      (.seq (.reg [⟨some 47, none, .bin .eql (.s 7) (.c (.d (.int .i64 7))), .none⟩,
          ⟨some 46, none, .mv (.s 47), .none⟩])
      (.cond (.s 46)
       (.seq (.reg [⟨some 2, none, .mv (.c (.d (.str [115, 121, 110, 99]))), .none⟩])
       (.ret none))
       .skip))))))))
  (.seq (.seq (.reg [⟨some 48, none, .fa (.s 1) 0, .none⟩,
       ⟨some 49, none, .ld (.s 48) 1 false, .none⟩,
       ⟨some 50, none, .call 60 [.s 49] 2, .none⟩,
       ⟨some 5, none, .mv (.s 50), .none⟩])
   (.seq (.reg [⟨some 51, none, .mv (.s 5), .none⟩,
       ⟨some 52, none, .bin .neq (.s 51) (.c (.d (.str []))), .none⟩])
   (.cond (.s 52)
    (.seq (.reg [⟨some 53, none, .mv (.s 5), .none⟩,
        ⟨some 54, none, .fa (.s 1) 4, .none⟩,
        ⟨some 55, none, .ld (.s 54) 1 false, .none⟩,
        ⟨some 56, none, .call 56 [.s 55] 2, .none⟩,
        ⟨some 57, none, .bsl 9 1 2 [.str []] [(0, (1, .s 53)), (1, (1, .s 56))], .none⟩,
        ⟨some 58, none, .call 58 [.s 57] 0, .none⟩,
        ⟨some 2, none, .mv (.s 58), .none⟩])
    (.ret none))
    .skip)))
  (.seq (.reg [⟨some 2, none, .mv (.c (.d (.str [63]))), .none⟩])
  (.ret none)))))
def ir34 : F := { n := 59, res := [.tmp 2], body := bd34 }
@[go_sem] theorem n34 : ir34.n = 59 := rfl
@[go_sem] theorem r34 : ir34.res = [.tmp 2] := rfl
@[go_sem] theorem b34 : ir34.body = bd34 := rfl
/-- spence/trace.Kind -/
def bd35 : C :=
  (.seq (.reg [⟨some 2, none, .mv (.c (.d (.str []))), .none⟩])
  (.seq (.reg [⟨some 4, none, .build [.str [], .str [], .str [], .str [], .str [], .str []] [(0, (1, .c (.d (.str [])))), (1, (1, .c (.d (.str [104, 101, 97, 100])))), (2, (1, .c (.d (.str [98, 105, 110, 100])))), (3, (1, .c (.d (.str [112, 105, 101, 99, 101])))), (4, (1, .c (.d (.str [100, 114, 111, 112])))), (5, (1, .c (.d (.str [112, 117, 114, 103, 101]))))], .none⟩,
      ⟨some 3, none, .alloc 106 [.str [], .str [], .str [], .str [], .str [], .str []], .none⟩,
      ⟨none, none, .st (.s 3) (.s 4) 6, .none⟩])
  (.seq (.seq (.reg [⟨some 5, none, .mv (.s 0), .none⟩,
       ⟨some 6, none, .cvi .i64 (.s 5), .none⟩,
       ⟨some 7, none, .bin .geq (.s 6) (.c (.d (.int .i64 6))), .none⟩])
   (.cond (.s 7)
    (.seq (.reg [⟨some 2, none, .mv (.c (.d (.str []))), .none⟩])
    (.ret none))
    .skip))
  (.seq (.reg [⟨some 8, none, .mv (.s 0), .none⟩,
      ⟨some 9, none, .ia (.s 3) (.s 8) 6 1, .none⟩,
      ⟨some 10, none, .ld (.s 9) 1 false, .none⟩,
      ⟨some 2, none, .mv (.s 10), .none⟩])
  (.ret none)))))
def ir35 : F := { n := 11, res := [.tmp 2], body := bd35 }
@[go_sem] theorem n35 : ir35.n = 11 := rfl
@[go_sem] theorem r35 : ir35.res = [.tmp 2] := rfl
@[go_sem] theorem b35 : ir35.body = bd35 := rfl
/-- spence/trace.Phase -/
def bd36 : C :=
  (.seq (.reg [⟨some 2, none, .mv (.c (.d (.str []))), .none⟩])
  (.seq (.reg [⟨some 4, none, .build [.str [], .str [], .str [], .str [], .str []] [(0, (1, .c (.d (.str [97, 115, 107, 105, 110, 103])))), (1, (1, .c (.d (.str [112, 108, 97, 110, 110, 105, 110, 103])))), (2, (1, .c (.d (.str [102, 101, 116, 99, 104, 105, 110, 103])))), (3, (1, .c (.d (.str [101, 110, 100, 105, 110, 103])))), (4, (1, .c (.d (.str [111, 118, 101, 114]))))], .none⟩,
      ⟨some 3, none, .alloc 107 [.str [], .str [], .str [], .str [], .str []], .none⟩,
      ⟨none, none, .st (.s 3) (.s 4) 5, .none⟩])
  (.seq (.seq (.reg [⟨some 5, none, .mv (.s 0), .none⟩,
       ⟨some 6, none, .bin .lss (.s 5) (.c (.d (.int .i64 0))), .none⟩,
       ⟨some 7, none, .mv (.s 6), .none⟩,
       ⟨some 8, some (7, false), .mv (.s 0), .none⟩,
       ⟨some 9, some (7, false), .bin .geq (.s 8) (.c (.d (.int .i64 5))), .none⟩,
       ⟨some 10, none, .pick (.s 7) (.c (.d (.bool true))) (.s 9), .none⟩])
   (.cond (.s 10)
    (.seq (.reg [⟨some 2, none, .mv (.c (.d (.str []))), .none⟩])
    (.ret none))
    .skip))
  (.seq (.reg [⟨some 11, none, .mv (.s 0), .none⟩,
      ⟨some 12, none, .ia (.s 3) (.s 11) 5 1, .none⟩,
      ⟨some 13, none, .ld (.s 12) 1 false, .none⟩,
      ⟨some 2, none, .mv (.s 13), .none⟩])
  (.ret none)))))
def ir36 : F := { n := 14, res := [.tmp 2], body := bd36 }
@[go_sem] theorem n36 : ir36.n = 14 := rfl
@[go_sem] theorem r36 : ir36.res = [.tmp 2] := rfl
@[go_sem] theorem b36 : ir36.body = bd36 := rfl
def lb37_0 : C :=
  (.seq (.reg [⟨some 30, none, .bin .lss (.s 29) (.s 28), .none⟩])
  (.seq (.cond (.s 30)
    .skip
    (.exit 0 (some [1, 3])))
  (.seq (.block 1 (.seq (.reg [⟨some 31, none, .is (.s 27) (.s 29) 1, .none⟩,
        ⟨some 32, none, .ld (.s 31) 1 false, .none⟩,
        ⟨some 5, none, .mv (.s 32), .none⟩])
    (.seq (.reg [⟨some 33, none, .mv (.s 5), .none⟩,
        ⟨some 34, none, .bin .neq (.s 33) (.c (.d (.str []))), .none⟩])
    (.cond (.s 34)
     (.reg [⟨some 35, none, .mv (.s 3), .none⟩,
        ⟨some 36, none, .mv (.s 5), .none⟩,
        ⟨some 37, none, .bsl 9 1 1 [.str []] [(0, (1, .s 36))], .none⟩,
        ⟨some 38, none, .app 9 1 16 (.s 35) (.s 37), .none⟩,
        ⟨some 3, none, .mv (.s 38), .none⟩])
     .skip))))
  (.reg [⟨some 39, none, .bin .add (.s 29) (.c (.d (.int .i64 1))), .none⟩,
     ⟨some 29, none, .mv (.s 39), .none⟩]))))
def lp37_0 : C := lb37_0
theorem u37_0 (c : Ev.Callee) (l : Ev.Looper) (s : St) : evC c l lp37_0 s = evC c l lb37_0 s := rfl
abbrev st37_0 (m : Nat) (s1 s3 s27 s28 s29 : AV) (h : Heap) : St := ⟨m, [.unk, s1, .unk, s3, .unk, .unk, .unk, .unk, .unk, .unk, .unk, .unk, .unk, .unk, .unk, .unk, .unk, .unk, .unk, .unk, .unk, .unk, .unk, .unk, .unk, .unk, .unk, s27, s28, s29, .unk, .unk, .unk, .unk, .unk, .unk, .unk, .unk, .unk, .unk, .unk, .unk, .unk, .unk, .unk, .unk, .unk, .unk, .unk], h⟩
@[go_sem] theorem ks37_0 (v0 v1 v2 v3 v4 v5 v6 v7 v8 v9 v10 v11 v12 v13 v14 v15 v16 v17 v18 v19 v20 v21 v22 v23 v24 v25 v26 v27 v28 v29 v30 v31 v32 v33 v34 v35 v36 v37 v38 v39 v40 v41 v42 v43 v44 v45 v46 v47 v48 : AV) : keepS [1, 3, 27, 28, 29] [v0, v1, v2, v3, v4, v5, v6, v7, v8, v9, v10, v11, v12, v13, v14, v15, v16, v17, v18, v19, v20, v21, v22, v23, v24, v25, v26, v27, v28, v29, v30, v31, v32, v33, v34, v35, v36, v37, v38, v39, v40, v41, v42, v43, v44, v45, v46, v47, v48] 0 = [.unk, v1, .unk, v3, .unk, .unk, .unk, .unk, .unk, .unk, .unk, .unk, .unk, .unk, .unk, .unk, .unk, .unk, .unk, .unk, .unk, .unk, .unk, .unk, .unk, .unk, .unk, v27, v28, v29, .unk, .unk, .unk, .unk, .unk, .unk, .unk, .unk, .unk, .unk, .unk, .unk, .unk, .unk, .unk, .unk, .unk, .unk, .unk] := rfl
@[go_sem] theorem ks37_1 (v0 v1 v2 v3 v4 v5 v6 v7 v8 v9 v10 v11 v12 v13 v14 v15 v16 v17 v18 v19 v20 v21 v22 v23 v24 v25 v26 v27 v28 v29 v30 v31 v32 v33 v34 v35 v36 v37 v38 v39 v40 v41 v42 v43 v44 v45 v46 v47 v48 : AV) : keepS [1, 3] [v0, v1, v2, v3, v4, v5, v6, v7, v8, v9, v10, v11, v12, v13, v14, v15, v16, v17, v18, v19, v20, v21, v22, v23, v24, v25, v26, v27, v28, v29, v30, v31, v32, v33, v34, v35, v36, v37, v38, v39, v40, v41, v42, v43, v44, v45, v46, v47, v48] 0 = [.unk, v1, .unk, v3, .unk, .unk, .unk, .unk, .unk, .unk, .unk, .unk, .unk, .unk, .unk, .unk, .unk, .unk, .unk, .unk, .unk, .unk, .unk, .unk, .unk, .unk, .unk, .unk, .unk, .unk, .unk, .unk, .unk, .unk, .unk, .unk, .unk, .unk, .unk, .unk, .unk, .unk, .unk, .unk, .unk, .unk, .unk, .unk, .unk] := rfl
/-- spence/trace.Done -/
def bd37 : C :=
  (.seq (.reg [⟨some 1, none, .box 67 (.s 0), .none⟩,
      ⟨some 2, none, .mv (.c (.d (.str []))), .none⟩])
  (.seq (.drw [⟨some 6, none, .fa (.s 1) 0, .none⟩,
      ⟨some 7, none, .fa (.s 6) 0, .none⟩,
      ⟨some 8, none, .ld (.s 7) 1 false, .none⟩,
      ⟨some 9, none, .call 56 [.s 8] 2, .none⟩,
      ⟨some 10, none, .fa (.s 1) 7, .none⟩,
      ⟨some 11, none, .fa (.s 10) 0, .none⟩,
      ⟨some 12, none, .ld (.s 11) 1 false, .none⟩,
      ⟨some 13, none, .call 56 [.s 12] 2, .none⟩,
      ⟨some 14, none, .fa (.s 1) 5, .none⟩,
      ⟨some 15, none, .ld (.s 14) 1 false, .none⟩,
      ⟨some 16, none, .call 56 [.s 15] 2, .none⟩,
      ⟨some 17, none, .fa (.s 1) 6, .none⟩,
      ⟨some 18, none, .ld (.s 17) 1 false, .none⟩,
      ⟨some 19, none, .call 56 [.s 18] 2, .none⟩,
      ⟨some 20, none, .bsl 9 1 6 [.str []] [(0, (1, .s 9)), (1, (1, .s 13)), (2, (1, .c (.d (.str [102, 114, 111, 109])))), (3, (1, .s 16)), (4, (1, .c (.d (.str [116, 111])))), (5, (1, .s 19))], .none⟩,
      ⟨some 3, none, .mv (.s 20), .none⟩]
     [[], [0], [1], [2], [], [4], [5], [6, 3], [], [8], [9, 7], [], [11], [12, 10], [3, 7, 10, 13], [14, 13, 0, 1, 2, 3, 4, 5, 6, 7, 8, 9, 10, 11, 12, 13, 14]])
  (.seq (.seq (.reg [⟨some 21, none, .fa (.s 1) 7, .none⟩,
       ⟨some 22, none, .fa (.s 21) 1, .none⟩,
       ⟨some 23, none, .ld (.s 22) 1 false, .none⟩,
       ⟨some 24, none, .fa (.s 1) 7, .none⟩,
       ⟨some 25, none, .fa (.s 24) 2, .none⟩,
       ⟨some 26, none, .ld (.s 25) 1 false, .none⟩,
       ⟨some 27, none, .bsl 9 1 2 [.str []] [(0, (1, .s 23)), (1, (1, .s 26))], .none⟩,
       ⟨some 28, none, .len (.s 27), .none⟩,
       ⟨some 29, none, .mv (.c (.d (.int .i64 0))), .none⟩])
   (.block 0 (.loop [1, 3, 27, 28, 29] lp37_0)))
  (.seq (.reg [⟨some 40, none, .mv (.s 3), .none⟩,
      ⟨some 41, none, .fa (.s 1) 7, .none⟩,
      ⟨some 42, none, .fa (.s 41) 3, .none⟩,
      ⟨some 43, none, .ld (.s 42) 1 false, .none⟩,
      ⟨some 44, none, .len (.s 43), .none⟩,
      ⟨some 45, none, .call 56 [.s 44] 2, .none⟩,
      ⟨some 46, none, .bsl 9 1 2 [.str []] [(0, (1, .s 45)), (1, (1, .c (.d (.str [98, 121, 116, 101, 115]))))], .none⟩,
      ⟨some 47, none, .app 9 1 16 (.s 40) (.s 46), .none⟩,
      ⟨some 48, none, .call 58 [.s 47] 0, .none⟩,
      ⟨some 2, none, .mv (.s 48), .none⟩])
  (.ret none)))))
def ir37 : F := { n := 49, res := [.tmp 2], body := bd37 }
@[go_sem] theorem n37 : ir37.n = 49 := rfl
@[go_sem] theorem r37 : ir37.res = [.tmp 2] := rfl
@[go_sem] theorem b37 : ir37.body = bd37 := rfl
/-- spence/trace.Use -/
def bd38 : C :=
  (.seq (.reg [⟨some 1, none, .box 69 (.s 0), .none⟩,
      ⟨some 2, none, .mv (.c (.d (.str []))), .none⟩])
  (.seq (.drw [⟨some 3, none, .fa (.s 1) 0, .none⟩,
      ⟨some 4, none, .ld (.s 3) 1 false, .none⟩,
      ⟨some 5, none, .call 56 [.s 4] 2, .none⟩,
      ⟨some 6, none, .fa (.s 1) 1, .none⟩,
      ⟨some 7, none, .ld (.s 6) 1 false, .none⟩,
      ⟨some 8, none, .call 56 [.s 7] 2, .none⟩,
      ⟨some 9, none, .fa (.s 1) 2, .none⟩,
      ⟨some 10, none, .ld (.s 9) 1 false, .none⟩,
      ⟨some 11, none, .call 56 [.s 10] 2, .none⟩,
      ⟨some 12, none, .fa (.s 1) 3, .none⟩,
      ⟨some 13, none, .ld (.s 12) 1 false, .none⟩,
      ⟨some 14, none, .call 56 [.s 13] 2, .none⟩,
      ⟨some 15, none, .bsl 9 1 7 [.str []] [(0, (1, .s 5)), (1, (1, .c (.d (.str [108, 105, 118, 101])))), (2, (1, .s 8)), (3, (1, .c (.d (.str [100, 101, 97, 100])))), (4, (1, .s 11)), (5, (1, .c (.d (.str [102, 114, 101, 101])))), (6, (1, .s 14))], .none⟩,
      ⟨some 16, none, .call 58 [.s 15] 2, .none⟩,
      ⟨some 2, none, .mv (.s 16), .none⟩]
     [[], [0], [1], [], [3], [4, 2], [], [6], [7, 5], [], [9], [10, 8], [2, 5, 8, 11], [12, 11], [13, 13, 0, 1, 2, 3, 4, 5, 6, 7, 8, 9, 10, 11, 12, 13]])
  (.ret none)))
def ir38 : F := { n := 17, res := [.tmp 2], body := bd38 }
@[go_sem] theorem n38 : ir38.n = 17 := rfl
@[go_sem] theorem r38 : ir38.res = [.tmp 2] := rfl
@[go_sem] theorem b38 : ir38.body = bd38 := rfl
def lb55_0 : C :=
  (.seq (.seq (.reg [⟨some 10, none, .mv (.s 0), .none⟩,
       ⟨some 11, none, .bin .geq (.s 10) (.c (.d (.int .u64 10))), .none⟩])
   (.cond (.s 11)
    .skip
    (.exit 0 (some [3]))))
  (.block 1 (.seq (.reg [⟨some 12, none, .mv (.s 0), .none⟩,
       ⟨some 13, none, .bin .quo (.s 12) (.c (.d (.int .u64 10))), .none⟩,
       ⟨some 0, none, .mv (.s 13), .none⟩])
   (.reg [⟨some 14, none, .mv (.s 0), .none⟩,
      ⟨some 15, none, .bin .rem (.s 14) (.c (.d (.int .u64 10))), .none⟩,
      ⟨some 16, none, .bin .add (.c (.d (.int .u64 48))) (.s 15), .none⟩,
      ⟨some 17, none, .cvi .u8 (.s 16), .none⟩,
      ⟨some 18, none, .bsl 5 1 1 [.int .u8 0] [(0, (1, .s 17))], .none⟩,
      ⟨some 19, none, .b2s (.s 18), .none⟩,
      ⟨some 20, none, .mv (.s 3), .none⟩,
      ⟨some 21, none, .bin .add (.s 19) (.s 20), .none⟩,
      ⟨some 3, none, .mv (.s 21), .none⟩]))))
def lp55_0 : C := lb55_0
theorem u55_0 (c : Ev.Callee) (l : Ev.Looper) (s : St) : evC c l lp55_0 s = evC c l lb55_0 s := rfl
abbrev st55_0 (m : Nat) (s0 s3 : AV) (h : Heap) : St := ⟨m, [s0, .unk, .unk, s3, .unk, .unk, .unk, .unk, .unk, .unk, .unk, .unk, .unk, .unk, .unk, .unk, .unk, .unk, .unk, .unk, .unk, .unk, .unk], h⟩
@[go_sem] theorem ks55_0 (v0 v1 v2 v3 v4 v5 v6 v7 v8 v9 v10 v11 v12 v13 v14 v15 v16 v17 v18 v19 v20 v21 v22 : AV) : keepS [0, 3] [v0, v1, v2, v3, v4, v5, v6, v7, v8, v9, v10, v11, v12, v13, v14, v15, v16, v17, v18, v19, v20, v21, v22] 0 = [v0, .unk, .unk, v3, .unk, .unk, .unk, .unk, .unk, .unk, .unk, .unk, .unk, .unk, .unk, .unk, .unk, .unk, .unk, .unk, .unk, .unk, .unk] := rfl
@[go_sem] theorem ks55_1 (v0 v1 v2 v3 v4 v5 v6 v7 v8 v9 v10 v11 v12 v13 v14 v15 v16 v17 v18 v19 v20 v21 v22 : AV) : keepS [3] [v0, v1, v2, v3, v4, v5, v6, v7, v8, v9, v10, v11, v12, v13, v14, v15, v16, v17, v18, v19, v20, v21, v22] 0 = [.unk, .unk, .unk, v3, .unk, .unk, .unk, .unk, .unk, .unk, .unk, .unk, .unk, .unk, .unk, .unk, .unk, .unk, .unk, .unk, .unk, .unk, .unk] := rfl
/-- spence/spenceref01.digits -/
def bd55 : C :=
  (.seq (.reg [⟨some 2, none, .mv (.c (.d (.str []))), .none⟩])
  (.seq (.reg [⟨some 4, none, .mv (.s 0), .none⟩,
      ⟨some 5, none, .bin .rem (.s 4) (.c (.d (.int .u64 10))), .none⟩,
      ⟨some 6, none, .bin .add (.c (.d (.int .u64 48))) (.s 5), .none⟩,
      ⟨some 7, none, .cvi .u8 (.s 6), .none⟩,
      ⟨some 8, none, .bsl 5 1 1 [.int .u8 0] [(0, (1, .s 7))], .none⟩,
      ⟨some 9, none, .b2s (.s 8), .none⟩,
      ⟨some 3, none, .mv (.s 9), .none⟩])
  (.seq (.block 0 (.loop [0, 3] lp55_0))
  (.seq (.reg [⟨some 22, none, .mv (.s 3), .none⟩,
      ⟨some 2, none, .mv (.s 22), .none⟩])
  (.ret none)))))
def ir55 : F := { n := 23, res := [.tmp 2], body := bd55 }
@[go_sem] theorem n55 : ir55.n = 23 := rfl
@[go_sem] theorem r55 : ir55.res = [.tmp 2] := rfl
@[go_sem] theorem b55 : ir55.body = bd55 := rfl
def lb56_0 : C :=
  (.block 1 (.seq (.reg [⟨some 12, none, .mv (.s 5), .none⟩,
       ⟨some 13, none, .mv (.s 3), .none⟩,
       ⟨some 14, none, .bin .rem (.s 13) (.c (.d (.int .u64 10))), .none⟩,
       ⟨some 15, none, .bin .add (.c (.d (.int .u64 48))) (.s 14), .none⟩,
       ⟨some 16, none, .cvi .u8 (.s 15), .none⟩,
       ⟨some 17, none, .bsl 5 1 1 [.int .u8 0] [(0, (1, .s 16))], .none⟩,
       ⟨some 18, none, .app 5 1 1 (.s 12) (.s 17), .none⟩,
       ⟨some 5, none, .mv (.s 18), .none⟩])
   (.seq (.reg [⟨some 19, none, .mv (.s 3), .none⟩,
       ⟨some 20, none, .bin .quo (.s 19) (.c (.d (.int .u64 10))), .none⟩,
       ⟨some 3, none, .mv (.s 20), .none⟩])
   (.seq (.reg [⟨some 21, none, .mv (.s 3), .none⟩,
       ⟨some 22, none, .bin .eql (.s 21) (.c (.d (.int .u64 0))), .none⟩])
   (.cond (.s 22)
    (.exit 0 (some [4, 5]))
    .skip)))))
def lp56_0 : C := lb56_0
theorem u56_0 (c : Ev.Callee) (l : Ev.Looper) (s : St) : evC c l lp56_0 s = evC c l lb56_0 s := rfl
abbrev st56_0 (m : Nat) (s3 s4 s5 : AV) (h : Heap) : St := ⟨m, [.unk, .unk, .unk, s3, s4, s5, .unk, .unk, .unk, .unk, .unk, .unk, .unk, .unk, .unk, .unk, .unk, .unk, .unk, .unk, .unk, .unk, .unk, .unk, .unk, .unk, .unk, .unk, .unk], h⟩
@[go_sem] theorem ks56_0 (v0 v1 v2 v3 v4 v5 v6 v7 v8 v9 v10 v11 v12 v13 v14 v15 v16 v17 v18 v19 v20 v21 v22 v23 v24 v25 v26 v27 v28 : AV) : keepS [3, 4] [v0, v1, v2, v3, v4, v5, v6, v7, v8, v9, v10, v11, v12, v13, v14, v15, v16, v17, v18, v19, v20, v21, v22, v23, v24, v25, v26, v27, v28] 0 = [.unk, .unk, .unk, v3, v4, .unk, .unk, .unk, .unk, .unk, .unk, .unk, .unk, .unk, .unk, .unk, .unk, .unk, .unk, .unk, .unk, .unk, .unk, .unk, .unk, .unk, .unk, .unk, .unk] := rfl
@[go_sem] theorem ks56_1 (v0 v1 v2 v3 v4 v5 v6 v7 v8 v9 v10 v11 v12 v13 v14 v15 v16 v17 v18 v19 v20 v21 v22 v23 v24 v25 v26 v27 v28 : AV) : keepS [3, 4, 5] [v0, v1, v2, v3, v4, v5, v6, v7, v8, v9, v10, v11, v12, v13, v14, v15, v16, v17, v18, v19, v20, v21, v22, v23, v24, v25, v26, v27, v28] 0 = [.unk, .unk, .unk, v3, v4, v5, .unk, .unk, .unk, .unk, .unk, .unk, .unk, .unk, .unk, .unk, .unk, .unk, .unk, .unk, .unk, .unk, .unk, .unk, .unk, .unk, .unk, .unk, .unk] := rfl
@[go_sem] theorem ks56_2 (v0 v1 v2 v3 v4 v5 v6 v7 v8 v9 v10 v11 v12 v13 v14 v15 v16 v17 v18 v19 v20 v21 v22 v23 v24 v25 v26 v27 v28 : AV) : keepS [4, 5] [v0, v1, v2, v3, v4, v5, v6, v7, v8, v9, v10, v11, v12, v13, v14, v15, v16, v17, v18, v19, v20, v21, v22, v23, v24, v25, v26, v27, v28] 0 = [.unk, .unk, .unk, .unk, v4, v5, .unk, .unk, .unk, .unk, .unk, .unk, .unk, .unk, .unk, .unk, .unk, .unk, .unk, .unk, .unk, .unk, .unk, .unk, .unk, .unk, .unk, .unk, .unk] := rfl
/-- spence/nums.Print -/
def bd56 : C :=
  (.seq (.reg [⟨some 2, none, .mv (.c (.d (.str []))), .none⟩])
  (.seq (.reg [⟨some 6, none, .mv (.s 0), .none⟩,
      ⟨some 7, none, .cvi .u64 (.s 6), .none⟩,
      ⟨some 3, none, .mv (.s 7), .none⟩,
      ⟨some 4, none, .mv (.c (.d (.str []))), .none⟩])
  (.seq (.seq (.reg [⟨some 8, none, .mv (.s 0), .none⟩,
       ⟨some 9, none, .bin .lss (.s 8) (.c (.d (.int .i64 0))), .none⟩])
   (.cond (.s 9)
    (.reg [⟨some 10, none, .mv (.s 3), .none⟩,
       ⟨some 11, none, .un .neg (.s 10), .none⟩,
       ⟨some 3, none, .mv (.s 11), .none⟩,
       ⟨some 4, none, .mv (.c (.d (.str [45]))), .none⟩])
    .skip))
  (.ann [3, 4] (.seq (.reg [⟨some 5, none, .mv (.c (.d .nils)), .one 1 true⟩])
  (.seq (.block 0 (.loop [3, 4, 5] lp56_0))
  (.seq (.reg [⟨some 23, none, .mv (.s 5), .none⟩,
      ⟨some 24, none, .call 83 [.s 23] 1, .none⟩])
  (.seq (.reg [⟨some 25, none, .mv (.s 4), .none⟩,
      ⟨some 26, none, .mv (.s 5), .none⟩,
      ⟨some 27, none, .b2s (.s 26), .none⟩,
      ⟨some 28, none, .bin .add (.s 25) (.s 27), .none⟩,
      ⟨some 2, none, .mv (.s 28), .none⟩])
  (.ret none)))))))))
def ir56 : F := { n := 29, res := [.tmp 2], body := bd56 }
@[go_sem] theorem n56 : ir56.n = 29 := rfl
@[go_sem] theorem r56 : ir56.res = [.tmp 2] := rfl
@[go_sem] theorem b56 : ir56.body = bd56 := rfl
/-- spence/trace.Move$1 -/
def bd57 : C :=
  (.seq (.reg [⟨some 3, none, .mv (.s 0), .none⟩,
      ⟨some 4, none, .mv (.s 0), .none⟩,
      ⟨some 5, none, .len (.s 4), .none⟩,
      ⟨some 6, none, .bin .sub (.s 5) (.c (.d (.int .i64 1))), .none⟩,
      ⟨some 7, none, .is (.s 3) (.s 6) 1, .none⟩,
      ⟨some 8, none, .ld (.s 7) 1 false, .none⟩,
      ⟨some 9, none, .bin .neq (.s 8) (.c (.d (.str []))), .none⟩])
  (.cond (.s 9)
   (.reg [⟨some 10, none, .ld (.s 1) 1 false, .none⟩,
      ⟨some 11, none, .mv (.s 0), .none⟩,
      ⟨some 12, none, .app 9 1 16 (.s 10) (.s 11), .none⟩,
      ⟨none, none, .st (.s 1) (.s 12) 1, .none⟩])
   .skip))
def ir57 : F := { n := 13, res := [], body := bd57 }
@[go_sem] theorem n57 : ir57.n = 13 := rfl
@[go_sem] theorem r57 : ir57.res = [] := rfl
@[go_sem] theorem b57 : ir57.body = bd57 := rfl
/-- spence/trace.joined -/
def bd58 : C :=
  (.seq (.reg [⟨some 2, none, .mv (.c (.d (.str []))), .none⟩])
  (.seq (.reg [⟨some 3, none, .mv (.s 0), .none⟩,
      ⟨some 4, none, .call 84 [.s 3, .c (.d (.str [32]))] 2, .none⟩,
      ⟨some 2, none, .mv (.s 4), .none⟩])
  (.ret none)))
def ir58 : F := { n := 5, res := [.tmp 2], body := bd58 }
@[go_sem] theorem n58 : ir58.n = 5 := rfl
@[go_sem] theorem r58 : ir58.res = [.tmp 2] := rfl
@[go_sem] theorem b58 : ir58.body = bd58 := rfl
/-- spence/trace.large -/
def bd59 : C :=
  (.seq (.reg [⟨some 2, none, .mv (.c (.d (.str []))), .none⟩])
  (.seq (.seq (.reg [⟨some 3, none, .mv (.s 0), .none⟩,
       ⟨some 4, none, .bin .lss (.s 3) (.c (.d (.int .u64 10))), .none⟩])
   (.cond (.s 4)
    (.seq (.reg [⟨some 5, none, .mv (.s 0), .none⟩,
        ⟨some 6, none, .cvi .i64 (.s 5), .none⟩,
        ⟨some 7, none, .call 56 [.s 6] 2, .none⟩,
        ⟨some 2, none, .mv (.s 7), .none⟩])
    (.ret none))
    .skip))
  (.seq (.reg [⟨some 8, none, .mv (.s 0), .none⟩,
      ⟨some 9, none, .bin .quo (.s 8) (.c (.d (.int .u64 10))), .none⟩,
      ⟨some 10, none, .cvi .i64 (.s 9), .none⟩,
      ⟨some 11, none, .call 56 [.s 10] 2, .none⟩,
      ⟨some 12, none, .mv (.s 0), .none⟩,
      ⟨some 13, none, .bin .rem (.s 12) (.c (.d (.int .u64 10))), .none⟩,
      ⟨some 14, none, .cvi .i64 (.s 13), .none⟩,
      ⟨some 15, none, .call 56 [.s 14] 2, .none⟩,
      ⟨some 16, none, .bin .add (.s 11) (.s 15), .none⟩,
      ⟨some 2, none, .mv (.s 16), .none⟩])
  (.ret none))))
def ir59 : F := { n := 17, res := [.tmp 2], body := bd59 }
@[go_sem] theorem n59 : ir59.n = 17 := rfl
@[go_sem] theorem r59 : ir59.res = [.tmp 2] := rfl
@[go_sem] theorem b59 : ir59.body = bd59 := rfl
/-- spence/trace.word -/
def bd60 : C :=
  (.seq (.reg [⟨some 2, none, .mv (.c (.d (.str []))), .none⟩])
  (.seq (.seq (.reg [⟨some 3, none, .mv (.s 0), .none⟩])
   (.block 0 (.seq (.reg [⟨some 5, none, .bin .eql (.s 3) (.c (.d (.int .i64 1))), .none⟩,
        ⟨some 4, none, .mv (.s 5), .none⟩])
    (.cond (.s 4)
     (.seq (.reg [⟨some 2, none, .mv (.c (.d (.str [115, 116, 101, 112]))), .none⟩])
     (.ret none))
     (.seq (.reg [⟨some 7, none, .bin .eql (.s 3) (.c (.d (.int .i64 2))), .none⟩,
         ⟨some 6, none, .mv (.s 7), .none⟩])
     (.cond (.s 6)
      (.seq (.reg [⟨some 2, none, .mv (.c (.d (.str [116, 105, 99, 107]))), .none⟩])
      (.ret none))
      (.seq (.reg [⟨some 9, none, .bin .eql (.s 3) (.c (.d (.int .i64 3))), .none⟩,
          ⟨some 8, none, .mv (.s 9), .none⟩])
      (.cond (.s 8)
       (.seq (.reg [⟨some 2, none, .mv (.c (.d (.str [116, 117, 114, 110]))), .none⟩])
       (.ret none))
       (.seq (.reg [⟨some 11, none, .bin .eql (.s 3) (.c (.d (.int .i64 4))), .none⟩,
           ⟨some 10, none, .mv (.s 11), .none⟩])
       (.cond (.s 10)
        (.seq (.reg [⟨some 2, none, .mv (.c (.d (.str [102, 97, 117, 108, 116]))), .none⟩])
        (.ret none))
        (.seq (.reg [⟨some 13, none, .bin .eql (.s 3) (.c (.d (.int .i64 5))), .none⟩,
            ⟨some 12, none, .mv (.s 13), .none⟩])
        (.cond (.s 12)
         (.seq (.reg [⟨some 2, none, .mv (.c (.d (.str [112, 117, 114, 103, 101]))), .none⟩])
         (.ret none))
         .skip))))))))))))
  (.seq (.reg [⟨some 2, none, .mv (.c (.d (.str []))), .none⟩])
  (.ret none))))
def ir60 : F := { n := 14, res := [.tmp 2], body := bd60 }
@[go_sem] theorem n60 : ir60.n = 14 := rfl
@[go_sem] theorem r60 : ir60.res = [.tmp 2] := rfl
@[go_sem] theorem b60 : ir60.body = bd60 := rfl
def lb83_0 : C :=
  (.seq (.seq (.reg [⟨some 7, none, .mv (.s 2), .none⟩,
       ⟨some 8, none, .mv (.s 3), .none⟩,
       ⟨some 9, none, .bin .lss (.s 7) (.s 8), .none⟩])
   (.cond (.s 9)
    .skip
    (.exit 0 (some []))))
  (.seq (.block 1 (.drw [⟨some 14, none, .mv (.s 0), .none⟩,
       ⟨some 15, none, .mv (.s 2), .none⟩,
       ⟨some 16, none, .mv (.s 0), .none⟩,
       ⟨some 17, none, .mv (.s 3), .none⟩,
       ⟨some 18, none, .mv (.s 0), .none⟩,
       ⟨some 19, none, .mv (.s 3), .none⟩,
       ⟨some 20, none, .is (.s 18) (.s 19) 1, .none⟩,
       ⟨some 21, none, .ld (.s 20) 1 false, .none⟩,
       ⟨some 22, none, .mv (.s 0), .none⟩,
       ⟨some 23, none, .mv (.s 2), .none⟩,
       ⟨some 24, none, .is (.s 22) (.s 23) 1, .none⟩,
       ⟨some 25, none, .ld (.s 24) 1 false, .none⟩,
       ⟨some 26, none, .is (.s 14) (.s 15) 1, .none⟩,
       ⟨none, none, .st (.s 26) (.s 21) 1, .none⟩,
       ⟨some 27, none, .is (.s 16) (.s 17) 1, .none⟩,
       ⟨none, none, .st (.s 27) (.s 25) 1, .none⟩]
      [[], [], [], [], [], [], [4, 5], [6], [], [], [8, 9], [10], [0, 1, 0, 1, 4, 5, 6, 7, 11], [12, 7, 0, 1, 4, 5, 6, 7, 11], [2, 3, 0, 1, 2, 3, 4, 5, 6, 7, 8, 9, 10, 11, 12, 13], [14, 11, 13, 0, 1, 2, 3, 4, 5, 6, 7, 8, 9, 10, 11, 12, 13]]))
  (.reg [⟨some 10, none, .mv (.s 2), .none⟩,
     ⟨some 11, none, .bin .add (.s 10) (.c (.d (.int .i64 1))), .none⟩,
     ⟨some 12, none, .mv (.s 3), .none⟩,
     ⟨some 13, none, .bin .sub (.s 12) (.c (.d (.int .i64 1))), .none⟩,
     ⟨some 2, none, .mv (.s 11), .none⟩,
     ⟨some 3, none, .mv (.s 13), .none⟩])))
def lp83_0 : C := lb83_0
theorem u83_0 (c : Ev.Callee) (l : Ev.Looper) (s : St) : evC c l lp83_0 s = evC c l lb83_0 s := rfl
abbrev st83_0 (m : Nat) (s0 s2 s3 : AV) (h : Heap) : St := ⟨m, [s0, .unk, s2, s3, .unk, .unk, .unk, .unk, .unk, .unk, .unk, .unk, .unk, .unk, .unk, .unk, .unk, .unk, .unk, .unk, .unk, .unk, .unk, .unk, .unk, .unk, .unk, .unk], h⟩
@[go_sem] theorem ks83_0 (v0 v1 v2 v3 v4 v5 v6 v7 v8 v9 v10 v11 v12 v13 v14 v15 v16 v17 v18 v19 v20 v21 v22 v23 v24 v25 v26 v27 : AV) : keepS [0, 2, 3] [v0, v1, v2, v3, v4, v5, v6, v7, v8, v9, v10, v11, v12, v13, v14, v15, v16, v17, v18, v19, v20, v21, v22, v23, v24, v25, v26, v27] 0 = [v0, .unk, v2, v3, .unk, .unk, .unk, .unk, .unk, .unk, .unk, .unk, .unk, .unk, .unk, .unk, .unk, .unk, .unk, .unk, .unk, .unk, .unk, .unk, .unk, .unk, .unk, .unk] := rfl
@[go_sem] theorem ks83_1 (v0 v1 v2 v3 v4 v5 v6 v7 v8 v9 v10 v11 v12 v13 v14 v15 v16 v17 v18 v19 v20 v21 v22 v23 v24 v25 v26 v27 : AV) : keepS [] [v0, v1, v2, v3, v4, v5, v6, v7, v8, v9, v10, v11, v12, v13, v14, v15, v16, v17, v18, v19, v20, v21, v22, v23, v24, v25, v26, v27] 0 = [.unk, .unk, .unk, .unk, .unk, .unk, .unk, .unk, .unk, .unk, .unk, .unk, .unk, .unk, .unk, .unk, .unk, .unk, .unk, .unk, .unk, .unk, .unk, .unk, .unk, .unk, .unk, .unk] := rfl
/-- slices.Reverse[[]byte,byte] -/
def bd83 : C :=
  (.seq (.reg [⟨some 4, none, .mv (.s 0), .none⟩,
      ⟨some 5, none, .len (.s 4), .none⟩,
      ⟨some 6, none, .bin .sub (.s 5) (.c (.d (.int .i64 1))), .none⟩,
      ⟨some 2, none, .mv (.c (.d (.int .i64 0))), .none⟩,
      ⟨some 3, none, .mv (.s 6), .none⟩])
  (.block 0 (.loop [0, 2, 3] lp83_0)))
def ir83 : F := { n := 28, res := [], body := bd83 }
@[go_sem] theorem n83 : ir83.n = 28 := rfl
@[go_sem] theorem r83 : ir83.res = [] := rfl
@[go_sem] theorem b83 : ir83.body = bd83 := rfl

def irf : FuncId → Option F
  | 7 => some ir7
  | 8 => some ir8
  | 31 => some ir31
  | 32 => some ir32
  | 33 => some ir33
  | 34 => some ir34
  | 35 => some ir35
  | 36 => some ir36
  | 37 => some ir37
  | 38 => some ir38
  | 55 => some ir55
  | 56 => some ir56
  | 57 => some ir57
  | 58 => some ir58
  | 59 => some ir59
  | 60 => some ir60
  | 83 => some ir83
  | _ => none
def ir : IR := ⟨irf, natOr (natJoin 84) (natNo)⟩
theorem c7 : cF Try.prog 7 = some ir7.strip := by kernel_rfl
theorem k7 : ir7.body.okD = true := by kernel_rfl
theorem c8 : cF Try.prog 8 = some ir8.strip := by kernel_rfl
theorem k8 : ir8.body.okD = true := by kernel_rfl
theorem c31 : cF Try.prog 31 = some ir31.strip := by kernel_rfl
theorem k31 : ir31.body.okD = true := by kernel_rfl
theorem c32 : cF Try.prog 32 = some ir32.strip := by kernel_rfl
theorem k32 : ir32.body.okD = true := by kernel_rfl
theorem c33 : cF Try.prog 33 = some ir33.strip := by kernel_rfl
theorem k33 : ir33.body.okD = true := by kernel_rfl
theorem c34 : cF Try.prog 34 = some ir34.strip := by kernel_rfl
theorem k34 : ir34.body.okD = true := by kernel_rfl
theorem c35 : cF Try.prog 35 = some ir35.strip := by kernel_rfl
theorem k35 : ir35.body.okD = true := by kernel_rfl
theorem c36 : cF Try.prog 36 = some ir36.strip := by kernel_rfl
theorem k36 : ir36.body.okD = true := by kernel_rfl
theorem c37 : cF Try.prog 37 = some ir37.strip := by kernel_rfl
theorem k37 : ir37.body.okD = true := by kernel_rfl
theorem c38 : cF Try.prog 38 = some ir38.strip := by kernel_rfl
theorem k38 : ir38.body.okD = true := by kernel_rfl
theorem c55 : cF Try.prog 55 = some ir55.strip := by kernel_rfl
theorem k55 : ir55.body.okD = true := by kernel_rfl
theorem c56 : cF Try.prog 56 = some ir56.strip := by kernel_rfl
theorem k56 : ir56.body.okD = true := by kernel_rfl
theorem c57 : cF Try.prog 57 = some ir57.strip := by kernel_rfl
theorem k57 : ir57.body.okD = true := by kernel_rfl
theorem c58 : cF Try.prog 58 = some ir58.strip := by kernel_rfl
theorem k58 : ir58.body.okD = true := by kernel_rfl
theorem c59 : cF Try.prog 59 = some ir59.strip := by kernel_rfl
theorem k59 : ir59.body.okD = true := by kernel_rfl
theorem c60 : cF Try.prog 60 = some ir60.strip := by kernel_rfl
theorem k60 : ir60.body.okD = true := by kernel_rfl
theorem c83 : cF Try.prog 83 = some ir83.strip := by kernel_rfl
theorem k83 : ir83.body.okD = true := by kernel_rfl
theorem tab : Tab Try.prog ir := by
  refine ⟨by kernel_rfl, fun f fn h => ?_, natOr_snd (natJoin_snd ⟨Try.f84, Try.func84, by kernel_rfl, of_decide_eq_true (by kernel_rfl)⟩ Try.strings_Join_none (fun bk o c xs sep w h1 h2 h3 h4 h5 => Try.strings_Join bk o c xs sep w h1 h2 h3 h4 h5)) (natNo_snd)⟩
  change irf f = some fn at h
  unfold irf at h
  split at h
  · cases h; exact ⟨c7, k7⟩
  · cases h; exact ⟨c8, k8⟩
  · cases h; exact ⟨c31, k31⟩
  · cases h; exact ⟨c32, k32⟩
  · cases h; exact ⟨c33, k33⟩
  · cases h; exact ⟨c34, k34⟩
  · cases h; exact ⟨c35, k35⟩
  · cases h; exact ⟨c36, k36⟩
  · cases h; exact ⟨c37, k37⟩
  · cases h; exact ⟨c38, k38⟩
  · cases h; exact ⟨c55, k55⟩
  · cases h; exact ⟨c56, k56⟩
  · cases h; exact ⟨c57, k57⟩
  · cases h; exact ⟨c58, k58⟩
  · cases h; exact ⟨c59, k59⟩
  · cases h; exact ⟨c60, k60⟩
  · cases h; exact ⟨c83, k83⟩
  · cases h
end Go.Proofs.Ytefcgdcmhhgfgaa.Ir
