/- The texts of the functions in the small language. Printed by a program of my own (irgen.py). -/
import Derived.Test.YtpibecljdooilaaDoorEvSim
import Derived.Test.YtpibecljdooilaaDoorProg
import Derived.Test.YtpibecljdooilaaDoorEvNatF
import Derived.Test.YtpibecljdooilaaDoorShSrt
import Derived.Test.YtpibecljdooilaaDoorShCln
import Derived.Test.YtpibecljdooilaaDoorShIxb
namespace Go.Proofs.YtpibecljdooilaaDoor.Ir
open Go Go.Ev
set_option maxRecDepth 10000

def lb7_0 : C :=
 (.seq (.reg [⟨some 42, none, .bin .lss (.s 41) (.s 40), .none⟩])
 (.seq (.cond (.s 42)
 .skip
 (.exit 0 (some [0, 3, 4, 11, 12])))
 (.seq (.block 1 (.seq (.reg [⟨some 43, none, .is (.s 39) (.s 41) 2, .none⟩,
 ⟨some 44, none, .ld (.s 43) 2 true, .none⟩,
 ⟨some 14, none, .alloc 52 [.int .i64 0, .int .i64 0], .none⟩,
 ⟨none, none, .st (.s 14) (.s 44) 2, .none⟩])
 (.seq (.seq (.reg [⟨some 45, none, .fa (.s 14) 0, .none⟩,
 ⟨some 46, none, .ld (.s 45) 1 false, .none⟩,
 ⟨some 47, none, .bin .lss (.s 46) (.c (.d (.int .i64 0))), .none⟩,
 ⟨some 48, none, .mv (.s 47), .none⟩,
 ⟨some 49, some (48, false), .fa (.s 14) 0, .none⟩,
 ⟨some 50, some (48, false), .ld (.s 49) 1 false, .none⟩,
 ⟨some 51, some (48, false), .fa (.s 14) 1, .none⟩,
 ⟨some 52, some (48, false), .ld (.s 51) 1 false, .none⟩,
 ⟨some 53, some (48, false), .bin .geq (.s 50) (.s 52), .none⟩,
 ⟨some 54, none, .pick (.s 48) (.c (.d (.bool true))) (.s 53), .none⟩,
 ⟨some 55, none, .mv (.s 54), .none⟩,
 ⟨some 56, some (55, false), .fa (.s 14) 1, .none⟩,
 ⟨some 57, some (55, false), .ld (.s 56) 1 false, .none⟩,
 ⟨some 58, some (55, false), .mv (.s 3), .none⟩,
 ⟨some 59, some (55, false), .bin .gtr (.s 57) (.s 58), .none⟩,
 ⟨some 60, none, .pick (.s 55) (.c (.d (.bool true))) (.s 59), .none⟩])
 (.cond (.s 60)
 (.seq (.reg [⟨some 10, none, .mv (.c (.d (.bool false))), .none⟩])
 (.ret (some [10])))
 .skip))
 (.seq (.reg [⟨some 61, none, .fa (.s 14) 0, .none⟩,
 ⟨some 62, none, .ld (.s 61) 1 false, .none⟩,
 ⟨some 63, none, .mv (.s 4), .none⟩,
 ⟨some 64, none, .bin .leq (.s 62) (.s 63), .none⟩,
 ⟨some 65, none, .mv (.s 64), .none⟩,
 ⟨some 66, some (65, true), .mv (.s 4), .none⟩,
 ⟨some 67, some (65, true), .fa (.s 14) 1, .none⟩,
 ⟨some 68, some (65, true), .ld (.s 67) 1 false, .none⟩,
 ⟨some 69, some (65, true), .bin .lss (.s 66) (.s 68), .none⟩,
 ⟨some 70, none, .pick (.s 65) (.s 69) (.c (.d (.bool false))), .none⟩])
 (.cond (.s 70)
 (.reg [⟨some 71, none, .mv (.s 12), .none⟩,
 ⟨some 72, none, .bin .add (.s 71) (.c (.d (.int .i64 1))), .none⟩,
 ⟨some 12, none, .mv (.s 72), .none⟩])
 .skip)))))
 (.reg [⟨some 73, none, .bin .add (.s 41) (.c (.d (.int .i64 1))), .none⟩,
 ⟨some 41, none, .mv (.s 73), .none⟩]))))
def lp7_0 : C := lb7_0
theorem u7_0 (c : Ev.Callee) (l : Ev.Looper) (s : St) : evC c l lp7_0 s = evC c l lb7_0 s := rfl
abbrev st7_0 (m : Nat) (s0 s3 s4 s11 s12 s39 s40 s41 : AV) (h : Heap) : St := ⟨m, [s0, .unk, .unk, s3, s4, .unk, .unk, .unk, .unk, .unk, .unk, s11, s12, .unk, .unk, .unk, .unk, .unk, .unk, .unk, .unk, .unk, .unk, .unk, .unk, .unk, .unk, .unk, .unk, .unk, .unk, .unk, .unk, .unk, .unk, .unk, .unk, .unk, .unk, s39, s40, s41, .unk, .unk, .unk, .unk, .unk, .unk, .unk, .unk, .unk, .unk, .unk, .unk, .unk, .unk, .unk, .unk, .unk, .unk, .unk, .unk, .unk, .unk, .unk, .unk, .unk, .unk, .unk, .unk, .unk, .unk, .unk, .unk, .unk, .unk, .unk, .unk, .unk, .unk, .unk, .unk, .unk, .unk, .unk, .unk, .unk, .unk, .unk, .unk, .unk, .unk, .unk, .unk, .unk, .unk, .unk, .unk, .unk, .unk, .unk, .unk, .unk, .unk, .unk, .unk, .unk, .unk, .unk, .unk, .unk, .unk, .unk, .unk, .unk, .unk, .unk, .unk, .unk, .unk, .unk, .unk, .unk, .unk, .unk, .unk], h⟩
@[go_sem] theorem ks7_0 (v0 v1 v2 v3 v4 v5 v6 v7 v8 v9 v10 v11 v12 v13 v14 v15 v16 v17 v18 v19 v20 v21 v22 v23 v24 v25 v26 v27 v28 v29 v30 v31 v32 v33 v34 v35 v36 v37 v38 v39 v40 v41 v42 v43 v44 v45 v46 v47 v48 v49 v50 v51 v52 v53 v54 v55 v56 v57 v58 v59 v60 v61 v62 v63 v64 v65 v66 v67 v68 v69 v70 v71 v72 v73 v74 v75 v76 v77 v78 v79 v80 v81 v82 v83 v84 v85 v86 v87 v88 v89 v90 v91 v92 v93 v94 v95 v96 v97 v98 v99 v100 v101 v102 v103 v104 v105 v106 v107 v108 v109 v110 v111 v112 v113 v114 v115 v116 v117 v118 v119 v120 v121 v122 v123 v124 v125 : AV) : keepS [0, 3, 4, 11, 12, 39, 40, 41] [v0, v1, v2, v3, v4, v5, v6, v7, v8, v9, v10, v11, v12, v13, v14, v15, v16, v17, v18, v19, v20, v21, v22, v23, v24, v25, v26, v27, v28, v29, v30, v31, v32, v33, v34, v35, v36, v37, v38, v39, v40, v41, v42, v43, v44, v45, v46, v47, v48, v49, v50, v51, v52, v53, v54, v55, v56, v57, v58, v59, v60, v61, v62, v63, v64, v65, v66, v67, v68, v69, v70, v71, v72, v73, v74, v75, v76, v77, v78, v79, v80, v81, v82, v83, v84, v85, v86, v87, v88, v89, v90, v91, v92, v93, v94, v95, v96, v97, v98, v99, v100, v101, v102, v103, v104, v105, v106, v107, v108, v109, v110, v111, v112, v113, v114, v115, v116, v117, v118, v119, v120, v121, v122, v123, v124, v125] 0 = [v0, .unk, .unk, v3, v4, .unk, .unk, .unk, .unk, .unk, .unk, v11, v12, .unk, .unk, .unk, .unk, .unk, .unk, .unk, .unk, .unk, .unk, .unk, .unk, .unk, .unk, .unk, .unk, .unk, .unk, .unk, .unk, .unk, .unk, .unk, .unk, .unk, .unk, v39, v40, v41, .unk, .unk, .unk, .unk, .unk, .unk, .unk, .unk, .unk, .unk, .unk, .unk, .unk, .unk, .unk, .unk, .unk, .unk, .unk, .unk, .unk, .unk, .unk, .unk, .unk, .unk, .unk, .unk, .unk, .unk, .unk, .unk, .unk, .unk, .unk, .unk, .unk, .unk, .unk, .unk, .unk, .unk, .unk, .unk, .unk, .unk, .unk, .unk, .unk, .unk, .unk, .unk, .unk, .unk, .unk, .unk, .unk, .unk, .unk, .unk, .unk, .unk, .unk, .unk, .unk, .unk, .unk, .unk, .unk, .unk, .unk, .unk, .unk, .unk, .unk, .unk, .unk, .unk, .unk, .unk, .unk, .unk, .unk, .unk] := rfl
@[go_sem] theorem ks7_1 (v0 v1 v2 v3 v4 v5 v6 v7 v8 v9 v10 v11 v12 v13 v14 v15 v16 v17 v18 v19 v20 v21 v22 v23 v24 v25 v26 v27 v28 v29 v30 v31 v32 v33 v34 v35 v36 v37 v38 v39 v40 v41 v42 v43 v44 v45 v46 v47 v48 v49 v50 v51 v52 v53 v54 v55 v56 v57 v58 v59 v60 v61 v62 v63 v64 v65 v66 v67 v68 v69 v70 v71 v72 v73 v74 v75 v76 v77 v78 v79 v80 v81 v82 v83 v84 v85 v86 v87 v88 v89 v90 v91 v92 v93 v94 v95 v96 v97 v98 v99 v100 v101 v102 v103 v104 v105 v106 v107 v108 v109 v110 v111 v112 v113 v114 v115 v116 v117 v118 v119 v120 v121 v122 v123 v124 v125 : AV) : keepS [0, 3, 4, 11, 12] [v0, v1, v2, v3, v4, v5, v6, v7, v8, v9, v10, v11, v12, v13, v14, v15, v16, v17, v18, v19, v20, v21, v22, v23, v24, v25, v26, v27, v28, v29, v30, v31, v32, v33, v34, v35, v36, v37, v38, v39, v40, v41, v42, v43, v44, v45, v46, v47, v48, v49, v50, v51, v52, v53, v54, v55, v56, v57, v58, v59, v60, v61, v62, v63, v64, v65, v66, v67, v68, v69, v70, v71, v72, v73, v74, v75, v76, v77, v78, v79, v80, v81, v82, v83, v84, v85, v86, v87, v88, v89, v90, v91, v92, v93, v94, v95, v96, v97, v98, v99, v100, v101, v102, v103, v104, v105, v106, v107, v108, v109, v110, v111, v112, v113, v114, v115, v116, v117, v118, v119, v120, v121, v122, v123, v124, v125] 0 = [v0, .unk, .unk, v3, v4, .unk, .unk, .unk, .unk, .unk, .unk, v11, v12, .unk, .unk, .unk, .unk, .unk, .unk, .unk, .unk, .unk, .unk, .unk, .unk, .unk, .unk, .unk, .unk, .unk, .unk, .unk, .unk, .unk, .unk, .unk, .unk, .unk, .unk, .unk, .unk, .unk, .unk, .unk, .unk, .unk, .unk, .unk, .unk, .unk, .unk, .unk, .unk, .unk, .unk, .unk, .unk, .unk, .unk, .unk, .unk, .unk, .unk, .unk, .unk, .unk, .unk, .unk, .unk, .unk, .unk, .unk, .unk, .unk, .unk, .unk, .unk, .unk, .unk, .unk, .unk, .unk, .unk, .unk, .unk, .unk, .unk, .unk, .unk, .unk, .unk, .unk, .unk, .unk, .unk, .unk, .unk, .unk, .unk, .unk, .unk, .unk, .unk, .unk, .unk, .unk, .unk, .unk, .unk, .unk, .unk, .unk, .unk, .unk, .unk, .unk, .unk, .unk, .unk, .unk, .unk, .unk, .unk, .unk, .unk, .unk] := rfl
@[go_sem] theorem ks7_2 (v0 v1 v2 v3 v4 v5 v6 v7 v8 v9 v10 v11 v12 v13 v14 v15 v16 v17 v18 v19 v20 v21 v22 v23 v24 v25 v26 v27 v28 v29 v30 v31 v32 v33 v34 v35 v36 v37 v38 v39 v40 v41 v42 v43 v44 v45 v46 v47 v48 v49 v50 v51 v52 v53 v54 v55 v56 v57 v58 v59 v60 v61 v62 v63 v64 v65 v66 v67 v68 v69 v70 v71 v72 v73 v74 v75 v76 v77 v78 v79 v80 v81 v82 v83 v84 v85 v86 v87 v88 v89 v90 v91 v92 v93 v94 v95 v96 v97 v98 v99 v100 v101 v102 v103 v104 v105 v106 v107 v108 v109 v110 v111 v112 v113 v114 v115 v116 v117 v118 v119 v120 v121 v122 v123 v124 v125 : AV) : keepS [10] [v0, v1, v2, v3, v4, v5, v6, v7, v8, v9, v10, v11, v12, v13, v14, v15, v16, v17, v18, v19, v20, v21, v22, v23, v24, v25, v26, v27, v28, v29, v30, v31, v32, v33, v34, v35, v36, v37, v38, v39, v40, v41, v42, v43, v44, v45, v46, v47, v48, v49, v50, v51, v52, v53, v54, v55, v56, v57, v58, v59, v60, v61, v62, v63, v64, v65, v66, v67, v68, v69, v70, v71, v72, v73, v74, v75, v76, v77, v78, v79, v80, v81, v82, v83, v84, v85, v86, v87, v88, v89, v90, v91, v92, v93, v94, v95, v96, v97, v98, v99, v100, v101, v102, v103, v104, v105, v106, v107, v108, v109, v110, v111, v112, v113, v114, v115, v116, v117, v118, v119, v120, v121, v122, v123, v124, v125] 0 = [.unk, .unk, .unk, .unk, .unk, .unk, .unk, .unk, .unk, .unk, v10, .unk, .unk, .unk, .unk, .unk, .unk, .unk, .unk, .unk, .unk, .unk, .unk, .unk, .unk, .unk, .unk, .unk, .unk, .unk, .unk, .unk, .unk, .unk, .unk, .unk, .unk, .unk, .unk, .unk, .unk, .unk, .unk, .unk, .unk, .unk, .unk, .unk, .unk, .unk, .unk, .unk, .unk, .unk, .unk, .unk, .unk, .unk, .unk, .unk, .unk, .unk, .unk, .unk, .unk, .unk, .unk, .unk, .unk, .unk, .unk, .unk, .unk, .unk, .unk, .unk, .unk, .unk, .unk, .unk, .unk, .unk, .unk, .unk, .unk, .unk, .unk, .unk, .unk, .unk, .unk, .unk, .unk, .unk, .unk, .unk, .unk, .unk, .unk, .unk, .unk, .unk, .unk, .unk, .unk, .unk, .unk, .unk, .unk, .unk, .unk, .unk, .unk, .unk, .unk, .unk, .unk, .unk, .unk, .unk, .unk, .unk, .unk, .unk, .unk, .unk] := rfl
/-- spence/spencelaw09.IfrangeWithin -/
def bd7 : C :=
 (.seq (.reg [⟨some 10, none, .mv (.c (.d (.bool false))), .none⟩])
 (.seq (.seq (.reg [⟨some 18, none, .call 26 [] 2, .none⟩,
 ⟨some 19, none, .un .not (.s 18), .none⟩])
 (.cond (.s 19)
 (.seq (.reg [⟨some 10, none, .mv (.c (.d (.bool false))), .none⟩])
 (.ret none))
 .skip))
 (.seq (.seq (.reg [⟨some 20, none, .mv (.s 0), .none⟩,
 ⟨some 21, none, .lens (.s 20), .none⟩,
 ⟨some 22, none, .bin .gtr (.s 21) (.c (.d (.int .i64 600))), .none⟩,
 ⟨some 23, none, .mv (.s 22), .none⟩,
 ⟨some 24, some (23, false), .mv (.s 1), .none⟩,
 ⟨some 25, some (23, false), .lens (.s 24), .none⟩,
 ⟨some 26, some (23, false), .bin .gtr (.s 25) (.c (.d (.int .i64 200))), .none⟩,
 ⟨some 27, none, .pick (.s 23) (.c (.d (.bool true))) (.s 26), .none⟩,
 ⟨some 28, none, .mv (.s 27), .none⟩,
 ⟨some 29, some (28, false), .mv (.s 2), .none⟩,
 ⟨some 30, some (28, false), .lens (.s 29), .none⟩,
 ⟨some 31, some (28, false), .bin .gtr (.s 30) (.c (.d (.int .i64 100))), .none⟩,
 ⟨some 32, none, .pick (.s 28) (.c (.d (.bool true))) (.s 31), .none⟩])
 (.cond (.s 32)
 (.seq (.reg [⟨some 10, none, .mv (.c (.d (.bool true))), .none⟩])
 (.ret none))
 .skip))
 (.seq (.reg [⟨some 33, none, .mv (.s 0), .none⟩,
 ⟨some 34, none, .mv (.s 1), .none⟩,
 ⟨some 35, none, .mv (.s 2), .none⟩,
 ⟨some 36, none, .mv (.s 3), .none⟩,
 ⟨some 37, none, .call 27 [.s 33, .s 34, .s 35, .s 36] 2, .none⟩,
 ⟨some 11, none, .alloc 62 [.int .i64 0, .nils], .cells [(1, 2, false)]⟩,
 ⟨none, none, .st (.s 11) (.s 37) 2, .none⟩])
 (.seq (.reg [⟨some 12, none, .mv (.c (.d (.int .i64 0))), .none⟩])
 (.seq (.seq (.reg [⟨some 38, none, .fa (.s 11) 1, .none⟩,
 ⟨some 39, none, .ld (.s 38) 1 false, .none⟩,
 ⟨some 40, none, .len (.s 39), .none⟩,
 ⟨some 41, none, .mv (.c (.d (.int .i64 0))), .none⟩])
 (.block 0 (.loop [0, 3, 4, 11, 12, 39, 40, 41] lp7_0)))
 (.seq (.reg [⟨some 75, none, .mv (.s 0), .none⟩,
 ⟨some 76, none, .call 28 [.s 75] 2, .none⟩,
 ⟨some 74, none, .mv (.s 76), .none⟩,
 ⟨some 77, none, .ext (.s 74) 0, .none⟩,
 ⟨some 78, none, .ext (.s 74) 1, .none⟩,
 ⟨some 15, none, .mv (.s 77), .none⟩,
 ⟨some 16, none, .mv (.s 78), .none⟩])
 (.seq (.reg [⟨some 79, none, .mv (.s 15), .none⟩,
 ⟨some 80, none, .mv (.s 3), .none⟩,
 ⟨some 81, none, .call 30 [.s 79, .s 80] 2, .none⟩,
 ⟨some 82, none, .mv (.s 4), .none⟩,
 ⟨some 83, none, .call 29 [.s 81, .s 82] 2, .none⟩,
 ⟨some 17, none, .mv (.s 83), .none⟩])
 (.seq (.reg [⟨some 84, none, .fa (.s 11) 0, .none⟩,
 ⟨some 85, none, .ld (.s 84) 1 false, .none⟩])
 (.block 2 (.seq (.reg [⟨some 96, none, .bin .eql (.s 85) (.c (.d (.int .i64 206))), .none⟩,
 ⟨some 95, none, .mv (.s 96), .none⟩])
 (.cond (.s 95)
 (.seq (.reg [⟨some 97, none, .fa (.s 11) 1, .none⟩,
 ⟨some 98, none, .ld (.s 97) 1 false, .none⟩,
 ⟨some 99, none, .len (.s 98), .none⟩,
 ⟨some 100, none, .bin .gtr (.s 99) (.c (.d (.int .i64 0))), .none⟩,
 ⟨some 101, none, .mv (.s 100), .none⟩,
 ⟨some 102, some (101, true), .mv (.s 12), .none⟩,
 ⟨some 103, some (101, true), .bin .leq (.s 102) (.c (.d (.int .i64 1))), .none⟩,
 ⟨some 104, none, .pick (.s 101) (.s 103) (.c (.d (.bool false))), .none⟩,
 ⟨some 105, none, .mv (.s 104), .none⟩,
 ⟨some 106, some (105, true), .mv (.s 12), .none⟩,
 ⟨some 107, some (105, true), .bin .eql (.s 106) (.c (.d (.int .i64 1))), .none⟩,
 ⟨some 108, some (105, true), .mv (.s 17), .none⟩,
 ⟨some 109, some (105, true), .beq false (.s 107) (.s 108), .none⟩,
 ⟨some 110, none, .pick (.s 105) (.s 109) (.c (.d (.bool false))), .none⟩,
 ⟨some 10, none, .mv (.s 110), .none⟩])
 (.ret none))
 (.seq (.reg [⟨some 112, none, .bin .eql (.s 85) (.c (.d (.int .i64 416))), .none⟩,
 ⟨some 111, none, .mv (.s 112), .none⟩])
 (.cond (.s 111)
 (.seq (.reg [⟨some 113, none, .fa (.s 11) 1, .none⟩,
 ⟨some 114, none, .ld (.s 113) 1 false, .none⟩,
 ⟨some 115, none, .len (.s 114), .none⟩,
 ⟨some 116, none, .bin .eql (.s 115) (.c (.d (.int .i64 0))), .none⟩,
 ⟨some 117, none, .mv (.s 116), .none⟩,
 ⟨some 118, some (117, true), .mv (.s 15), .none⟩,
 ⟨some 119, some (117, true), .len (.s 118), .none⟩,
 ⟨some 120, some (117, true), .bin .gtr (.s 119) (.c (.d (.int .i64 0))), .none⟩,
 ⟨some 121, none, .pick (.s 117) (.s 120) (.c (.d (.bool false))), .none⟩,
 ⟨some 122, none, .mv (.s 121), .none⟩,
 ⟨some 123, some (122, true), .mv (.s 17), .none⟩,
 ⟨some 124, some (122, true), .un .not (.s 123), .none⟩,
 ⟨some 125, none, .pick (.s 122) (.s 124) (.c (.d (.bool false))), .none⟩,
 ⟨some 10, none, .mv (.s 125), .none⟩])
 (.ret none))
 (.seq (.reg [⟨some 86, none, .fa (.s 11) 0, .none⟩,
 ⟨some 87, none, .ld (.s 86) 1 false, .none⟩,
 ⟨some 88, none, .bin .eql (.s 87) (.c (.d (.int .i64 200))), .none⟩,
 ⟨some 89, none, .mv (.s 88), .none⟩,
 ⟨some 90, some (89, true), .fa (.s 11) 1, .none⟩,
 ⟨some 91, some (89, true), .ld (.s 90) 1 false, .none⟩,
 ⟨some 92, some (89, true), .len (.s 91), .none⟩,
 ⟨some 93, some (89, true), .bin .eql (.s 92) (.c (.d (.int .i64 0))), .none⟩,
 ⟨some 94, none, .pick (.s 89) (.s 93) (.c (.d (.bool false))), .none⟩,
 ⟨some 10, none, .mv (.s 94), .none⟩])
 (.ret none))))))))))))))))
def ir7 : F := { n := 126, res := [.tmp 10], body := bd7 }
@[go_sem] theorem n7 : ir7.n = 126 := rfl
@[go_sem] theorem r7 : ir7.res = [.tmp 10] := rfl
@[go_sem] theorem b7 : ir7.body = bd7 := rfl
/-- spence/spencelaw09.IfrangeOne -/
def bd8 : C :=
 (.seq (.reg [⟨some 8, none, .mv (.c (.d (.bool false))), .none⟩])
 (.seq (.seq (.reg [⟨some 13, none, .call 26 [] 2, .none⟩,
 ⟨some 14, none, .un .not (.s 13), .none⟩])
 (.cond (.s 14)
 (.seq (.reg [⟨some 8, none, .mv (.c (.d (.bool false))), .none⟩])
 (.ret none))
 .skip))
 (.seq (.seq (.reg [⟨some 15, none, .mv (.s 0), .none⟩,
 ⟨some 16, none, .bin .lss (.s 15) (.c (.d (.int .i64 0))), .none⟩,
 ⟨some 17, none, .mv (.s 16), .none⟩,
 ⟨some 18, some (17, false), .mv (.s 1), .none⟩,
 ⟨some 19, some (17, false), .mv (.s 0), .none⟩,
 ⟨some 20, some (17, false), .bin .lss (.s 18) (.s 19), .none⟩,
 ⟨some 21, none, .pick (.s 17) (.c (.d (.bool true))) (.s 20), .none⟩,
 ⟨some 22, none, .mv (.s 21), .none⟩,
 ⟨some 23, some (22, false), .mv (.s 1), .none⟩,
 ⟨some 24, some (22, false), .bin .gtr (.s 23) (.c (.d (.int .i64 1099511627776))), .none⟩,
 ⟨some 25, none, .pick (.s 22) (.c (.d (.bool true))) (.s 24), .none⟩,
 ⟨some 26, none, .mv (.s 25), .none⟩,
 ⟨some 27, some (26, false), .mv (.s 3), .none⟩,
 ⟨some 28, some (26, false), .bin .lss (.s 27) (.c (.d (.int .i64 1))), .none⟩,
 ⟨some 29, none, .pick (.s 26) (.c (.d (.bool true))) (.s 28), .none⟩,
 ⟨some 30, none, .mv (.s 29), .none⟩,
 ⟨some 31, some (30, false), .mv (.s 3), .none⟩,
 ⟨some 32, some (30, false), .bin .gtr (.s 31) (.c (.d (.int .i64 1099511627776))), .none⟩,
 ⟨some 33, none, .pick (.s 30) (.c (.d (.bool true))) (.s 32), .none⟩,
 ⟨some 34, none, .mv (.s 33), .none⟩,
 ⟨some 35, some (34, false), .mv (.s 2), .none⟩,
 ⟨some 36, some (34, false), .lens (.s 35), .none⟩,
 ⟨some 37, some (34, false), .bin .gtr (.s 36) (.c (.d (.int .i64 100))), .none⟩,
 ⟨some 38, none, .pick (.s 34) (.c (.d (.bool true))) (.s 37), .none⟩])
 (.cond (.s 38)
 (.seq (.reg [⟨some 8, none, .mv (.c (.d (.bool true))), .none⟩])
 (.ret none))
 .skip))
 (.seq (.reg [⟨some 39, none, .mv (.s 0), .none⟩,
 ⟨some 40, none, .mv (.s 1), .none⟩,
 ⟨some 41, none, .build [.int .i64 0, .int .i64 0, .int .i64 0] [(0, (1, .c (.d (.int .i64 2)))), (1, (1, .s 39)), (2, (1, .s 40))], .none⟩,
 ⟨some 42, none, .bsl 72 3 1 [.int .i64 0, .int .i64 0, .int .i64 0] [(0, (3, .s 41))], .none⟩,
 ⟨some 43, none, .call 31 [.s 42] 0, .none⟩,
 ⟨some 44, none, .mv (.s 0), .none⟩,
 ⟨some 45, none, .build [.int .i64 0, .int .i64 0, .int .i64 0] [(0, (1, .c (.d (.int .i64 3)))), (1, (1, .s 44))], .none⟩,
 ⟨some 46, none, .bsl 72 3 1 [.int .i64 0, .int .i64 0, .int .i64 0] [(0, (3, .s 45))], .none⟩,
 ⟨some 47, none, .call 31 [.s 46] 0, .none⟩,
 ⟨some 9, none, .mv (.s 43), .none⟩,
 ⟨some 10, none, .mv (.s 47), .none⟩])
 (.seq (.reg [⟨some 48, none, .mv (.s 9), .none⟩,
 ⟨some 49, none, .mv (.s 2), .none⟩,
 ⟨some 50, none, .mv (.s 3), .none⟩,
 ⟨some 51, none, .call 27 [.s 48, .c (.d (.str [])), .s 49, .s 50] 2, .none⟩,
 ⟨some 52, none, .mv (.s 10), .none⟩,
 ⟨some 53, none, .mv (.s 2), .none⟩,
 ⟨some 54, none, .mv (.s 3), .none⟩,
 ⟨some 55, none, .call 27 [.s 52, .c (.d (.str [])), .s 53, .s 54] 2, .none⟩,
 ⟨some 11, none, .alloc 62 [.int .i64 0, .nils], .cells [(1, 2, false)]⟩,
 ⟨some 12, none, .alloc 62 [.int .i64 0, .nils], .cells [(1, 2, false)]⟩,
 ⟨none, none, .st (.s 11) (.s 51) 2, .none⟩,
 ⟨none, none, .st (.s 12) (.s 55) 2, .none⟩])
 (.seq (.seq (.reg [⟨some 56, none, .mv (.s 0), .none⟩,
 ⟨some 57, none, .bin .eql (.s 56) (.c (.d (.int .i64 0))), .none⟩,
 ⟨some 58, none, .mv (.s 57), .none⟩,
 ⟨some 59, some (58, true), .fa (.s 12) 0, .none⟩,
 ⟨some 60, some (58, true), .ld (.s 59) 1 false, .none⟩,
 ⟨some 61, some (58, true), .bin .neq (.s 60) (.c (.d (.int .i64 416))), .none⟩,
 ⟨some 62, none, .pick (.s 58) (.s 61) (.c (.d (.bool false))), .none⟩,
 ⟨some 63, none, .mv (.s 62), .none⟩,
 ⟨some 64, some (63, false), .mv (.s 0), .none⟩,
 ⟨some 65, some (63, false), .bin .gtr (.s 64) (.c (.d (.int .i64 0))), .none⟩,
 ⟨some 66, some (63, false), .mv (.s 65), .none⟩,
 ⟨some 67, some (66, true), .fa (.s 12) 0, .none⟩,
 ⟨some 68, some (66, true), .ld (.s 67) 1 false, .none⟩,
 ⟨some 69, some (66, true), .bin .neq (.s 68) (.c (.d (.int .i64 206))), .none⟩,
 ⟨some 70, some (66, true), .mv (.s 69), .none⟩,
 ⟨some 71, some (70, false), .fa (.s 12) 1, .none⟩,
 ⟨some 72, some (70, false), .ld (.s 71) 1 false, .none⟩,
 ⟨some 73, some (70, false), .len (.s 72), .none⟩,
 ⟨some 74, some (70, false), .bin .neq (.s 73) (.c (.d (.int .i64 1))), .none⟩,
 ⟨some 75, some (66, true), .pick (.s 70) (.c (.d (.bool true))) (.s 74), .none⟩,
 ⟨some 76, some (66, true), .mv (.s 75), .none⟩,
 ⟨some 77, some (76, false), .fa (.s 12) 1, .none⟩,
 ⟨some 78, some (76, false), .ld (.s 77) 1 false, .none⟩,
 ⟨some 79, some (76, false), .is (.s 78) (.c (.d (.int .i64 0))) 2, .none⟩,
 ⟨some 80, some (76, false), .ld (.s 79) 2 true, .none⟩,
 ⟨some 81, some (76, false), .mv (.s 3), .none⟩,
 ⟨some 82, some (76, false), .mv (.s 0), .none⟩,
 ⟨some 83, some (76, false), .mv (.s 3), .none⟩,
 ⟨some 84, some (76, false), .mn (.s 82) (.s 83), .none⟩,
 ⟨some 85, some (76, false), .bin .sub (.s 81) (.s 84), .none⟩,
 ⟨some 86, some (76, false), .mv (.s 3), .none⟩,
 ⟨some 87, some (76, false), .build [.int .i64 0, .int .i64 0] [(0, (1, .s 85)), (1, (1, .s 86))], .none⟩,
 ⟨some 88, some (76, false), .eqs true [1, 1] (.s 80) (.s 87), .none⟩,
 ⟨some 89, some (66, true), .pick (.s 76) (.c (.d (.bool true))) (.s 88), .none⟩,
 ⟨some 90, some (63, false), .pick (.s 66) (.s 89) (.c (.d (.bool false))), .none⟩,
 ⟨some 91, none, .pick (.s 63) (.c (.d (.bool true))) (.s 90), .none⟩])
 (.cond (.s 91)
 (.seq (.reg [⟨some 8, none, .mv (.c (.d (.bool false))), .none⟩])
 (.ret none))
 .skip))
 (.seq (.seq (.reg [⟨some 92, none, .mv (.s 0), .none⟩,
 ⟨some 93, none, .mv (.s 3), .none⟩,
 ⟨some 94, none, .bin .geq (.s 92) (.s 93), .none⟩])
 (.cond (.s 94)
 (.seq (.reg [⟨some 95, none, .fa (.s 11) 0, .none⟩,
 ⟨some 96, none, .ld (.s 95) 1 false, .none⟩,
 ⟨some 97, none, .bin .eql (.s 96) (.c (.d (.int .i64 416))), .none⟩,
 ⟨some 8, none, .mv (.s 97), .none⟩])
 (.ret none))
 .skip))
 (.seq (.reg [⟨some 98, none, .fa (.s 11) 0, .none⟩,
 ⟨some 99, none, .ld (.s 98) 1 false, .none⟩,
 ⟨some 100, none, .bin .eql (.s 99) (.c (.d (.int .i64 206))), .none⟩,
 ⟨some 101, none, .mv (.s 100), .none⟩,
 ⟨some 102, some (101, true), .fa (.s 11) 1, .none⟩,
 ⟨some 103, some (101, true), .ld (.s 102) 1 false, .none⟩,
 ⟨some 104, some (101, true), .len (.s 103), .none⟩,
 ⟨some 105, some (101, true), .bin .eql (.s 104) (.c (.d (.int .i64 1))), .none⟩,
 ⟨some 106, none, .pick (.s 101) (.s 105) (.c (.d (.bool false))), .none⟩,
 ⟨some 107, none, .mv (.s 106), .none⟩,
 ⟨some 108, some (107, true), .fa (.s 11) 1, .none⟩,
 ⟨some 109, some (107, true), .ld (.s 108) 1 false, .none⟩,
 ⟨some 110, some (107, true), .is (.s 109) (.c (.d (.int .i64 0))) 2, .none⟩,
 ⟨some 111, some (107, true), .ld (.s 110) 2 true, .none⟩,
 ⟨some 112, some (107, true), .mv (.s 0), .none⟩,
 ⟨some 113, some (107, true), .mv (.s 1), .none⟩,
 ⟨some 114, some (107, true), .bin .add (.s 113) (.c (.d (.int .i64 1))), .none⟩,
 ⟨some 115, some (107, true), .mv (.s 3), .none⟩,
 ⟨some 116, some (107, true), .mn (.s 114) (.s 115), .none⟩,
 ⟨some 117, some (107, true), .build [.int .i64 0, .int .i64 0] [(0, (1, .s 112)), (1, (1, .s 116))], .none⟩,
 ⟨some 118, some (107, true), .eqs false [1, 1] (.s 111) (.s 117), .none⟩,
 ⟨some 119, none, .pick (.s 107) (.s 118) (.c (.d (.bool false))), .none⟩,
 ⟨some 8, none, .mv (.s 119), .none⟩])
 (.ret none)))))))))
def ir8 : F := { n := 120, res := [.tmp 8], body := bd8 }
@[go_sem] theorem n8 : ir8.n = 120 := rfl
@[go_sem] theorem r8 : ir8.res = [.tmp 8] := rfl
@[go_sem] theorem b8 : ir8.body = bd8 := rfl
/-- spence/spencelaw09.awake -/
def bd26 : C :=
 (.seq (.reg [⟨some 0, none, .mv (.c (.d (.bool false))), .none⟩])
 (.seq (.reg [⟨some 2, none, .call 27 [.c (.d (.str [98, 121, 116, 101, 115, 61, 48, 45, 52, 44, 50, 45, 57])), .c (.d (.str [])), .c (.d (.str [118])), .c (.d (.int .i64 100))] 2, .none⟩,
 ⟨some 1, none, .alloc 62 [.int .i64 0, .nils], .cells [(1, 2, false)]⟩,
 ⟨none, none, .st (.s 1) (.s 2) 2, .none⟩])
 (.seq (.reg [⟨some 3, none, .fa (.s 1) 0, .none⟩,
 ⟨some 4, none, .ld (.s 3) 1 false, .none⟩,
 ⟨some 5, none, .bin .eql (.s 4) (.c (.d (.int .i64 206))), .none⟩,
 ⟨some 6, none, .mv (.s 5), .none⟩,
 ⟨some 7, some (6, true), .fa (.s 1) 1, .none⟩,
 ⟨some 8, some (6, true), .ld (.s 7) 1 false, .none⟩,
 ⟨some 9, some (6, true), .len (.s 8), .none⟩,
 ⟨some 10, some (6, true), .bin .eql (.s 9) (.c (.d (.int .i64 1))), .none⟩,
 ⟨some 11, none, .pick (.s 6) (.s 10) (.c (.d (.bool false))), .none⟩,
 ⟨some 12, none, .mv (.s 11), .none⟩,
 ⟨some 13, some (12, true), .fa (.s 1) 1, .none⟩,
 ⟨some 14, some (12, true), .ld (.s 13) 1 false, .none⟩,
 ⟨some 15, some (12, true), .is (.s 14) (.c (.d (.int .i64 0))) 2, .none⟩,
 ⟨some 16, some (12, true), .ld (.s 15) 2 true, .none⟩,
 ⟨some 17, some (12, true), .build [.int .i64 0, .int .i64 0] [(1, (1, .c (.d (.int .i64 10))))], .none⟩,
 ⟨some 18, some (12, true), .eqs false [1, 1] (.s 16) (.s 17), .none⟩,
 ⟨some 19, none, .pick (.s 12) (.s 18) (.c (.d (.bool false))), .none⟩,
 ⟨some 0, none, .mv (.s 19), .none⟩])
 (.ret none))))
def ir26 : F := { n := 20, res := [.tmp 0], body := bd26 }
@[go_sem] theorem n26 : ir26.n = 20 := rfl
@[go_sem] theorem r26 : ir26.res = [.tmp 0] := rfl
@[go_sem] theorem b26 : ir26.body = bd26 := rfl
/-- spence/ifrange.Choose -/
def bd27 : C :=
 (.seq (.reg [⟨some 8, none, .alloc 62 [.int .i64 0, .nils], .cells [(1, 2, false)]⟩])
 (.seq (.reg [⟨some 11, none, .mv (.s 0), .none⟩,
 ⟨some 12, none, .call 51 [.s 11] 2, .none⟩,
 ⟨some 9, none, .mv (.s 12), .none⟩])
 (.seq (.seq (.reg [⟨some 13, none, .mv (.s 9), .none⟩,
 ⟨some 14, none, .len (.s 13), .none⟩,
 ⟨some 15, none, .bin .eql (.s 14) (.c (.d (.int .i64 0))), .none⟩,
 ⟨some 16, none, .mv (.s 15), .none⟩,
 ⟨some 17, some (16, false), .mv (.s 1), .none⟩,
 ⟨some 18, some (16, false), .mv (.s 2), .none⟩,
 ⟨some 19, some (16, false), .call 52 [.s 17, .s 18] 2, .none⟩,
 ⟨some 20, some (16, false), .un .not (.s 19), .none⟩,
 ⟨some 21, none, .pick (.s 16) (.c (.d (.bool true))) (.s 20), .none⟩])
 (.cond (.s 21)
 (.seq (.reg [⟨some 22, none, .mv (.s 3), .none⟩,
 ⟨some 23, none, .call 53 [.s 22] 2, .none⟩,
 ⟨none, none, .st (.s 8) (.s 23) 2, .none⟩])
 (.ret none))
 .skip))
 (.seq (.reg [⟨some 24, none, .mv (.s 9), .none⟩,
 ⟨some 25, none, .mv (.s 3), .none⟩,
 ⟨some 26, none, .call 54 [.s 24, .s 25] 2, .none⟩,
 ⟨some 10, none, .mv (.s 26), .none⟩])
 (.seq (.block 0 (.seq (.reg [⟨some 28, none, .mv (.s 10), .none⟩,
 ⟨some 29, none, .len (.s 28), .none⟩,
 ⟨some 30, none, .bin .eql (.s 29) (.c (.d (.int .i64 0))), .none⟩,
 ⟨some 27, none, .mv (.s 30), .none⟩])
 (.cond (.s 27)
 (.seq (.reg [⟨some 31, none, .build [.int .i64 0, .nils] [(0, (1, .c (.d (.int .i64 416))))], .cells [(1, 2, false)]⟩,
 ⟨none, none, .st (.s 8) (.s 31) 2, .none⟩])
 (.ret none))
 (.seq (.reg [⟨some 33, none, .mv (.s 10), .none⟩,
 ⟨some 34, none, .call 55 [.s 33] 2, .none⟩,
 ⟨some 32, none, .mv (.s 34), .none⟩])
 (.cond (.s 32)
 (.reg [⟨some 35, none, .mv (.s 10), .none⟩,
 ⟨some 36, none, .call 56 [.s 35, .c (.d (.int .i64 0))] 2, .none⟩,
 ⟨some 10, none, .mv (.s 36), .none⟩])
 .skip)))))
 (.seq (.reg [⟨some 37, none, .mv (.s 10), .none⟩,
 ⟨some 38, none, .build [.int .i64 0, .nils] [(0, (1, .c (.d (.int .i64 206)))), (1, (1, .s 37))], .cells [(1, 2, false)]⟩,
 ⟨none, none, .st (.s 8) (.s 38) 2, .none⟩])
 (.ret none)))))))
def ir27 : F := { n := 39, res := [.cell 8 2 true], body := bd27 }
@[go_sem] theorem n27 : ir27.n = 39 := rfl
@[go_sem] theorem r27 : ir27.res = [.cell 8 2 true] := rfl
@[go_sem] theorem b27 : ir27.body = bd27 := rfl
def lb28_0 : C :=
 (.seq (.reg [⟨some 47, none, .bin .lss (.s 46) (.s 45), .none⟩])
 (.seq (.cond (.s 47)
 .skip
 (.exit 0 (some [9, 10])))
 (.seq (.block 1 (.seq (.reg [⟨some 48, none, .is (.s 44) (.s 46) 1, .none⟩,
 ⟨some 49, none, .ld (.s 48) 1 false, .none⟩,
 ⟨some 12, none, .mv (.s 49), .none⟩])
 (.seq (.reg [⟨some 51, none, .mv (.s 12), .none⟩,
 ⟨some 52, none, .call 62 [.s 51] 2, .none⟩,
 ⟨some 50, none, .mv (.s 52), .none⟩,
 ⟨some 53, none, .ext (.s 50) 0, .none⟩,
 ⟨some 54, none, .ext (.s 50) 1, .none⟩,
 ⟨some 13, none, .alloc 72 [.int .i64 0, .int .i64 0, .int .i64 0], .none⟩,
 ⟨none, none, .st (.s 13) (.s 53) 3, .none⟩,
 ⟨some 14, none, .mv (.s 54), .none⟩])
 (.seq (.seq (.reg [⟨some 55, none, .mv (.s 14), .none⟩,
 ⟨some 56, none, .bin .eql (.s 55) (.c (.d (.int .i64 3))), .none⟩])
 (.cond (.s 56)
 (.seq (.reg [⟨some 2, none, .mv (.c (.d .nils)), .one 3 true⟩,
 ⟨some 3, none, .mv (.c (.d (.int .i64 3))), .none⟩])
 (.ret (some [2, 3])))
 .skip))
 (.seq (.reg [⟨some 57, none, .mv (.s 10), .none⟩,
 ⟨some 58, none, .mv (.s 57), .none⟩,
 ⟨some 59, some (58, false), .mv (.s 14), .none⟩,
 ⟨some 60, some (58, false), .bin .neq (.s 59) (.c (.d (.int .i64 0))), .none⟩,
 ⟨some 61, none, .pick (.s 58) (.c (.d (.bool true))) (.s 60), .none⟩,
 ⟨some 10, none, .mv (.s 61), .none⟩])
 (.reg [⟨some 62, none, .mv (.s 9), .none⟩,
 ⟨some 63, none, .ld (.s 13) 3 true, .none⟩,
 ⟨some 64, none, .bsl 72 3 1 [.int .i64 0, .int .i64 0, .int .i64 0] [(0, (3, .s 63))], .none⟩,
 ⟨some 65, none, .app 72 3 24 (.s 62) (.s 64), .none⟩,
 ⟨some 9, none, .mv (.s 65), .none⟩]))))))
 (.reg [⟨some 66, none, .bin .add (.s 46) (.c (.d (.int .i64 1))), .none⟩,
 ⟨some 46, none, .mv (.s 66), .none⟩]))))
def lp28_0 : C := lb28_0
theorem u28_0 (c : Ev.Callee) (l : Ev.Looper) (s : St) : evC c l lp28_0 s = evC c l lb28_0 s := rfl
abbrev st28_0 (m : Nat) (s9 s10 s44 s45 s46 : AV) (h : Heap) : St := ⟨m, [.unk, .unk, .unk, .unk, .unk, .unk, .unk, .unk, .unk, s9, s10, .unk, .unk, .unk, .unk, .unk, .unk, .unk, .unk, .unk, .unk, .unk, .unk, .unk, .unk, .unk, .unk, .unk, .unk, .unk, .unk, .unk, .unk, .unk, .unk, .unk, .unk, .unk, .unk, .unk, .unk, .unk, .unk, .unk, s44, s45, s46, .unk, .unk, .unk, .unk, .unk, .unk, .unk, .unk, .unk, .unk, .unk, .unk, .unk, .unk, .unk, .unk, .unk, .unk, .unk, .unk, .unk, .unk, .unk, .unk, .unk], h⟩
@[go_sem] theorem ks28_0 (v0 v1 v2 v3 v4 v5 v6 v7 v8 v9 v10 v11 v12 v13 v14 v15 v16 v17 v18 v19 v20 v21 v22 v23 v24 v25 v26 v27 v28 v29 v30 v31 v32 v33 v34 v35 v36 v37 v38 v39 v40 v41 v42 v43 v44 v45 v46 v47 v48 v49 v50 v51 v52 v53 v54 v55 v56 v57 v58 v59 v60 v61 v62 v63 v64 v65 v66 v67 v68 v69 v70 v71 : AV) : keepS [9, 10, 44, 45, 46] [v0, v1, v2, v3, v4, v5, v6, v7, v8, v9, v10, v11, v12, v13, v14, v15, v16, v17, v18, v19, v20, v21, v22, v23, v24, v25, v26, v27, v28, v29, v30, v31, v32, v33, v34, v35, v36, v37, v38, v39, v40, v41, v42, v43, v44, v45, v46, v47, v48, v49, v50, v51, v52, v53, v54, v55, v56, v57, v58, v59, v60, v61, v62, v63, v64, v65, v66, v67, v68, v69, v70, v71] 0 = [.unk, .unk, .unk, .unk, .unk, .unk, .unk, .unk, .unk, v9, v10, .unk, .unk, .unk, .unk, .unk, .unk, .unk, .unk, .unk, .unk, .unk, .unk, .unk, .unk, .unk, .unk, .unk, .unk, .unk, .unk, .unk, .unk, .unk, .unk, .unk, .unk, .unk, .unk, .unk, .unk, .unk, .unk, .unk, v44, v45, v46, .unk, .unk, .unk, .unk, .unk, .unk, .unk, .unk, .unk, .unk, .unk, .unk, .unk, .unk, .unk, .unk, .unk, .unk, .unk, .unk, .unk, .unk, .unk, .unk, .unk] := rfl
@[go_sem] theorem ks28_1 (v0 v1 v2 v3 v4 v5 v6 v7 v8 v9 v10 v11 v12 v13 v14 v15 v16 v17 v18 v19 v20 v21 v22 v23 v24 v25 v26 v27 v28 v29 v30 v31 v32 v33 v34 v35 v36 v37 v38 v39 v40 v41 v42 v43 v44 v45 v46 v47 v48 v49 v50 v51 v52 v53 v54 v55 v56 v57 v58 v59 v60 v61 v62 v63 v64 v65 v66 v67 v68 v69 v70 v71 : AV) : keepS [9, 10] [v0, v1, v2, v3, v4, v5, v6, v7, v8, v9, v10, v11, v12, v13, v14, v15, v16, v17, v18, v19, v20, v21, v22, v23, v24, v25, v26, v27, v28, v29, v30, v31, v32, v33, v34, v35, v36, v37, v38, v39, v40, v41, v42, v43, v44, v45, v46, v47, v48, v49, v50, v51, v52, v53, v54, v55, v56, v57, v58, v59, v60, v61, v62, v63, v64, v65, v66, v67, v68, v69, v70, v71] 0 = [.unk, .unk, .unk, .unk, .unk, .unk, .unk, .unk, .unk, v9, v10, .unk, .unk, .unk, .unk, .unk, .unk, .unk, .unk, .unk, .unk, .unk, .unk, .unk, .unk, .unk, .unk, .unk, .unk, .unk, .unk, .unk, .unk, .unk, .unk, .unk, .unk, .unk, .unk, .unk, .unk, .unk, .unk, .unk, .unk, .unk, .unk, .unk, .unk, .unk, .unk, .unk, .unk, .unk, .unk, .unk, .unk, .unk, .unk, .unk, .unk, .unk, .unk, .unk, .unk, .unk, .unk, .unk, .unk, .unk, .unk, .unk] := rfl
@[go_sem] theorem ks28_2 (v0 v1 v2 v3 v4 v5 v6 v7 v8 v9 v10 v11 v12 v13 v14 v15 v16 v17 v18 v19 v20 v21 v22 v23 v24 v25 v26 v27 v28 v29 v30 v31 v32 v33 v34 v35 v36 v37 v38 v39 v40 v41 v42 v43 v44 v45 v46 v47 v48 v49 v50 v51 v52 v53 v54 v55 v56 v57 v58 v59 v60 v61 v62 v63 v64 v65 v66 v67 v68 v69 v70 v71 : AV) : keepS [2, 3] [v0, v1, v2, v3, v4, v5, v6, v7, v8, v9, v10, v11, v12, v13, v14, v15, v16, v17, v18, v19, v20, v21, v22, v23, v24, v25, v26, v27, v28, v29, v30, v31, v32, v33, v34, v35, v36, v37, v38, v39, v40, v41, v42, v43, v44, v45, v46, v47, v48, v49, v50, v51, v52, v53, v54, v55, v56, v57, v58, v59, v60, v61, v62, v63, v64, v65, v66, v67, v68, v69, v70, v71] 0 = [.unk, .unk, v2, v3, .unk, .unk, .unk, .unk, .unk, .unk, .unk, .unk, .unk, .unk, .unk, .unk, .unk, .unk, .unk, .unk, .unk, .unk, .unk, .unk, .unk, .unk, .unk, .unk, .unk, .unk, .unk, .unk, .unk, .unk, .unk, .unk, .unk, .unk, .unk, .unk, .unk, .unk, .unk, .unk, .unk, .unk, .unk, .unk, .unk, .unk, .unk, .unk, .unk, .unk, .unk, .unk, .unk, .unk, .unk, .unk, .unk, .unk, .unk, .unk, .unk, .unk, .unk, .unk, .unk, .unk, .unk, .unk] := rfl
/-- spence/spenceref04.Specs -/
def bd28 : C :=
 (.seq (.reg [⟨some 2, none, .mv (.c (.d .nils)), .one 3 true⟩,
 ⟨some 3, none, .mv (.c (.d (.int .i64 0))), .none⟩])
 (.seq (.reg [⟨some 16, none, .mv (.s 0), .none⟩,
 ⟨some 17, none, .call 58 [.s 16, .c (.d (.bool false))] 2, .none⟩,
 ⟨some 18, none, .call 57 [.s 17, .c (.d (.int .u8 61))] 2, .none⟩,
 ⟨some 15, none, .mv (.s 18), .none⟩,
 ⟨some 19, none, .ext (.s 15) 0, .none⟩,
 ⟨some 20, none, .ext (.s 15) 1, .none⟩,
 ⟨some 21, none, .ext (.s 15) 2, .none⟩,
 ⟨some 4, none, .mv (.s 19), .none⟩,
 ⟨some 5, none, .mv (.s 20), .none⟩,
 ⟨some 6, none, .mv (.s 21), .none⟩])
 (.seq (.reg [⟨some 23, none, .mv (.s 5), .none⟩,
 ⟨some 24, none, .call 60 [.s 23, .c (.d (.bool false))] 2, .none⟩,
 ⟨some 25, none, .call 59 [.s 24] 2, .none⟩,
 ⟨some 22, none, .mv (.s 25), .none⟩,
 ⟨some 26, none, .ext (.s 22) 0, .none⟩,
 ⟨some 27, none, .ext (.s 22) 1, .none⟩,
 ⟨some 7, none, .mv (.s 26), .none⟩,
 ⟨some 8, none, .mv (.s 27), .none⟩])
 (.seq (.seq (.reg [⟨some 28, none, .mv (.s 6), .none⟩,
 ⟨some 29, none, .un .not (.s 28), .none⟩,
 ⟨some 30, none, .mv (.s 29), .none⟩,
 ⟨some 31, some (30, false), .mv (.s 4), .none⟩,
 ⟨some 32, some (30, false), .call 61 [.s 31] 2, .none⟩,
 ⟨some 33, some (30, false), .bin .neq (.s 32) (.c (.d (.str [98, 121, 116, 101, 115]))), .none⟩,
 ⟨some 34, none, .pick (.s 30) (.c (.d (.bool true))) (.s 33), .none⟩,
 ⟨some 35, none, .mv (.s 34), .none⟩,
 ⟨some 36, some (35, false), .mv (.s 8), .none⟩,
 ⟨some 37, some (35, false), .un .not (.s 36), .none⟩,
 ⟨some 38, none, .pick (.s 35) (.c (.d (.bool true))) (.s 37), .none⟩,
 ⟨some 39, none, .mv (.s 38), .none⟩,
 ⟨some 40, some (39, false), .mv (.s 7), .none⟩,
 ⟨some 41, some (39, false), .len (.s 40), .none⟩,
 ⟨some 42, some (39, false), .bin .eql (.s 41) (.c (.d (.int .i64 0))), .none⟩,
 ⟨some 43, none, .pick (.s 39) (.c (.d (.bool true))) (.s 42), .none⟩])
 (.cond (.s 43)
 (.seq (.reg [⟨some 2, none, .mv (.c (.d .nils)), .one 3 true⟩,
 ⟨some 3, none, .mv (.c (.d (.int .i64 3))), .none⟩])
 (.ret none))
 .skip))
 (.seq (.reg [⟨some 9, none, .mv (.c (.d .nils)), .one 3 true⟩])
 (.seq (.reg [⟨some 10, none, .mv (.c (.d (.bool false))), .none⟩])
 (.seq (.seq (.reg [⟨some 44, none, .mv (.s 7), .none⟩,
 ⟨some 45, none, .len (.s 44), .none⟩,
 ⟨some 46, none, .mv (.c (.d (.int .i64 0))), .none⟩])
 (.block 0 (.loop [9, 10, 44, 45, 46] lp28_0)))
 (.seq (.seq (.reg [⟨some 67, none, .mv (.s 10), .none⟩])
 (.cond (.s 67)
 (.seq (.reg [⟨some 2, none, .mv (.c (.d .nils)), .one 3 true⟩,
 ⟨some 3, none, .mv (.c (.d (.int .i64 9))), .none⟩])
 (.ret none))
 .skip))
 (.seq (.seq (.reg [⟨some 68, none, .mv (.s 9), .none⟩,
 ⟨some 69, none, .len (.s 68), .none⟩,
 ⟨some 70, none, .bin .gtr (.s 69) (.c (.d (.int .i64 16))), .none⟩])
 (.cond (.s 70)
 (.seq (.reg [⟨some 2, none, .mv (.c (.d .nils)), .one 3 true⟩,
 ⟨some 3, none, .mv (.c (.d (.int .i64 10))), .none⟩])
 (.ret none))
 .skip))
 (.seq (.reg [⟨some 71, none, .mv (.s 9), .none⟩,
 ⟨some 2, none, .mv (.s 71), .none⟩,
 ⟨some 3, none, .mv (.c (.d (.int .i64 0))), .none⟩])
 (.ret none)))))))))))
def ir28 : F := { n := 72, res := [.tmp 2, .tmp 3], body := bd28 }
@[go_sem] theorem n28 : ir28.n = 72 := rfl
@[go_sem] theorem r28 : ir28.res = [.tmp 2, .tmp 3] := rfl
@[go_sem] theorem b28 : ir28.body = bd28 := rfl
def lb29_0 : C :=
 (.seq (.reg [⟨some 10, none, .bin .lss (.s 9) (.s 8), .none⟩])
 (.seq (.cond (.s 10)
 .skip
 (.exit 0 (some [])))
 (.seq (.block 1 (.seq (.reg [⟨some 11, none, .is (.s 7) (.s 9) 2, .none⟩,
 ⟨some 12, none, .ld (.s 11) 2 true, .none⟩,
 ⟨some 6, none, .alloc 52 [.int .i64 0, .int .i64 0], .none⟩,
 ⟨none, none, .st (.s 6) (.s 12) 2, .none⟩])
 (.seq (.reg [⟨some 13, none, .ld (.s 6) 2 true, .none⟩,
 ⟨some 14, none, .call 41 [.s 13] 2, .none⟩,
 ⟨some 15, none, .mv (.s 14), .none⟩,
 ⟨some 16, some (15, true), .fa (.s 6) 0, .none⟩,
 ⟨some 17, some (15, true), .ld (.s 16) 1 false, .none⟩,
 ⟨some 18, some (15, true), .mv (.s 1), .none⟩,
 ⟨some 19, some (15, true), .bin .leq (.s 17) (.s 18), .none⟩,
 ⟨some 20, none, .pick (.s 15) (.s 19) (.c (.d (.bool false))), .none⟩,
 ⟨some 21, none, .mv (.s 20), .none⟩,
 ⟨some 22, some (21, true), .mv (.s 1), .none⟩,
 ⟨some 23, some (21, true), .fa (.s 6) 1, .none⟩,
 ⟨some 24, some (21, true), .ld (.s 23) 1 false, .none⟩,
 ⟨some 25, some (21, true), .bin .lss (.s 22) (.s 24), .none⟩,
 ⟨some 26, none, .pick (.s 21) (.s 25) (.c (.d (.bool false))), .none⟩])
 (.cond (.s 26)
 (.seq (.reg [⟨some 4, none, .mv (.c (.d (.bool true))), .none⟩])
 (.ret (some [4])))
 .skip))))
 (.reg [⟨some 27, none, .bin .add (.s 9) (.c (.d (.int .i64 1))), .none⟩,
 ⟨some 9, none, .mv (.s 27), .none⟩]))))
def lp29_0 : C := lb29_0
theorem u29_0 (c : Ev.Callee) (l : Ev.Looper) (s : St) : evC c l lp29_0 s = evC c l lb29_0 s := rfl
abbrev st29_0 (m : Nat) (s1 s7 s8 s9 : AV) (h : Heap) : St := ⟨m, [.unk, s1, .unk, .unk, .unk, .unk, .unk, s7, s8, s9, .unk, .unk, .unk, .unk, .unk, .unk, .unk, .unk, .unk, .unk, .unk, .unk, .unk, .unk, .unk, .unk, .unk, .unk], h⟩
@[go_sem] theorem ks29_0 (v0 v1 v2 v3 v4 v5 v6 v7 v8 v9 v10 v11 v12 v13 v14 v15 v16 v17 v18 v19 v20 v21 v22 v23 v24 v25 v26 v27 : AV) : keepS [1, 7, 8, 9] [v0, v1, v2, v3, v4, v5, v6, v7, v8, v9, v10, v11, v12, v13, v14, v15, v16, v17, v18, v19, v20, v21, v22, v23, v24, v25, v26, v27] 0 = [.unk, v1, .unk, .unk, .unk, .unk, .unk, v7, v8, v9, .unk, .unk, .unk, .unk, .unk, .unk, .unk, .unk, .unk, .unk, .unk, .unk, .unk, .unk, .unk, .unk, .unk, .unk] := rfl
@[go_sem] theorem ks29_1 (v0 v1 v2 v3 v4 v5 v6 v7 v8 v9 v10 v11 v12 v13 v14 v15 v16 v17 v18 v19 v20 v21 v22 v23 v24 v25 v26 v27 : AV) : keepS [] [v0, v1, v2, v3, v4, v5, v6, v7, v8, v9, v10, v11, v12, v13, v14, v15, v16, v17, v18, v19, v20, v21, v22, v23, v24, v25, v26, v27] 0 = [.unk, .unk, .unk, .unk, .unk, .unk, .unk, .unk, .unk, .unk, .unk, .unk, .unk, .unk, .unk, .unk, .unk, .unk, .unk, .unk, .unk, .unk, .unk, .unk, .unk, .unk, .unk, .unk] := rfl
@[go_sem] theorem ks29_2 (v0 v1 v2 v3 v4 v5 v6 v7 v8 v9 v10 v11 v12 v13 v14 v15 v16 v17 v18 v19 v20 v21 v22 v23 v24 v25 v26 v27 : AV) : keepS [4] [v0, v1, v2, v3, v4, v5, v6, v7, v8, v9, v10, v11, v12, v13, v14, v15, v16, v17, v18, v19, v20, v21, v22, v23, v24, v25, v26, v27] 0 = [.unk, .unk, .unk, .unk, v4, .unk, .unk, .unk, .unk, .unk, .unk, .unk, .unk, .unk, .unk, .unk, .unk, .unk, .unk, .unk, .unk, .unk, .unk, .unk, .unk, .unk, .unk, .unk] := rfl
/-- spence/spenceref04.Has -/
def bd29 : C :=
 (.seq (.reg [⟨some 4, none, .mv (.c (.d (.bool false))), .none⟩])
 (.seq (.seq (.reg [⟨some 7, none, .mv (.s 0), .none⟩,
 ⟨some 8, none, .len (.s 7), .none⟩,
 ⟨some 9, none, .mv (.c (.d (.int .i64 0))), .none⟩])
 (.block 0 (.loop [1, 7, 8, 9] lp29_0)))
 (.seq (.reg [⟨some 4, none, .mv (.c (.d (.bool false))), .none⟩])
 (.ret none))))
def ir29 : F := { n := 28, res := [.tmp 4], body := bd29 }
@[go_sem] theorem n29 : ir29.n = 28 := rfl
@[go_sem] theorem r29 : ir29.res = [.tmp 4] := rfl
@[go_sem] theorem b29 : ir29.body = bd29 := rfl
def lb30_0 : C :=
 (.seq (.reg [⟨some 19, none, .bin .lss (.s 18) (.s 17), .none⟩])
 (.seq (.cond (.s 19)
 .skip
 (.exit 0 (some [5])))
 (.seq (.block 1 (.seq (.reg [⟨some 20, none, .is (.s 16) (.s 18) 3, .none⟩,
 ⟨some 21, none, .ld (.s 20) 3 true, .none⟩,
 ⟨some 7, none, .alloc 72 [.int .i64 0, .int .i64 0, .int .i64 0], .none⟩,
 ⟨none, none, .st (.s 7) (.s 21) 3, .none⟩])
 (.seq (.seq (.reg [⟨some 22, none, .ld (.s 7) 3 true, .none⟩,
 ⟨some 23, none, .call 63 [.s 22] 2, .none⟩,
 ⟨some 24, none, .un .not (.s 23), .none⟩])
 (.cond (.s 24)
 (.exit 1 none)
 .skip))
 (.seq (.reg [⟨some 25, none, .fa (.s 7) 1, .none⟩,
 ⟨some 26, none, .ld (.s 25) 1 false, .none⟩,
 ⟨some 27, none, .mv (.s 1), .none⟩,
 ⟨some 28, none, .build [.int .i64 0, .int .i64 0] [(0, (1, .s 26)), (1, (1, .s 27))], .none⟩,
 ⟨some 8, none, .alloc 52 [.int .i64 0, .int .i64 0], .none⟩,
 ⟨none, none, .st (.s 8) (.s 28) 2, .none⟩])
 (.seq (.seq (.reg [⟨some 29, none, .fa (.s 7) 0, .none⟩,
 ⟨some 30, none, .ld (.s 29) 1 false, .none⟩,
 ⟨some 31, none, .bin .eql (.s 30) (.c (.d (.int .i64 2))), .none⟩,
 ⟨some 32, none, .mv (.s 31), .none⟩,
 ⟨some 33, some (32, true), .fa (.s 7) 2, .none⟩,
 ⟨some 34, some (32, true), .ld (.s 33) 1 false, .none⟩,
 ⟨some 35, some (32, true), .mv (.s 1), .none⟩,
 ⟨some 36, some (32, true), .bin .sub (.s 35) (.c (.d (.int .i64 1))), .none⟩,
 ⟨some 37, some (32, true), .bin .lss (.s 34) (.s 36), .none⟩,
 ⟨some 38, none, .pick (.s 32) (.s 37) (.c (.d (.bool false))), .none⟩])
 (.cond (.s 38)
 (.reg [⟨some 39, none, .fa (.s 7) 2, .none⟩,
 ⟨some 40, none, .ld (.s 39) 1 false, .none⟩,
 ⟨some 41, none, .bin .add (.s 40) (.c (.d (.int .i64 1))), .none⟩,
 ⟨some 42, none, .fa (.s 8) 1, .none⟩,
 ⟨none, none, .st (.s 42) (.s 41) 1, .none⟩])
 .skip))
 (.ann [1, 5, 7, 8, 16, 17, 18] (.seq (.seq (.reg [⟨some 43, none, .fa (.s 7) 0, .none⟩,
 ⟨some 44, none, .ld (.s 43) 1 false, .none⟩,
 ⟨some 45, none, .bin .eql (.s 44) (.c (.d (.int .i64 3))), .none⟩])
 (.cond (.s 45)
 (.seq (.reg [⟨some 46, none, .fa (.s 8) 0, .none⟩,
 ⟨none, none, .st (.s 46) (.c (.d (.int .i64 0))) 1, .none⟩])
 (.seq (.reg [⟨some 47, none, .fa (.s 7) 1, .none⟩,
 ⟨some 48, none, .ld (.s 47) 1 false, .none⟩,
 ⟨some 49, none, .mv (.s 1), .none⟩,
 ⟨some 50, none, .bin .lss (.s 48) (.s 49), .none⟩])
 (.cond (.s 50)
 (.reg [⟨some 51, none, .mv (.s 1), .none⟩,
 ⟨some 52, none, .fa (.s 7) 1, .none⟩,
 ⟨some 53, none, .ld (.s 52) 1 false, .none⟩,
 ⟨some 54, none, .bin .sub (.s 51) (.s 53), .none⟩,
 ⟨some 55, none, .fa (.s 8) 0, .none⟩,
 ⟨none, none, .st (.s 55) (.s 54) 1, .none⟩])
 .skip)))
 .skip))
 (.ann [1, 5, 8, 16, 17, 18] (.seq (.reg [⟨some 56, none, .ld (.s 8) 2 true, .none⟩,
 ⟨some 57, none, .call 41 [.s 56] 2, .none⟩])
 (.cond (.s 57)
 (.reg [⟨some 58, none, .mv (.s 5), .none⟩,
 ⟨some 59, none, .ld (.s 8) 2 true, .none⟩,
 ⟨some 60, none, .bsl 52 2 1 [.int .i64 0, .int .i64 0] [(0, (2, .s 59))], .none⟩,
 ⟨some 61, none, .app 52 2 16 (.s 58) (.s 60), .none⟩,
 ⟨some 5, none, .mv (.s 61), .none⟩])
 .skip))))))))))
 (.reg [⟨some 62, none, .bin .add (.s 18) (.c (.d (.int .i64 1))), .none⟩,
 ⟨some 18, none, .mv (.s 62), .none⟩]))))
def lp30_0 : C := lb30_0
theorem u30_0 (c : Ev.Callee) (l : Ev.Looper) (s : St) : evC c l lp30_0 s = evC c l lb30_0 s := rfl
abbrev st30_0 (m : Nat) (s1 s5 s16 s17 s18 : AV) (h : Heap) : St := ⟨m, [.unk, s1, .unk, .unk, .unk, s5, .unk, .unk, .unk, .unk, .unk, .unk, .unk, .unk, .unk, .unk, s16, s17, s18, .unk, .unk, .unk, .unk, .unk, .unk, .unk, .unk, .unk, .unk, .unk, .unk, .unk, .unk, .unk, .unk, .unk, .unk, .unk, .unk, .unk, .unk, .unk, .unk, .unk, .unk, .unk, .unk, .unk, .unk, .unk, .unk, .unk, .unk, .unk, .unk, .unk, .unk, .unk, .unk, .unk, .unk, .unk, .unk, .unk], h⟩
@[go_sem] theorem ks30_0 (v0 v1 v2 v3 v4 v5 v6 v7 v8 v9 v10 v11 v12 v13 v14 v15 v16 v17 v18 v19 v20 v21 v22 v23 v24 v25 v26 v27 v28 v29 v30 v31 v32 v33 v34 v35 v36 v37 v38 v39 v40 v41 v42 v43 v44 v45 v46 v47 v48 v49 v50 v51 v52 v53 v54 v55 v56 v57 v58 v59 v60 v61 v62 v63 : AV) : keepS [1, 5, 16, 17, 18] [v0, v1, v2, v3, v4, v5, v6, v7, v8, v9, v10, v11, v12, v13, v14, v15, v16, v17, v18, v19, v20, v21, v22, v23, v24, v25, v26, v27, v28, v29, v30, v31, v32, v33, v34, v35, v36, v37, v38, v39, v40, v41, v42, v43, v44, v45, v46, v47, v48, v49, v50, v51, v52, v53, v54, v55, v56, v57, v58, v59, v60, v61, v62, v63] 0 = [.unk, v1, .unk, .unk, .unk, v5, .unk, .unk, .unk, .unk, .unk, .unk, .unk, .unk, .unk, .unk, v16, v17, v18, .unk, .unk, .unk, .unk, .unk, .unk, .unk, .unk, .unk, .unk, .unk, .unk, .unk, .unk, .unk, .unk, .unk, .unk, .unk, .unk, .unk, .unk, .unk, .unk, .unk, .unk, .unk, .unk, .unk, .unk, .unk, .unk, .unk, .unk, .unk, .unk, .unk, .unk, .unk, .unk, .unk, .unk, .unk, .unk, .unk] := rfl
@[go_sem] theorem ks30_1 (v0 v1 v2 v3 v4 v5 v6 v7 v8 v9 v10 v11 v12 v13 v14 v15 v16 v17 v18 v19 v20 v21 v22 v23 v24 v25 v26 v27 v28 v29 v30 v31 v32 v33 v34 v35 v36 v37 v38 v39 v40 v41 v42 v43 v44 v45 v46 v47 v48 v49 v50 v51 v52 v53 v54 v55 v56 v57 v58 v59 v60 v61 v62 v63 : AV) : keepS [5] [v0, v1, v2, v3, v4, v5, v6, v7, v8, v9, v10, v11, v12, v13, v14, v15, v16, v17, v18, v19, v20, v21, v22, v23, v24, v25, v26, v27, v28, v29, v30, v31, v32, v33, v34, v35, v36, v37, v38, v39, v40, v41, v42, v43, v44, v45, v46, v47, v48, v49, v50, v51, v52, v53, v54, v55, v56, v57, v58, v59, v60, v61, v62, v63] 0 = [.unk, .unk, .unk, .unk, .unk, v5, .unk, .unk, .unk, .unk, .unk, .unk, .unk, .unk, .unk, .unk, .unk, .unk, .unk, .unk, .unk, .unk, .unk, .unk, .unk, .unk, .unk, .unk, .unk, .unk, .unk, .unk, .unk, .unk, .unk, .unk, .unk, .unk, .unk, .unk, .unk, .unk, .unk, .unk, .unk, .unk, .unk, .unk, .unk, .unk, .unk, .unk, .unk, .unk, .unk, .unk, .unk, .unk, .unk, .unk, .unk, .unk, .unk, .unk] := rfl
@[go_sem] theorem ks30_2 (v0 v1 v2 v3 v4 v5 v6 v7 v8 v9 v10 v11 v12 v13 v14 v15 v16 v17 v18 v19 v20 v21 v22 v23 v24 v25 v26 v27 v28 v29 v30 v31 v32 v33 v34 v35 v36 v37 v38 v39 v40 v41 v42 v43 v44 v45 v46 v47 v48 v49 v50 v51 v52 v53 v54 v55 v56 v57 v58 v59 v60 v61 v62 v63 : AV) : keepS [1, 5, 7, 8, 16, 17, 18] [v0, v1, v2, v3, v4, v5, v6, v7, v8, v9, v10, v11, v12, v13, v14, v15, v16, v17, v18, v19, v20, v21, v22, v23, v24, v25, v26, v27, v28, v29, v30, v31, v32, v33, v34, v35, v36, v37, v38, v39, v40, v41, v42, v43, v44, v45, v46, v47, v48, v49, v50, v51, v52, v53, v54, v55, v56, v57, v58, v59, v60, v61, v62, v63] 0 = [.unk, v1, .unk, .unk, .unk, v5, .unk, v7, v8, .unk, .unk, .unk, .unk, .unk, .unk, .unk, v16, v17, v18, .unk, .unk, .unk, .unk, .unk, .unk, .unk, .unk, .unk, .unk, .unk, .unk, .unk, .unk, .unk, .unk, .unk, .unk, .unk, .unk, .unk, .unk, .unk, .unk, .unk, .unk, .unk, .unk, .unk, .unk, .unk, .unk, .unk, .unk, .unk, .unk, .unk, .unk, .unk, .unk, .unk, .unk, .unk, .unk, .unk] := rfl
@[go_sem] theorem ks30_3 (v0 v1 v2 v3 v4 v5 v6 v7 v8 v9 v10 v11 v12 v13 v14 v15 v16 v17 v18 v19 v20 v21 v22 v23 v24 v25 v26 v27 v28 v29 v30 v31 v32 v33 v34 v35 v36 v37 v38 v39 v40 v41 v42 v43 v44 v45 v46 v47 v48 v49 v50 v51 v52 v53 v54 v55 v56 v57 v58 v59 v60 v61 v62 v63 : AV) : keepS [1, 5, 8, 16, 17, 18] [v0, v1, v2, v3, v4, v5, v6, v7, v8, v9, v10, v11, v12, v13, v14, v15, v16, v17, v18, v19, v20, v21, v22, v23, v24, v25, v26, v27, v28, v29, v30, v31, v32, v33, v34, v35, v36, v37, v38, v39, v40, v41, v42, v43, v44, v45, v46, v47, v48, v49, v50, v51, v52, v53, v54, v55, v56, v57, v58, v59, v60, v61, v62, v63] 0 = [.unk, v1, .unk, .unk, .unk, v5, .unk, .unk, v8, .unk, .unk, .unk, .unk, .unk, .unk, .unk, v16, v17, v18, .unk, .unk, .unk, .unk, .unk, .unk, .unk, .unk, .unk, .unk, .unk, .unk, .unk, .unk, .unk, .unk, .unk, .unk, .unk, .unk, .unk, .unk, .unk, .unk, .unk, .unk, .unk, .unk, .unk, .unk, .unk, .unk, .unk, .unk, .unk, .unk, .unk, .unk, .unk, .unk, .unk, .unk, .unk, .unk, .unk] := rfl
/-- spence/spenceref04.Resolve -/
def bd30 : C :=
 (.seq (.reg [⟨some 4, none, .mv (.c (.d .nils)), .one 2 true⟩])
 (.seq (.reg [⟨some 5, none, .mv (.c (.d .nils)), .one 2 true⟩])
 (.seq (.seq (.reg [⟨some 9, none, .mv (.s 1), .none⟩,
 ⟨some 10, none, .bin .lss (.s 9) (.c (.d (.int .i64 1))), .none⟩,
 ⟨some 11, none, .mv (.s 10), .none⟩,
 ⟨some 12, some (11, false), .mv (.s 1), .none⟩,
 ⟨some 13, some (11, false), .bin .gtr (.s 12) (.c (.d (.int .i64 4611686018427387903))), .none⟩,
 ⟨some 14, none, .pick (.s 11) (.c (.d (.bool true))) (.s 13), .none⟩])
 (.cond (.s 14)
 (.seq (.reg [⟨some 15, none, .mv (.s 5), .none⟩,
 ⟨some 4, none, .mv (.s 15), .none⟩])
 (.ret none))
 .skip))
 (.seq (.seq (.reg [⟨some 16, none, .mv (.s 0), .none⟩,
 ⟨some 17, none, .len (.s 16), .none⟩,
 ⟨some 18, none, .mv (.c (.d (.int .i64 0))), .none⟩])
 (.block 0 (.loop [1, 5, 16, 17, 18] lp30_0)))
 (.seq (.reg [⟨some 63, none, .mv (.s 5), .none⟩,
 ⟨some 4, none, .mv (.s 63), .none⟩])
 (.ret none))))))
def ir30 : F := { n := 64, res := [.tmp 4], body := bd30 }
@[go_sem] theorem n30 : ir30.n = 64 := rfl
@[go_sem] theorem r30 : ir30.res = [.tmp 4] := rfl
@[go_sem] theorem b30 : ir30.body = bd30 := rfl
def lb31_0 : C :=
 (.seq (.reg [⟨some 9, none, .bin .lss (.s 8) (.s 7), .none⟩])
 (.seq (.cond (.s 9)
 .skip
 (.exit 0 (some [3])))
 (.seq (.block 1 (.seq (.reg [⟨some 10, none, .mv (.s 8), .none⟩,
 ⟨some 11, none, .is (.s 6) (.s 8) 3, .none⟩,
 ⟨some 12, none, .ld (.s 11) 3 true, .none⟩,
 ⟨some 5, none, .alloc 72 [.int .i64 0, .int .i64 0, .int .i64 0], .none⟩,
 ⟨some 4, none, .mv (.s 10), .none⟩,
 ⟨none, none, .st (.s 5) (.s 12) 3, .none⟩])
 (.seq (.seq (.reg [⟨some 13, none, .mv (.s 4), .none⟩,
 ⟨some 14, none, .bin .gtr (.s 13) (.c (.d (.int .i64 0))), .none⟩])
 (.cond (.s 14)
 (.reg [⟨some 15, none, .mv (.s 3), .none⟩,
 ⟨some 16, none, .bin .add (.s 15) (.c (.d (.str [44]))), .none⟩,
 ⟨some 3, none, .mv (.s 16), .none⟩])
 .skip))
 (.ann [3, 5, 6, 7, 8] (.seq (.reg [⟨some 17, none, .fa (.s 5) 0, .none⟩,
 ⟨some 18, none, .ld (.s 17) 1 false, .none⟩])
 (.block 2 (.seq (.reg [⟨some 22, none, .bin .eql (.s 18) (.c (.d (.int .i64 1))), .none⟩,
 ⟨some 21, none, .mv (.s 22), .none⟩])
 (.cond (.s 21)
 (.reg [⟨some 23, none, .mv (.s 3), .none⟩,
 ⟨some 24, none, .fa (.s 5) 1, .none⟩,
 ⟨some 25, none, .ld (.s 24) 1 false, .none⟩,
 ⟨some 26, none, .call 64 [.s 25] 2, .none⟩,
 ⟨some 27, none, .bin .add (.s 26) (.c (.d (.str [45]))), .none⟩,
 ⟨some 28, none, .bin .add (.s 23) (.s 27), .none⟩,
 ⟨some 3, none, .mv (.s 28), .none⟩])
 (.seq (.reg [⟨some 30, none, .bin .eql (.s 18) (.c (.d (.int .i64 2))), .none⟩,
 ⟨some 29, none, .mv (.s 30), .none⟩])
 (.cond (.s 29)
 (.drw [⟨some 31, none, .mv (.s 3), .none⟩,
 ⟨some 32, none, .fa (.s 5) 1, .none⟩,
 ⟨some 33, none, .ld (.s 32) 1 false, .none⟩,
 ⟨some 34, none, .call 64 [.s 33] 2, .none⟩,
 ⟨some 35, none, .bin .add (.s 34) (.c (.d (.str [45]))), .none⟩,
 ⟨some 36, none, .fa (.s 5) 2, .none⟩,
 ⟨some 37, none, .ld (.s 36) 1 false, .none⟩,
 ⟨some 38, none, .call 64 [.s 37] 2, .none⟩,
 ⟨some 39, none, .bin .add (.s 35) (.s 38), .none⟩,
 ⟨some 40, none, .bin .add (.s 31) (.s 39), .none⟩,
 ⟨some 3, none, .mv (.s 40), .none⟩]
 [[], [], [1], [2], [3], [], [5], [6, 3], [4, 7], [0, 8], [9, 7, 0, 1, 2, 3, 4, 5, 6, 7, 8, 9]] [])
 (.seq (.reg [⟨some 42, none, .bin .eql (.s 18) (.c (.d (.int .i64 3))), .none⟩,
 ⟨some 41, none, .mv (.s 42), .none⟩])
 (.cond (.s 41)
 (.reg [⟨some 43, none, .mv (.s 3), .none⟩,
 ⟨some 44, none, .fa (.s 5) 1, .none⟩,
 ⟨some 45, none, .ld (.s 44) 1 false, .none⟩,
 ⟨some 46, none, .call 64 [.s 45] 2, .none⟩,
 ⟨some 47, none, .bin .add (.c (.d (.str [45]))) (.s 46), .none⟩,
 ⟨some 48, none, .bin .add (.s 43) (.s 47), .none⟩,
 ⟨some 3, none, .mv (.s 48), .none⟩])
 (.reg [⟨some 19, none, .mv (.s 3), .none⟩,
 ⟨some 20, none, .bin .add (.s 19) (.c (.d (.str [63]))), .none⟩,
 ⟨some 3, none, .mv (.s 20), .none⟩])))))))))))))
 (.reg [⟨some 49, none, .bin .add (.s 8) (.c (.d (.int .i64 1))), .none⟩,
 ⟨some 8, none, .mv (.s 49), .none⟩]))))
def lp31_0 : C := lb31_0
theorem u31_0 (c : Ev.Callee) (l : Ev.Looper) (s : St) : evC c l lp31_0 s = evC c l lb31_0 s := rfl
abbrev st31_0 (m : Nat) (s3 s6 s7 s8 : AV) (h : Heap) : St := ⟨m, [.unk, .unk, .unk, s3, .unk, .unk, s6, s7, s8, .unk, .unk, .unk, .unk, .unk, .unk, .unk, .unk, .unk, .unk, .unk, .unk, .unk, .unk, .unk, .unk, .unk, .unk, .unk, .unk, .unk, .unk, .unk, .unk, .unk, .unk, .unk, .unk, .unk, .unk, .unk, .unk, .unk, .unk, .unk, .unk, .unk, .unk, .unk, .unk, .unk, .unk], h⟩
@[go_sem] theorem ks31_0 (v0 v1 v2 v3 v4 v5 v6 v7 v8 v9 v10 v11 v12 v13 v14 v15 v16 v17 v18 v19 v20 v21 v22 v23 v24 v25 v26 v27 v28 v29 v30 v31 v32 v33 v34 v35 v36 v37 v38 v39 v40 v41 v42 v43 v44 v45 v46 v47 v48 v49 v50 : AV) : keepS [3, 6, 7, 8] [v0, v1, v2, v3, v4, v5, v6, v7, v8, v9, v10, v11, v12, v13, v14, v15, v16, v17, v18, v19, v20, v21, v22, v23, v24, v25, v26, v27, v28, v29, v30, v31, v32, v33, v34, v35, v36, v37, v38, v39, v40, v41, v42, v43, v44, v45, v46, v47, v48, v49, v50] 0 = [.unk, .unk, .unk, v3, .unk, .unk, v6, v7, v8, .unk, .unk, .unk, .unk, .unk, .unk, .unk, .unk, .unk, .unk, .unk, .unk, .unk, .unk, .unk, .unk, .unk, .unk, .unk, .unk, .unk, .unk, .unk, .unk, .unk, .unk, .unk, .unk, .unk, .unk, .unk, .unk, .unk, .unk, .unk, .unk, .unk, .unk, .unk, .unk, .unk, .unk] := rfl
@[go_sem] theorem ks31_1 (v0 v1 v2 v3 v4 v5 v6 v7 v8 v9 v10 v11 v12 v13 v14 v15 v16 v17 v18 v19 v20 v21 v22 v23 v24 v25 v26 v27 v28 v29 v30 v31 v32 v33 v34 v35 v36 v37 v38 v39 v40 v41 v42 v43 v44 v45 v46 v47 v48 v49 v50 : AV) : keepS [3] [v0, v1, v2, v3, v4, v5, v6, v7, v8, v9, v10, v11, v12, v13, v14, v15, v16, v17, v18, v19, v20, v21, v22, v23, v24, v25, v26, v27, v28, v29, v30, v31, v32, v33, v34, v35, v36, v37, v38, v39, v40, v41, v42, v43, v44, v45, v46, v47, v48, v49, v50] 0 = [.unk, .unk, .unk, v3, .unk, .unk, .unk, .unk, .unk, .unk, .unk, .unk, .unk, .unk, .unk, .unk, .unk, .unk, .unk, .unk, .unk, .unk, .unk, .unk, .unk, .unk, .unk, .unk, .unk, .unk, .unk, .unk, .unk, .unk, .unk, .unk, .unk, .unk, .unk, .unk, .unk, .unk, .unk, .unk, .unk, .unk, .unk, .unk, .unk, .unk, .unk] := rfl
@[go_sem] theorem ks31_2 (v0 v1 v2 v3 v4 v5 v6 v7 v8 v9 v10 v11 v12 v13 v14 v15 v16 v17 v18 v19 v20 v21 v22 v23 v24 v25 v26 v27 v28 v29 v30 v31 v32 v33 v34 v35 v36 v37 v38 v39 v40 v41 v42 v43 v44 v45 v46 v47 v48 v49 v50 : AV) : keepS [3, 5, 6, 7, 8] [v0, v1, v2, v3, v4, v5, v6, v7, v8, v9, v10, v11, v12, v13, v14, v15, v16, v17, v18, v19, v20, v21, v22, v23, v24, v25, v26, v27, v28, v29, v30, v31, v32, v33, v34, v35, v36, v37, v38, v39, v40, v41, v42, v43, v44, v45, v46, v47, v48, v49, v50] 0 = [.unk, .unk, .unk, v3, .unk, v5, v6, v7, v8, .unk, .unk, .unk, .unk, .unk, .unk, .unk, .unk, .unk, .unk, .unk, .unk, .unk, .unk, .unk, .unk, .unk, .unk, .unk, .unk, .unk, .unk, .unk, .unk, .unk, .unk, .unk, .unk, .unk, .unk, .unk, .unk, .unk, .unk, .unk, .unk, .unk, .unk, .unk, .unk, .unk, .unk] := rfl
/-- spence/spenceref04.PrintSpecs -/
def bd31 : C :=
 (.seq (.reg [⟨some 2, none, .mv (.c (.d (.str []))), .none⟩])
 (.seq (.reg [⟨some 3, none, .mv (.c (.d (.str [98, 121, 116, 101, 115, 61]))), .none⟩])
 (.seq (.seq (.reg [⟨some 6, none, .mv (.s 0), .none⟩,
 ⟨some 7, none, .len (.s 6), .none⟩,
 ⟨some 8, none, .mv (.c (.d (.int .i64 0))), .none⟩])
 (.block 0 (.loop [3, 6, 7, 8] lp31_0)))
 (.seq (.reg [⟨some 50, none, .mv (.s 3), .none⟩,
 ⟨some 2, none, .mv (.s 50), .none⟩])
 (.ret none)))))
def ir31 : F := { n := 51, res := [.tmp 2], body := bd31 }
@[go_sem] theorem n31 : ir31.n = 51 := rfl
@[go_sem] theorem r31 : ir31.res = [.tmp 2] := rfl
@[go_sem] theorem b31 : ir31.body = bd31 := rfl
/-- spence/span.Right -/
def bd39 : C :=
 (.seq (.reg [⟨some 1, none, .box 52 (.s 0), .none⟩,
 ⟨some 2, none, .mv (.c (.d (.bool false))), .none⟩])
 (.seq (.reg [⟨some 3, none, .fa (.s 1) 0, .none⟩,
 ⟨some 4, none, .ld (.s 3) 1 false, .none⟩,
 ⟨some 5, none, .bin .geq (.s 4) (.c (.d (.int .i64 0))), .none⟩,
 ⟨some 6, none, .mv (.s 5), .none⟩,
 ⟨some 7, some (6, true), .fa (.s 1) 0, .none⟩,
 ⟨some 8, some (6, true), .ld (.s 7) 1 false, .none⟩,
 ⟨some 9, some (6, true), .fa (.s 1) 1, .none⟩,
 ⟨some 10, some (6, true), .ld (.s 9) 1 false, .none⟩,
 ⟨some 11, some (6, true), .bin .lss (.s 8) (.s 10), .none⟩,
 ⟨some 12, none, .pick (.s 6) (.s 11) (.c (.d (.bool false))), .none⟩,
 ⟨some 13, none, .mv (.s 12), .none⟩,
 ⟨some 14, some (13, true), .fa (.s 1) 1, .none⟩,
 ⟨some 15, some (13, true), .ld (.s 14) 1 false, .none⟩,
 ⟨some 16, some (13, true), .bin .leq (.s 15) (.c (.d (.int .i64 4611686018427387903))), .none⟩,
 ⟨some 17, none, .pick (.s 13) (.s 16) (.c (.d (.bool false))), .none⟩,
 ⟨some 2, none, .mv (.s 17), .none⟩])
 (.ret none)))
def ir39 : F := { n := 18, res := [.tmp 2], body := bd39 }
@[go_sem] theorem n39 : ir39.n = 18 := rfl
@[go_sem] theorem r39 : ir39.res = [.tmp 2] := rfl
@[go_sem] theorem b39 : ir39.body = bd39 := rfl
/-- spence/spenceref04.Right -/
def bd41 : C :=
 (.seq (.reg [⟨some 1, none, .box 52 (.s 0), .none⟩,
 ⟨some 2, none, .mv (.c (.d (.bool false))), .none⟩])
 (.seq (.reg [⟨some 3, none, .fa (.s 1) 0, .none⟩,
 ⟨some 4, none, .ld (.s 3) 1 false, .none⟩,
 ⟨some 5, none, .bin .geq (.s 4) (.c (.d (.int .i64 0))), .none⟩,
 ⟨some 6, none, .mv (.s 5), .none⟩,
 ⟨some 7, some (6, true), .fa (.s 1) 1, .none⟩,
 ⟨some 8, some (6, true), .ld (.s 7) 1 false, .none⟩,
 ⟨some 9, some (6, true), .fa (.s 1) 0, .none⟩,
 ⟨some 10, some (6, true), .ld (.s 9) 1 false, .none⟩,
 ⟨some 11, some (6, true), .bin .gtr (.s 8) (.s 10), .none⟩,
 ⟨some 12, none, .pick (.s 6) (.s 11) (.c (.d (.bool false))), .none⟩,
 ⟨some 13, none, .mv (.s 12), .none⟩,
 ⟨some 14, some (13, true), .fa (.s 1) 1, .none⟩,
 ⟨some 15, some (13, true), .ld (.s 14) 1 false, .none⟩,
 ⟨some 16, some (13, true), .bin .leq (.s 15) (.c (.d (.int .i64 4611686018427387903))), .none⟩,
 ⟨some 17, none, .pick (.s 13) (.s 16) (.c (.d (.bool false))), .none⟩,
 ⟨some 2, none, .mv (.s 17), .none⟩])
 (.ret none)))
def ir41 : F := { n := 18, res := [.tmp 2], body := bd41 }
@[go_sem] theorem n41 : ir41.n = 18 := rfl
@[go_sem] theorem r41 : ir41.res = [.tmp 2] := rfl
@[go_sem] theorem b41 : ir41.body = bd41 := rfl
/-- spence/spenceref01.Digit -/
def bd45 : C :=
 (.seq (.reg [⟨some 2, none, .mv (.c (.d (.bool false))), .none⟩])
 (.seq (.reg [⟨some 3, none, .mv (.s 0), .none⟩,
 ⟨some 4, none, .bin .geq (.s 3) (.c (.d (.int .u8 48))), .none⟩,
 ⟨some 5, none, .mv (.s 4), .none⟩,
 ⟨some 6, some (5, true), .mv (.s 0), .none⟩,
 ⟨some 7, some (5, true), .bin .leq (.s 6) (.c (.d (.int .u8 57))), .none⟩,
 ⟨some 8, none, .pick (.s 5) (.s 7) (.c (.d (.bool false))), .none⟩,
 ⟨some 2, none, .mv (.s 8), .none⟩])
 (.ret none)))
def ir45 : F := { n := 9, res := [.tmp 2], body := bd45 }
@[go_sem] theorem n45 : ir45.n = 9 := rfl
@[go_sem] theorem r45 : ir45.res = [.tmp 2] := rfl
@[go_sem] theorem b45 : ir45.body = bd45 := rfl
/-- spence/spec.Asked -/
def bd51 : C :=
 (.seq (.reg [⟨some 2, none, .mv (.c (.d .nils)), .one 3 false⟩])
 (.seq (.reg [⟨some 6, none, .mv (.s 0), .none⟩,
 ⟨some 7, none, .call 75 [.s 6] 2, .none⟩,
 ⟨some 5, none, .mv (.s 7), .none⟩,
 ⟨some 8, none, .ext (.s 5) 0, .none⟩,
 ⟨some 9, none, .ext (.s 5) 1, .none⟩,
 ⟨some 3, none, .mv (.s 8), .none⟩,
 ⟨some 4, none, .mv (.s 9), .none⟩])
 (.seq (.reg [⟨some 10, none, .mv (.s 3), .none⟩,
 ⟨some 2, none, .mv (.s 10), .none⟩])
 (.ret none))))
def ir51 : F := { n := 11, res := [.tmp 2], body := bd51 }
@[go_sem] theorem n51 : ir51.n = 11 := rfl
@[go_sem] theorem r51 : ir51.res = [.tmp 2] := rfl
@[go_sem] theorem b51 : ir51.body = bd51 := rfl
/-- spence/etag.Use -/
def bd52 : C :=
 (.seq (.reg [⟨some 4, none, .mv (.c (.d (.bool false))), .none⟩])
 (.seq (.reg [⟨some 8, none, .mv (.s 0), .none⟩,
 ⟨some 9, none, .call 76 [.s 8] 2, .none⟩,
 ⟨some 5, none, .mv (.s 9), .none⟩])
 (.seq (.seq (.reg [⟨some 10, none, .mv (.s 5), .none⟩,
 ⟨some 11, none, .bin .eql (.s 10) (.c (.d (.str []))), .none⟩])
 (.cond (.s 11)
 (.seq (.reg [⟨some 4, none, .mv (.c (.d (.bool true))), .none⟩])
 (.ret none))
 .skip))
 (.seq (.reg [⟨some 13, none, .mv (.s 5), .none⟩,
 ⟨some 14, none, .call 77 [.s 13] 2, .none⟩,
 ⟨some 12, none, .mv (.s 14), .none⟩,
 ⟨some 15, none, .ext (.s 12) 0, .none⟩,
 ⟨some 16, none, .ext (.s 12) 1, .none⟩,
 ⟨some 6, none, .alloc 135 [.bool false, .str []], .none⟩,
 ⟨none, none, .st (.s 6) (.s 15) 2, .none⟩,
 ⟨some 7, none, .mv (.s 16), .none⟩])
 (.seq (.reg [⟨some 17, none, .mv (.s 7), .none⟩,
 ⟨some 18, none, .bin .eql (.s 17) (.c (.d (.int .i64 0))), .none⟩,
 ⟨some 19, none, .mv (.s 18), .none⟩,
 ⟨some 20, some (19, true), .ld (.s 6) 2 true, .none⟩,
 ⟨some 21, some (19, true), .mv (.s 1), .none⟩,
 ⟨some 22, some (19, true), .build [.bool false, .str []] [(1, (1, .s 21))], .none⟩,
 ⟨some 23, some (19, true), .call 78 [.s 20, .s 22] 2, .none⟩,
 ⟨some 24, none, .pick (.s 19) (.s 23) (.c (.d (.bool false))), .none⟩,
 ⟨some 4, none, .mv (.s 24), .none⟩])
 (.ret none))))))
def ir52 : F := { n := 25, res := [.tmp 4], body := bd52 }
@[go_sem] theorem n52 : ir52.n = 25 := rfl
@[go_sem] theorem r52 : ir52.res = [.tmp 4] := rfl
@[go_sem] theorem b52 : ir52.body = bd52 := rfl
/-- spence/ifrange.Whole -/
def bd53 : C :=
 (.seq (.reg [⟨some 2, none, .alloc 62 [.int .i64 0, .nils], .cells [(1, 2, false)]⟩])
 (.seq (.reg [⟨some 3, none, .build [.int .i64 0, .nils] [(0, (1, .c (.d (.int .i64 200))))], .cells [(1, 2, false)]⟩,
 ⟨none, none, .st (.s 2) (.s 3) 2, .none⟩])
 (.ret none)))
def ir53 : F := { n := 4, res := [.cell 2 2 true], body := bd53 }
@[go_sem] theorem n53 : ir53.n = 4 := rfl
@[go_sem] theorem r53 : ir53.res = [.cell 2 2 true] := rfl
@[go_sem] theorem b53 : ir53.body = bd53 := rfl
def lb54_0 : C :=
 (.seq (.reg [⟨some 15, none, .bin .lss (.s 14) (.s 13), .none⟩])
 (.seq (.cond (.s 15)
 .skip
 (.exit 0 (some [5])))
 (.seq (.block 1 (.seq (.reg [⟨some 16, none, .is (.s 12) (.s 14) 3, .none⟩,
 ⟨some 17, none, .ld (.s 16) 3 true, .none⟩,
 ⟨some 7, none, .alloc 72 [.int .i64 0, .int .i64 0, .int .i64 0], .none⟩,
 ⟨none, none, .st (.s 7) (.s 17) 3, .none⟩])
 (.seq (.seq (.reg [⟨some 18, none, .ld (.s 7) 3 true, .none⟩,
 ⟨some 19, none, .call 80 [.s 18] 2, .none⟩,
 ⟨some 20, none, .un .not (.s 19), .none⟩])
 (.cond (.s 20)
 (.exit 1 none)
 .skip))
 (.seq (.reg [⟨some 21, none, .ld (.s 7) 3 true, .none⟩,
 ⟨some 22, none, .mv (.s 1), .none⟩,
 ⟨some 23, none, .call 81 [.s 21, .s 22] 2, .none⟩,
 ⟨some 8, none, .alloc 52 [.int .i64 0, .int .i64 0], .none⟩,
 ⟨none, none, .st (.s 8) (.s 23) 2, .none⟩])
 (.seq (.reg [⟨some 24, none, .ld (.s 8) 2 true, .none⟩,
 ⟨some 25, none, .call 39 [.s 24] 2, .none⟩])
 (.cond (.s 25)
 (.reg [⟨some 26, none, .mv (.s 5), .none⟩,
 ⟨some 27, none, .ld (.s 8) 2 true, .none⟩,
 ⟨some 28, none, .bsl 52 2 1 [.int .i64 0, .int .i64 0] [(0, (2, .s 27))], .none⟩,
 ⟨some 29, none, .app 52 2 16 (.s 26) (.s 28), .none⟩,
 ⟨some 5, none, .mv (.s 29), .none⟩])
 .skip))))))
 (.reg [⟨some 30, none, .bin .add (.s 14) (.c (.d (.int .i64 1))), .none⟩,
 ⟨some 14, none, .mv (.s 30), .none⟩]))))
def lp54_0 : C := lb54_0
theorem u54_0 (c : Ev.Callee) (l : Ev.Looper) (s : St) : evC c l lp54_0 s = evC c l lb54_0 s := rfl
abbrev st54_0 (m : Nat) (s1 s5 s12 s13 s14 : AV) (h : Heap) : St := ⟨m, [.unk, s1, .unk, .unk, .unk, s5, .unk, .unk, .unk, .unk, .unk, .unk, s12, s13, s14, .unk, .unk, .unk, .unk, .unk, .unk, .unk, .unk, .unk, .unk, .unk, .unk, .unk, .unk, .unk, .unk, .unk], h⟩
@[go_sem] theorem ks54_0 (v0 v1 v2 v3 v4 v5 v6 v7 v8 v9 v10 v11 v12 v13 v14 v15 v16 v17 v18 v19 v20 v21 v22 v23 v24 v25 v26 v27 v28 v29 v30 v31 : AV) : keepS [1, 5, 12, 13, 14] [v0, v1, v2, v3, v4, v5, v6, v7, v8, v9, v10, v11, v12, v13, v14, v15, v16, v17, v18, v19, v20, v21, v22, v23, v24, v25, v26, v27, v28, v29, v30, v31] 0 = [.unk, v1, .unk, .unk, .unk, v5, .unk, .unk, .unk, .unk, .unk, .unk, v12, v13, v14, .unk, .unk, .unk, .unk, .unk, .unk, .unk, .unk, .unk, .unk, .unk, .unk, .unk, .unk, .unk, .unk, .unk] := rfl
@[go_sem] theorem ks54_1 (v0 v1 v2 v3 v4 v5 v6 v7 v8 v9 v10 v11 v12 v13 v14 v15 v16 v17 v18 v19 v20 v21 v22 v23 v24 v25 v26 v27 v28 v29 v30 v31 : AV) : keepS [5] [v0, v1, v2, v3, v4, v5, v6, v7, v8, v9, v10, v11, v12, v13, v14, v15, v16, v17, v18, v19, v20, v21, v22, v23, v24, v25, v26, v27, v28, v29, v30, v31] 0 = [.unk, .unk, .unk, .unk, .unk, v5, .unk, .unk, .unk, .unk, .unk, .unk, .unk, .unk, .unk, .unk, .unk, .unk, .unk, .unk, .unk, .unk, .unk, .unk, .unk, .unk, .unk, .unk, .unk, .unk, .unk, .unk] := rfl
/-- spence/span.Resolve -/
def bd54 : C :=
 (.seq (.reg [⟨some 4, none, .mv (.c (.d .nils)), .one 2 true⟩])
 (.seq (.seq (.reg [⟨some 9, none, .mv (.s 1), .none⟩,
 ⟨some 10, none, .call 79 [.s 9, .c (.d (.int .i64 1)), .c (.d (.int .i64 4611686018427387903))] 2, .none⟩,
 ⟨some 11, none, .un .not (.s 10), .none⟩])
 (.cond (.s 11)
 (.seq (.reg [⟨some 4, none, .mv (.c (.d .nils)), .one 2 true⟩])
 (.ret none))
 .skip))
 (.seq (.reg [⟨some 5, none, .mv (.c (.d .nils)), .one 2 true⟩])
 (.seq (.seq (.reg [⟨some 12, none, .mv (.s 0), .none⟩,
 ⟨some 13, none, .len (.s 12), .none⟩,
 ⟨some 14, none, .mv (.c (.d (.int .i64 0))), .none⟩])
 (.block 0 (.loop [1, 5, 12, 13, 14] lp54_0)))
 (.seq (.reg [⟨some 31, none, .mv (.s 5), .none⟩,
 ⟨some 4, none, .mv (.s 31), .none⟩])
 (.ret none))))))
def ir54 : F := { n := 32, res := [.tmp 4], body := bd54 }
@[go_sem] theorem n54 : ir54.n = 32 := rfl
@[go_sem] theorem r54 : ir54.res = [.tmp 4] := rfl
@[go_sem] theorem b54 : ir54.body = bd54 := rfl
def lb55_0 : C :=
 (.seq (.reg [⟨some 9, none, .bin .lss (.s 8) (.s 7), .none⟩])
 (.seq (.cond (.s 9)
 .skip
 (.exit 0 (some [])))
 (.seq (.block 1 (.seq (.reg [⟨some 10, none, .mv (.s 8), .none⟩,
 ⟨some 11, none, .is (.s 6) (.s 8) 2, .none⟩,
 ⟨some 12, none, .ld (.s 11) 2 true, .none⟩,
 ⟨some 4, none, .alloc 52 [.int .i64 0, .int .i64 0], .none⟩,
 ⟨some 3, none, .mv (.s 10), .none⟩,
 ⟨none, none, .st (.s 4) (.s 12) 2, .none⟩])
 (.seq (.reg [⟨some 13, none, .fn (.func 82) [] [.s 4], .none⟩,
 ⟨some 5, none, .mv (.s 13), .none⟩])
 (.seq (.reg [⟨some 14, none, .mv (.s 0), .none⟩,
 ⟨some 15, none, .mv (.s 3), .none⟩,
 ⟨some 16, none, .sl (.s 14) none (some (.s 15)) none 2, .none⟩,
 ⟨some 17, none, .mv (.s 5), .none⟩,
 ⟨some 18, none, .call 84 [.s 16, .s 17] 0, .none⟩])
 (.cond (.s 18)
 (.seq (.reg [⟨some 2, none, .mv (.c (.d (.bool true))), .none⟩])
 (.ret (some [2])))
 .skip)))))
 (.reg [⟨some 19, none, .bin .add (.s 8) (.c (.d (.int .i64 1))), .none⟩,
 ⟨some 8, none, .mv (.s 19), .none⟩]))))
def lp55_0 : C := lb55_0
theorem u55_0 (c : Ev.Callee) (l : Ev.Looper) (s : St) : evC c l lp55_0 s = evC c l lb55_0 s := rfl
abbrev st55_0 (m : Nat) (s0 s6 s7 s8 : AV) (h : Heap) : St := ⟨m, [s0, .unk, .unk, .unk, .unk, .unk, s6, s7, s8, .unk, .unk, .unk, .unk, .unk, .unk, .unk, .unk, .unk, .unk, .unk], h⟩
@[go_sem] theorem ks55_0 (v0 v1 v2 v3 v4 v5 v6 v7 v8 v9 v10 v11 v12 v13 v14 v15 v16 v17 v18 v19 : AV) : keepS [0, 6, 7, 8] [v0, v1, v2, v3, v4, v5, v6, v7, v8, v9, v10, v11, v12, v13, v14, v15, v16, v17, v18, v19] 0 = [v0, .unk, .unk, .unk, .unk, .unk, v6, v7, v8, .unk, .unk, .unk, .unk, .unk, .unk, .unk, .unk, .unk, .unk, .unk] := rfl
@[go_sem] theorem ks55_1 (v0 v1 v2 v3 v4 v5 v6 v7 v8 v9 v10 v11 v12 v13 v14 v15 v16 v17 v18 v19 : AV) : keepS [] [v0, v1, v2, v3, v4, v5, v6, v7, v8, v9, v10, v11, v12, v13, v14, v15, v16, v17, v18, v19] 0 = [.unk, .unk, .unk, .unk, .unk, .unk, .unk, .unk, .unk, .unk, .unk, .unk, .unk, .unk, .unk, .unk, .unk, .unk, .unk, .unk] := rfl
@[go_sem] theorem ks55_2 (v0 v1 v2 v3 v4 v5 v6 v7 v8 v9 v10 v11 v12 v13 v14 v15 v16 v17 v18 v19 : AV) : keepS [2] [v0, v1, v2, v3, v4, v5, v6, v7, v8, v9, v10, v11, v12, v13, v14, v15, v16, v17, v18, v19] 0 = [.unk, .unk, v2, .unk, .unk, .unk, .unk, .unk, .unk, .unk, .unk, .unk, .unk, .unk, .unk, .unk, .unk, .unk, .unk, .unk] := rfl
/-- spence/ifrange.clash -/
def bd55 : C :=
 (.seq (.reg [⟨some 2, none, .mv (.c (.d (.bool false))), .none⟩])
 (.seq (.seq (.reg [⟨some 6, none, .mv (.s 0), .none⟩,
 ⟨some 7, none, .len (.s 6), .none⟩,
 ⟨some 8, none, .mv (.c (.d (.int .i64 0))), .none⟩])
 (.block 0 (.loop [0, 6, 7, 8] lp55_0)))
 (.seq (.reg [⟨some 2, none, .mv (.c (.d (.bool false))), .none⟩])
 (.ret none))))
def ir55 : F := { n := 20, res := [.tmp 2], body := bd55 }
@[go_sem] theorem n55 : ir55.n = 20 := rfl
@[go_sem] theorem r55 : ir55.res = [.tmp 2] := rfl
@[go_sem] theorem b55 : ir55.body = bd55 := rfl
def lb56_0 : C :=
 (.seq (.reg [⟨some 20, none, .bin .lss (.s 19) (.s 18), .none⟩])
 (.seq (.cond (.s 20)
 .skip
 (.exit 0 (some [6])))
 (.seq (.block 1 (.seq (.reg [⟨some 21, none, .is (.s 17) (.s 19) 2, .none⟩,
 ⟨some 22, none, .ld (.s 21) 2 true, .none⟩,
 ⟨some 8, none, .alloc 52 [.int .i64 0, .int .i64 0], .none⟩,
 ⟨none, none, .st (.s 8) (.s 22) 2, .none⟩])
 (.seq (.reg [⟨some 23, none, .mv (.s 6), .none⟩,
 ⟨some 24, none, .len (.s 23), .none⟩,
 ⟨some 9, none, .mv (.s 24), .none⟩])
 (.seq (.seq (.drw [⟨some 25, none, .mv (.s 9), .none⟩,
 ⟨some 26, none, .bin .gtr (.s 25) (.c (.d (.int .i64 0))), .none⟩,
 ⟨some 27, none, .mv (.s 26), .none⟩,
 ⟨some 28, some (27, true), .fa (.s 8) 0, .none⟩,
 ⟨some 29, some (27, true), .ld (.s 28) 1 false, .none⟩,
 ⟨some 30, some (27, true), .mv (.s 6), .none⟩,
 ⟨some 31, some (27, true), .mv (.s 9), .none⟩,
 ⟨some 32, some (27, true), .bin .sub (.s 31) (.c (.d (.int .i64 1))), .none⟩,
 ⟨some 33, some (27, true), .is (.s 30) (.s 32) 2, .none⟩,
 ⟨some 34, some (27, true), .fa (.s 33) 1, .none⟩,
 ⟨some 35, some (27, true), .ld (.s 34) 1 false, .none⟩,
 ⟨some 36, some (27, true), .bin .sub (.s 29) (.s 35), .none⟩,
 ⟨some 37, some (27, true), .mv (.s 1), .none⟩,
 ⟨some 38, some (27, true), .bin .leq (.s 36) (.s 37), .none⟩,
 ⟨some 39, none, .pick (.s 27) (.s 38) (.c (.d (.bool false))), .none⟩]
 [[], [0], [1], [2], [3, 2], [2], [2], [6, 2], [5, 7, 2], [8, 2], [9, 2], [4, 10, 2], [2], [11, 12, 2], [2, 13]] [])
 (.cond (.s 39)
 (.seq (.drw [⟨some 40, none, .mv (.s 6), .none⟩,
 ⟨some 41, none, .mv (.s 9), .none⟩,
 ⟨some 42, none, .bin .sub (.s 41) (.c (.d (.int .i64 1))), .none⟩,
 ⟨some 43, none, .mv (.s 6), .none⟩,
 ⟨some 44, none, .mv (.s 9), .none⟩,
 ⟨some 45, none, .bin .sub (.s 44) (.c (.d (.int .i64 1))), .none⟩,
 ⟨some 46, none, .is (.s 43) (.s 45) 2, .none⟩,
 ⟨some 47, none, .fa (.s 46) 1, .none⟩,
 ⟨some 48, none, .ld (.s 47) 1 false, .none⟩,
 ⟨some 49, none, .fa (.s 8) 1, .none⟩,
 ⟨some 50, none, .ld (.s 49) 1 false, .none⟩,
 ⟨some 51, none, .mx (.s 48) (.s 50), .none⟩,
 ⟨some 52, none, .is (.s 40) (.s 42) 2, .none⟩,
 ⟨some 53, none, .fa (.s 52) 1, .none⟩,
 ⟨none, none, .st (.s 53) (.s 51) 1, .none⟩]
 [[], [], [1], [], [], [4], [3, 5], [6], [7], [], [9], [8, 10], [0, 2, 0, 1, 2, 3, 4, 5, 6, 7, 8, 9, 10, 11], [12, 0, 1, 2, 3, 4, 5, 6, 7, 8, 9, 10, 11], [13, 11, 0, 1, 2, 3, 4, 5, 6, 7, 8, 9, 10, 11]] [])
 (.exit 1 none))
 .skip))
 (.reg [⟨some 54, none, .mv (.s 6), .none⟩,
 ⟨some 55, none, .ld (.s 8) 2 true, .none⟩,
 ⟨some 56, none, .bsl 52 2 1 [.int .i64 0, .int .i64 0] [(0, (2, .s 55))], .none⟩,
 ⟨some 57, none, .app 52 2 16 (.s 54) (.s 56), .none⟩,
 ⟨some 6, none, .mv (.s 57), .none⟩])))))
 (.reg [⟨some 58, none, .bin .add (.s 19) (.c (.d (.int .i64 1))), .none⟩,
 ⟨some 19, none, .mv (.s 58), .none⟩]))))
def lp56_0 : C := lb56_0
theorem u56_0 (c : Ev.Callee) (l : Ev.Looper) (s : St) : evC c l lp56_0 s = evC c l lb56_0 s := rfl
abbrev st56_0 (m : Nat) (s1 s6 s17 s18 s19 : AV) (h : Heap) : St := ⟨m, [.unk, s1, .unk, .unk, .unk, .unk, s6, .unk, .unk, .unk, .unk, .unk, .unk, .unk, .unk, .unk, .unk, s17, s18, s19, .unk, .unk, .unk, .unk, .unk, .unk, .unk, .unk, .unk, .unk, .unk, .unk, .unk, .unk, .unk, .unk, .unk, .unk, .unk, .unk, .unk, .unk, .unk, .unk, .unk, .unk, .unk, .unk, .unk, .unk, .unk, .unk, .unk, .unk, .unk, .unk, .unk, .unk, .unk, .unk], h⟩
@[go_sem] theorem ks56_0 (v0 v1 v2 v3 v4 v5 v6 v7 v8 v9 v10 v11 v12 v13 v14 v15 v16 v17 v18 v19 v20 v21 v22 v23 v24 v25 v26 v27 v28 v29 v30 v31 v32 v33 v34 v35 v36 v37 v38 v39 v40 v41 v42 v43 v44 v45 v46 v47 v48 v49 v50 v51 v52 v53 v54 v55 v56 v57 v58 v59 : AV) : keepS [1, 6, 17, 18, 19] [v0, v1, v2, v3, v4, v5, v6, v7, v8, v9, v10, v11, v12, v13, v14, v15, v16, v17, v18, v19, v20, v21, v22, v23, v24, v25, v26, v27, v28, v29, v30, v31, v32, v33, v34, v35, v36, v37, v38, v39, v40, v41, v42, v43, v44, v45, v46, v47, v48, v49, v50, v51, v52, v53, v54, v55, v56, v57, v58, v59] 0 = [.unk, v1, .unk, .unk, .unk, .unk, v6, .unk, .unk, .unk, .unk, .unk, .unk, .unk, .unk, .unk, .unk, v17, v18, v19, .unk, .unk, .unk, .unk, .unk, .unk, .unk, .unk, .unk, .unk, .unk, .unk, .unk, .unk, .unk, .unk, .unk, .unk, .unk, .unk, .unk, .unk, .unk, .unk, .unk, .unk, .unk, .unk, .unk, .unk, .unk, .unk, .unk, .unk, .unk, .unk, .unk, .unk, .unk, .unk] := rfl
@[go_sem] theorem ks56_1 (v0 v1 v2 v3 v4 v5 v6 v7 v8 v9 v10 v11 v12 v13 v14 v15 v16 v17 v18 v19 v20 v21 v22 v23 v24 v25 v26 v27 v28 v29 v30 v31 v32 v33 v34 v35 v36 v37 v38 v39 v40 v41 v42 v43 v44 v45 v46 v47 v48 v49 v50 v51 v52 v53 v54 v55 v56 v57 v58 v59 : AV) : keepS [6] [v0, v1, v2, v3, v4, v5, v6, v7, v8, v9, v10, v11, v12, v13, v14, v15, v16, v17, v18, v19, v20, v21, v22, v23, v24, v25, v26, v27, v28, v29, v30, v31, v32, v33, v34, v35, v36, v37, v38, v39, v40, v41, v42, v43, v44, v45, v46, v47, v48, v49, v50, v51, v52, v53, v54, v55, v56, v57, v58, v59] 0 = [.unk, .unk, .unk, .unk, .unk, .unk, v6, .unk, .unk, .unk, .unk, .unk, .unk, .unk, .unk, .unk, .unk, .unk, .unk, .unk, .unk, .unk, .unk, .unk, .unk, .unk, .unk, .unk, .unk, .unk, .unk, .unk, .unk, .unk, .unk, .unk, .unk, .unk, .unk, .unk, .unk, .unk, .unk, .unk, .unk, .unk, .unk, .unk, .unk, .unk, .unk, .unk, .unk, .unk, .unk, .unk, .unk, .unk, .unk, .unk] := rfl
/-- spence/span.Merge -/
def bd56 : C :=
 (.seq (.reg [⟨some 4, none, .mv (.c (.d .nils)), .one 2 true⟩])
 (.seq (.reg [⟨some 10, none, .mv (.s 1), .none⟩,
 ⟨some 11, none, .mx (.s 10) (.c (.d (.int .i64 0))), .none⟩,
 ⟨some 1, none, .mv (.s 11), .none⟩])
 (.seq (.reg [⟨some 12, none, .mv (.s 0), .none⟩,
 ⟨some 13, none, .call 86 [.s 12] 0, .none⟩,
 ⟨some 14, none, .call 85 [.s 13, .c (.clo (.func 87) [] [])] 1, .none⟩,
 ⟨some 5, none, .mv (.s 14), .none⟩])
 (.seq (.reg [⟨some 15, none, .mv (.s 5), .none⟩,
 ⟨some 16, none, .call 88 [.s 15, .c (.clo (.func 89) [] [])] 1, .none⟩])
 (.seq (.reg [⟨some 6, none, .mv (.c (.d .nils)), .one 2 true⟩])
 (.seq (.seq (.reg [⟨some 17, none, .mv (.s 5), .none⟩,
 ⟨some 18, none, .len (.s 17), .none⟩,
 ⟨some 19, none, .mv (.c (.d (.int .i64 0))), .none⟩])
 (.block 0 (.loop [1, 6, 17, 18, 19] lp56_0)))
 (.seq (.reg [⟨some 59, none, .mv (.s 6), .none⟩,
 ⟨some 4, none, .mv (.s 59), .none⟩])
 (.ret none))))))))
def ir56 : F := { n := 60, res := [.tmp 4], body := bd56 }
@[go_sem] theorem n56 : ir56.n = 60 := rfl
@[go_sem] theorem r56 : ir56.res = [.tmp 4] := rfl
@[go_sem] theorem b56 : ir56.body = bd56 := rfl
def lb57_0 : C :=
 (.seq (.seq (.reg [⟨some 8, none, .mv (.s 7), .none⟩,
 ⟨some 9, none, .mv (.s 0), .none⟩,
 ⟨some 10, none, .lens (.s 9), .none⟩,
 ⟨some 11, none, .bin .lss (.s 8) (.s 10), .none⟩])
 (.cond (.s 11)
 .skip
 (.exit 0 (some [0]))))
 (.seq (.block 1 (.seq (.reg [⟨some 14, none, .mv (.s 0), .none⟩,
 ⟨some 15, none, .mv (.s 7), .none⟩,
 ⟨some 16, none, .sti (.s 14) (.s 15), .none⟩,
 ⟨some 17, none, .mv (.s 1), .none⟩,
 ⟨some 18, none, .bin .eql (.s 16) (.s 17), .none⟩])
 (.cond (.s 18)
 (.seq (.drw [⟨some 19, none, .mv (.s 0), .none⟩,
 ⟨some 20, none, .mv (.s 7), .none⟩,
 ⟨some 21, none, .ssl (.s 19) none (some (.s 20)), .none⟩,
 ⟨some 22, none, .mv (.s 0), .none⟩,
 ⟨some 23, none, .mv (.s 7), .none⟩,
 ⟨some 24, none, .bin .add (.s 23) (.c (.d (.int .i64 1))), .none⟩,
 ⟨some 25, none, .ssl (.s 22) (some (.s 24)) none, .none⟩,
 ⟨some 4, none, .mv (.s 21), .none⟩,
 ⟨some 5, none, .mv (.s 25), .none⟩,
 ⟨some 6, none, .mv (.c (.d (.bool true))), .none⟩]
 [[], [], [0, 1], [], [], [4], [3, 5], [2, 0, 1, 2], [6, 7, 0, 1, 2, 3, 4, 5, 6, 7], [8, 0, 1, 2, 3, 4, 5, 6, 7, 8]] [])
 (.ret (some [4, 5, 6])))
 .skip)))
 (.reg [⟨some 12, none, .mv (.s 7), .none⟩,
 ⟨some 13, none, .bin .add (.s 12) (.c (.d (.int .i64 1))), .none⟩,
 ⟨some 7, none, .mv (.s 13), .none⟩])))
def lp57_0 : C := lb57_0
theorem u57_0 (c : Ev.Callee) (l : Ev.Looper) (s : St) : evC c l lp57_0 s = evC c l lb57_0 s := rfl
abbrev st57_0 (m : Nat) (s0 s1 s7 : AV) (h : Heap) : St := ⟨m, [s0, s1, .unk, .unk, .unk, .unk, .unk, s7, .unk, .unk, .unk, .unk, .unk, .unk, .unk, .unk, .unk, .unk, .unk, .unk, .unk, .unk, .unk, .unk, .unk, .unk, .unk], h⟩
@[go_sem] theorem ks57_0 (v0 v1 v2 v3 v4 v5 v6 v7 v8 v9 v10 v11 v12 v13 v14 v15 v16 v17 v18 v19 v20 v21 v22 v23 v24 v25 v26 : AV) : keepS [0, 1, 7] [v0, v1, v2, v3, v4, v5, v6, v7, v8, v9, v10, v11, v12, v13, v14, v15, v16, v17, v18, v19, v20, v21, v22, v23, v24, v25, v26] 0 = [v0, v1, .unk, .unk, .unk, .unk, .unk, v7, .unk, .unk, .unk, .unk, .unk, .unk, .unk, .unk, .unk, .unk, .unk, .unk, .unk, .unk, .unk, .unk, .unk, .unk, .unk] := rfl
@[go_sem] theorem ks57_1 (v0 v1 v2 v3 v4 v5 v6 v7 v8 v9 v10 v11 v12 v13 v14 v15 v16 v17 v18 v19 v20 v21 v22 v23 v24 v25 v26 : AV) : keepS [0] [v0, v1, v2, v3, v4, v5, v6, v7, v8, v9, v10, v11, v12, v13, v14, v15, v16, v17, v18, v19, v20, v21, v22, v23, v24, v25, v26] 0 = [v0, .unk, .unk, .unk, .unk, .unk, .unk, .unk, .unk, .unk, .unk, .unk, .unk, .unk, .unk, .unk, .unk, .unk, .unk, .unk, .unk, .unk, .unk, .unk, .unk, .unk, .unk] := rfl
@[go_sem] theorem ks57_2 (v0 v1 v2 v3 v4 v5 v6 v7 v8 v9 v10 v11 v12 v13 v14 v15 v16 v17 v18 v19 v20 v21 v22 v23 v24 v25 v26 : AV) : keepS [4, 5, 6] [v0, v1, v2, v3, v4, v5, v6, v7, v8, v9, v10, v11, v12, v13, v14, v15, v16, v17, v18, v19, v20, v21, v22, v23, v24, v25, v26] 0 = [.unk, .unk, .unk, .unk, v4, v5, v6, .unk, .unk, .unk, .unk, .unk, .unk, .unk, .unk, .unk, .unk, .unk, .unk, .unk, .unk, .unk, .unk, .unk, .unk, .unk, .unk] := rfl
/-- spence/spenceref01.Cut -/
def bd57 : C :=
 (.seq (.reg [⟨some 4, none, .mv (.c (.d (.str []))), .none⟩,
 ⟨some 5, none, .mv (.c (.d (.str []))), .none⟩,
 ⟨some 6, none, .mv (.c (.d (.bool false))), .none⟩])
 (.seq (.seq (.reg [⟨some 7, none, .mv (.c (.d (.int .i64 0))), .none⟩])
 (.block 0 (.loop [0, 1, 7] lp57_0)))
 (.seq (.reg [⟨some 26, none, .mv (.s 0), .none⟩,
 ⟨some 4, none, .mv (.s 26), .none⟩,
 ⟨some 5, none, .mv (.c (.d (.str []))), .none⟩,
 ⟨some 6, none, .mv (.c (.d (.bool false))), .none⟩])
 (.ret none))))
def ir57 : F := { n := 27, res := [.tmp 4, .tmp 5, .tmp 6], body := bd57 }
@[go_sem] theorem n57 : ir57.n = 27 := rfl
@[go_sem] theorem r57 : ir57.res = [.tmp 4, .tmp 5, .tmp 6] := rfl
@[go_sem] theorem b57 : ir57.body = bd57 := rfl
def lb58_1 : C :=
 (.seq (.seq (.reg [⟨some 21, none, .mv (.s 1), .none⟩,
 ⟨some 22, none, .un .not (.s 21), .none⟩,
 ⟨some 23, none, .mv (.s 22), .none⟩,
 ⟨some 24, some (23, true), .mv (.s 0), .none⟩,
 ⟨some 25, some (23, true), .lens (.s 24), .none⟩,
 ⟨some 26, some (23, true), .bin .gtr (.s 25) (.c (.d (.int .i64 0))), .none⟩,
 ⟨some 27, none, .pick (.s 23) (.s 26) (.c (.d (.bool false))), .none⟩,
 ⟨some 28, none, .mv (.s 27), .none⟩,
 ⟨some 29, some (28, true), .mv (.s 0), .none⟩,
 ⟨some 30, some (28, true), .sti (.s 29) (.c (.d (.int .i64 0))), .none⟩,
 ⟨some 31, some (28, true), .call 90 [.s 30] 2, .none⟩,
 ⟨some 32, none, .pick (.s 28) (.s 31) (.c (.d (.bool false))), .none⟩])
 (.cond (.s 32)
 .skip
 (.exit 2 (some [0]))))
 (.block 3 (.reg [⟨some 33, none, .mv (.s 0), .none⟩,
 ⟨some 34, none, .ssl (.s 33) (some (.c (.d (.int .i64 1)))) none, .none⟩,
 ⟨some 0, none, .mv (.s 34), .none⟩])))
def lp58_1 : C := lb58_1
theorem u58_1 (c : Ev.Callee) (l : Ev.Looper) (s : St) : evC c l lp58_1 s = evC c l lb58_1 s := rfl
abbrev st58_1 (m : Nat) (s0 s1 : AV) (h : Heap) : St := ⟨m, [s0, s1, .unk, .unk, .unk, .unk, .unk, .unk, .unk, .unk, .unk, .unk, .unk, .unk, .unk, .unk, .unk, .unk, .unk, .unk, .unk, .unk, .unk, .unk, .unk, .unk, .unk, .unk, .unk, .unk, .unk, .unk, .unk, .unk, .unk, .unk], h⟩
def lb58_0 : C :=
 (.seq (.seq (.reg [⟨some 5, none, .mv (.s 0), .none⟩,
 ⟨some 6, none, .lens (.s 5), .none⟩,
 ⟨some 7, none, .bin .gtr (.s 6) (.c (.d (.int .i64 0))), .none⟩,
 ⟨some 8, none, .mv (.s 7), .none⟩,
 ⟨some 9, some (8, true), .mv (.s 0), .none⟩,
 ⟨some 10, some (8, true), .mv (.s 0), .none⟩,
 ⟨some 11, some (8, true), .lens (.s 10), .none⟩,
 ⟨some 12, some (8, true), .bin .sub (.s 11) (.c (.d (.int .i64 1))), .none⟩,
 ⟨some 13, some (8, true), .sti (.s 9) (.s 12), .none⟩,
 ⟨some 14, some (8, true), .call 90 [.s 13] 2, .none⟩,
 ⟨some 15, none, .pick (.s 8) (.s 14) (.c (.d (.bool false))), .none⟩])
 (.cond (.s 15)
 .skip
 (.exit 0 (some [0, 1]))))
 (.block 1 (.reg [⟨some 16, none, .mv (.s 0), .none⟩,
 ⟨some 17, none, .mv (.s 0), .none⟩,
 ⟨some 18, none, .lens (.s 17), .none⟩,
 ⟨some 19, none, .bin .sub (.s 18) (.c (.d (.int .i64 1))), .none⟩,
 ⟨some 20, none, .ssl (.s 16) none (some (.s 19)), .none⟩,
 ⟨some 0, none, .mv (.s 20), .none⟩])))
def lp58_0 : C := lb58_0
theorem u58_0 (c : Ev.Callee) (l : Ev.Looper) (s : St) : evC c l lp58_0 s = evC c l lb58_0 s := rfl
abbrev st58_0 (m : Nat) (s0 s1 : AV) (h : Heap) : St := ⟨m, [s0, s1, .unk, .unk, .unk, .unk, .unk, .unk, .unk, .unk, .unk, .unk, .unk, .unk, .unk, .unk, .unk, .unk, .unk, .unk, .unk, .unk, .unk, .unk, .unk, .unk, .unk, .unk, .unk, .unk, .unk, .unk, .unk, .unk, .unk, .unk], h⟩
@[go_sem] theorem ks58_0 (v0 v1 v2 v3 v4 v5 v6 v7 v8 v9 v10 v11 v12 v13 v14 v15 v16 v17 v18 v19 v20 v21 v22 v23 v24 v25 v26 v27 v28 v29 v30 v31 v32 v33 v34 v35 : AV) : keepS [0, 1] [v0, v1, v2, v3, v4, v5, v6, v7, v8, v9, v10, v11, v12, v13, v14, v15, v16, v17, v18, v19, v20, v21, v22, v23, v24, v25, v26, v27, v28, v29, v30, v31, v32, v33, v34, v35] 0 = [v0, v1, .unk, .unk, .unk, .unk, .unk, .unk, .unk, .unk, .unk, .unk, .unk, .unk, .unk, .unk, .unk, .unk, .unk, .unk, .unk, .unk, .unk, .unk, .unk, .unk, .unk, .unk, .unk, .unk, .unk, .unk, .unk, .unk, .unk, .unk] := rfl
@[go_sem] theorem ks58_1 (v0 v1 v2 v3 v4 v5 v6 v7 v8 v9 v10 v11 v12 v13 v14 v15 v16 v17 v18 v19 v20 v21 v22 v23 v24 v25 v26 v27 v28 v29 v30 v31 v32 v33 v34 v35 : AV) : keepS [0] [v0, v1, v2, v3, v4, v5, v6, v7, v8, v9, v10, v11, v12, v13, v14, v15, v16, v17, v18, v19, v20, v21, v22, v23, v24, v25, v26, v27, v28, v29, v30, v31, v32, v33, v34, v35] 0 = [v0, .unk, .unk, .unk, .unk, .unk, .unk, .unk, .unk, .unk, .unk, .unk, .unk, .unk, .unk, .unk, .unk, .unk, .unk, .unk, .unk, .unk, .unk, .unk, .unk, .unk, .unk, .unk, .unk, .unk, .unk, .unk, .unk, .unk, .unk, .unk] := rfl
/-- spence/spenceref01.Trim -/
def bd58 : C :=
 (.seq (.reg [⟨some 4, none, .mv (.c (.d (.str []))), .none⟩])
 (.seq (.block 0 (.loop [0, 1] lp58_0))
 (.seq (.block 2 (.loop [0, 1] lp58_1))
 (.seq (.reg [⟨some 35, none, .mv (.s 0), .none⟩,
 ⟨some 4, none, .mv (.s 35), .none⟩])
 (.ret none)))))
def ir58 : F := { n := 36, res := [.tmp 4], body := bd58 }
@[go_sem] theorem n58 : ir58.n = 36 := rfl
@[go_sem] theorem r58 : ir58.res = [.tmp 4] := rfl
@[go_sem] theorem b58 : ir58.body = bd58 := rfl
def lb59_0 : C :=
 (.seq (.reg [⟨some 11, none, .bin .lss (.s 10) (.s 9), .none⟩])
 (.seq (.cond (.s 11)
 .skip
 (.exit 0 (some [4])))
 (.seq (.block 1 (.seq (.reg [⟨some 12, none, .mv (.s 10), .none⟩,
 ⟨some 13, none, .is (.s 8) (.s 10) 1, .none⟩,
 ⟨some 14, none, .ld (.s 13) 1 false, .none⟩,
 ⟨some 5, none, .mv (.s 12), .none⟩,
 ⟨some 6, none, .mv (.s 14), .none⟩])
 (.seq (.reg [⟨some 15, none, .mv (.s 6), .none⟩,
 ⟨some 16, none, .call 58 [.s 15, .c (.d (.bool false))] 2, .none⟩,
 ⟨some 7, none, .mv (.s 16), .none⟩])
 (.seq (.seq (.reg [⟨some 17, none, .mv (.s 7), .none⟩,
 ⟨some 18, none, .bin .eql (.s 17) (.c (.d (.str []))), .none⟩])
 (.cond (.s 18)
 (.seq (.seq (.reg [⟨some 19, none, .mv (.s 0), .none⟩,
 ⟨some 20, none, .len (.s 19), .none⟩,
 ⟨some 21, none, .bin .eql (.s 20) (.c (.d (.int .i64 1))), .none⟩,
 ⟨some 22, none, .mv (.s 21), .none⟩,
 ⟨some 23, some (22, true), .mv (.s 6), .none⟩,
 ⟨some 24, some (22, true), .bin .neq (.s 23) (.c (.d (.str []))), .none⟩,
 ⟨some 25, none, .pick (.s 22) (.s 24) (.c (.d (.bool false))), .none⟩])
 (.cond (.s 25)
 (.seq (.reg [⟨some 2, none, .mv (.c (.d .nils)), .one 1 true⟩,
 ⟨some 3, none, .mv (.c (.d (.bool false))), .none⟩])
 (.ret (some [2, 3])))
 .skip))
 (.exit 1 none))
 .skip))
 (.seq (.seq (.reg [⟨some 26, none, .mv (.s 5), .none⟩,
 ⟨some 27, none, .bin .eql (.s 26) (.c (.d (.int .i64 0))), .none⟩,
 ⟨some 28, none, .mv (.s 27), .none⟩,
 ⟨some 29, some (28, true), .mv (.s 6), .none⟩,
 ⟨some 30, some (28, true), .sti (.s 29) (.c (.d (.int .i64 0))), .none⟩,
 ⟨some 31, some (28, true), .call 90 [.s 30] 2, .none⟩,
 ⟨some 32, none, .pick (.s 28) (.s 31) (.c (.d (.bool false))), .none⟩,
 ⟨some 33, none, .mv (.s 32), .none⟩,
 ⟨some 34, some (33, false), .mv (.s 5), .none⟩,
 ⟨some 35, some (33, false), .mv (.s 0), .none⟩,
 ⟨some 36, some (33, false), .len (.s 35), .none⟩,
 ⟨some 37, some (33, false), .bin .sub (.s 36) (.c (.d (.int .i64 1))), .none⟩,
 ⟨some 38, some (33, false), .bin .eql (.s 34) (.s 37), .none⟩,
 ⟨some 39, some (33, false), .mv (.s 38), .none⟩,
 ⟨some 40, some (39, true), .mv (.s 6), .none⟩,
 ⟨some 41, some (39, true), .mv (.s 6), .none⟩,
 ⟨some 42, some (39, true), .lens (.s 41), .none⟩,
 ⟨some 43, some (39, true), .bin .sub (.s 42) (.c (.d (.int .i64 1))), .none⟩,
 ⟨some 44, some (39, true), .sti (.s 40) (.s 43), .none⟩,
 ⟨some 45, some (39, true), .call 90 [.s 44] 2, .none⟩,
 ⟨some 46, some (33, false), .pick (.s 39) (.s 45) (.c (.d (.bool false))), .none⟩,
 ⟨some 47, none, .pick (.s 33) (.c (.d (.bool true))) (.s 46), .none⟩])
 (.cond (.s 47)
 (.seq (.reg [⟨some 2, none, .mv (.c (.d .nils)), .one 1 true⟩,
 ⟨some 3, none, .mv (.c (.d (.bool false))), .none⟩])
 (.ret (some [2, 3])))
 .skip))
 (.reg [⟨some 48, none, .mv (.s 4), .none⟩,
 ⟨some 49, none, .mv (.s 7), .none⟩,
 ⟨some 50, none, .bsl 9 1 1 [.str []] [(0, (1, .s 49))], .none⟩,
 ⟨some 51, none, .app 9 1 16 (.s 48) (.s 50), .none⟩,
 ⟨some 4, none, .mv (.s 51), .none⟩]))))))
 (.reg [⟨some 52, none, .bin .add (.s 10) (.c (.d (.int .i64 1))), .none⟩,
 ⟨some 10, none, .mv (.s 52), .none⟩]))))
def lp59_0 : C := lb59_0
theorem u59_0 (c : Ev.Callee) (l : Ev.Looper) (s : St) : evC c l lp59_0 s = evC c l lb59_0 s := rfl
abbrev st59_0 (m : Nat) (s0 s4 s8 s9 s10 : AV) (h : Heap) : St := ⟨m, [s0, .unk, .unk, .unk, s4, .unk, .unk, .unk, s8, s9, s10, .unk, .unk, .unk, .unk, .unk, .unk, .unk, .unk, .unk, .unk, .unk, .unk, .unk, .unk, .unk, .unk, .unk, .unk, .unk, .unk, .unk, .unk, .unk, .unk, .unk, .unk, .unk, .unk, .unk, .unk, .unk, .unk, .unk, .unk, .unk, .unk, .unk, .unk, .unk, .unk, .unk, .unk, .unk], h⟩
@[go_sem] theorem ks59_0 (v0 v1 v2 v3 v4 v5 v6 v7 v8 v9 v10 v11 v12 v13 v14 v15 v16 v17 v18 v19 v20 v21 v22 v23 v24 v25 v26 v27 v28 v29 v30 v31 v32 v33 v34 v35 v36 v37 v38 v39 v40 v41 v42 v43 v44 v45 v46 v47 v48 v49 v50 v51 v52 v53 : AV) : keepS [0, 4, 8, 9, 10] [v0, v1, v2, v3, v4, v5, v6, v7, v8, v9, v10, v11, v12, v13, v14, v15, v16, v17, v18, v19, v20, v21, v22, v23, v24, v25, v26, v27, v28, v29, v30, v31, v32, v33, v34, v35, v36, v37, v38, v39, v40, v41, v42, v43, v44, v45, v46, v47, v48, v49, v50, v51, v52, v53] 0 = [v0, .unk, .unk, .unk, v4, .unk, .unk, .unk, v8, v9, v10, .unk, .unk, .unk, .unk, .unk, .unk, .unk, .unk, .unk, .unk, .unk, .unk, .unk, .unk, .unk, .unk, .unk, .unk, .unk, .unk, .unk, .unk, .unk, .unk, .unk, .unk, .unk, .unk, .unk, .unk, .unk, .unk, .unk, .unk, .unk, .unk, .unk, .unk, .unk, .unk, .unk, .unk, .unk] := rfl
@[go_sem] theorem ks59_1 (v0 v1 v2 v3 v4 v5 v6 v7 v8 v9 v10 v11 v12 v13 v14 v15 v16 v17 v18 v19 v20 v21 v22 v23 v24 v25 v26 v27 v28 v29 v30 v31 v32 v33 v34 v35 v36 v37 v38 v39 v40 v41 v42 v43 v44 v45 v46 v47 v48 v49 v50 v51 v52 v53 : AV) : keepS [4] [v0, v1, v2, v3, v4, v5, v6, v7, v8, v9, v10, v11, v12, v13, v14, v15, v16, v17, v18, v19, v20, v21, v22, v23, v24, v25, v26, v27, v28, v29, v30, v31, v32, v33, v34, v35, v36, v37, v38, v39, v40, v41, v42, v43, v44, v45, v46, v47, v48, v49, v50, v51, v52, v53] 0 = [.unk, .unk, .unk, .unk, v4, .unk, .unk, .unk, .unk, .unk, .unk, .unk, .unk, .unk, .unk, .unk, .unk, .unk, .unk, .unk, .unk, .unk, .unk, .unk, .unk, .unk, .unk, .unk, .unk, .unk, .unk, .unk, .unk, .unk, .unk, .unk, .unk, .unk, .unk, .unk, .unk, .unk, .unk, .unk, .unk, .unk, .unk, .unk, .unk, .unk, .unk, .unk, .unk, .unk] := rfl
@[go_sem] theorem ks59_2 (v0 v1 v2 v3 v4 v5 v6 v7 v8 v9 v10 v11 v12 v13 v14 v15 v16 v17 v18 v19 v20 v21 v22 v23 v24 v25 v26 v27 v28 v29 v30 v31 v32 v33 v34 v35 v36 v37 v38 v39 v40 v41 v42 v43 v44 v45 v46 v47 v48 v49 v50 v51 v52 v53 : AV) : keepS [2, 3] [v0, v1, v2, v3, v4, v5, v6, v7, v8, v9, v10, v11, v12, v13, v14, v15, v16, v17, v18, v19, v20, v21, v22, v23, v24, v25, v26, v27, v28, v29, v30, v31, v32, v33, v34, v35, v36, v37, v38, v39, v40, v41, v42, v43, v44, v45, v46, v47, v48, v49, v50, v51, v52, v53] 0 = [.unk, .unk, v2, v3, .unk, .unk, .unk, .unk, .unk, .unk, .unk, .unk, .unk, .unk, .unk, .unk, .unk, .unk, .unk, .unk, .unk, .unk, .unk, .unk, .unk, .unk, .unk, .unk, .unk, .unk, .unk, .unk, .unk, .unk, .unk, .unk, .unk, .unk, .unk, .unk, .unk, .unk, .unk, .unk, .unk, .unk, .unk, .unk, .unk, .unk, .unk, .unk, .unk, .unk] := rfl
/-- spence/spenceref01.List -/
def bd59 : C :=
 (.seq (.reg [⟨some 2, none, .mv (.c (.d .nils)), .one 1 true⟩,
 ⟨some 3, none, .mv (.c (.d (.bool false))), .none⟩])
 (.seq (.reg [⟨some 4, none, .mv (.c (.d .nils)), .one 1 true⟩])
 (.seq (.seq (.reg [⟨some 8, none, .mv (.s 0), .none⟩,
 ⟨some 9, none, .len (.s 8), .none⟩,
 ⟨some 10, none, .mv (.c (.d (.int .i64 0))), .none⟩])
 (.block 0 (.loop [0, 4, 8, 9, 10] lp59_0)))
 (.seq (.reg [⟨some 53, none, .mv (.s 4), .none⟩,
 ⟨some 2, none, .mv (.s 53), .none⟩,
 ⟨some 3, none, .mv (.c (.d (.bool true))), .none⟩])
 (.ret none)))))
def ir59 : F := { n := 54, res := [.tmp 2, .tmp 3], body := bd59 }
@[go_sem] theorem n59 : ir59.n = 54 := rfl
@[go_sem] theorem r59 : ir59.res = [.tmp 2, .tmp 3] := rfl
@[go_sem] theorem b59 : ir59.body = bd59 := rfl
def lb60_0 : C :=
 (.seq (.seq (.reg [⟨some 9, none, .mv (.s 7), .none⟩,
 ⟨some 10, none, .mv (.s 0), .none⟩,
 ⟨some 11, none, .lens (.s 10), .none⟩,
 ⟨some 12, none, .bin .lss (.s 9) (.s 11), .none⟩])
 (.cond (.s 12)
 .skip
 (.exit 0 (some [5]))))
 (.seq (.block 1 (.seq (.seq (.reg [⟨some 15, none, .mv (.s 0), .none⟩,
 ⟨some 16, none, .mv (.s 7), .none⟩,
 ⟨some 17, none, .sti (.s 15) (.s 16), .none⟩,
 ⟨some 18, none, .bin .eql (.s 17) (.c (.d (.int .u8 34))), .none⟩,
 ⟨some 19, none, .mv (.s 18), .none⟩,
 ⟨some 20, some (19, true), .mv (.s 1), .none⟩,
 ⟨some 21, none, .pick (.s 19) (.s 20) (.c (.d (.bool false))), .none⟩])
 (.cond (.s 21)
 (.reg [⟨some 22, none, .mv (.s 6), .none⟩,
 ⟨some 23, none, .un .not (.s 22), .none⟩,
 ⟨some 6, none, .mv (.s 23), .none⟩])
 .skip))
 (.ann [0, 1, 5, 6, 7] (.seq (.seq (.reg [⟨some 24, none, .mv (.s 0), .none⟩,
 ⟨some 25, none, .mv (.s 7), .none⟩,
 ⟨some 26, none, .sti (.s 24) (.s 25), .none⟩,
 ⟨some 27, none, .bin .eql (.s 26) (.c (.d (.int .u8 44))), .none⟩,
 ⟨some 28, none, .mv (.s 27), .none⟩,
 ⟨some 29, some (28, true), .mv (.s 6), .none⟩,
 ⟨some 30, some (28, true), .un .not (.s 29), .none⟩,
 ⟨some 31, none, .pick (.s 28) (.s 30) (.c (.d (.bool false))), .none⟩])
 (.cond (.s 31)
 (.seq (.reg [⟨some 32, none, .mv (.s 5), .none⟩,
 ⟨some 33, none, .bsl 9 1 1 [.str []] [(0, (1, .c (.d (.str []))))], .none⟩,
 ⟨some 34, none, .app 9 1 16 (.s 32) (.s 33), .none⟩,
 ⟨some 5, none, .mv (.s 34), .none⟩])
 (.exit 1 none))
 .skip))
 (.drw [⟨some 35, none, .mv (.s 5), .none⟩,
 ⟨some 36, none, .mv (.s 5), .none⟩,
 ⟨some 37, none, .len (.s 36), .none⟩,
 ⟨some 38, none, .bin .sub (.s 37) (.c (.d (.int .i64 1))), .none⟩,
 ⟨some 39, none, .is (.s 35) (.s 38) 1, .none⟩,
 ⟨some 40, none, .ld (.s 39) 1 false, .none⟩,
 ⟨some 41, none, .mv (.s 0), .none⟩,
 ⟨some 42, none, .mv (.s 7), .none⟩,
 ⟨some 43, none, .sti (.s 41) (.s 42), .none⟩,
 ⟨some 44, none, .bsl 5 1 1 [.int .u8 0] [(0, (1, .s 43))], .dat⟩,
 ⟨some 45, none, .b2s (.s 44), .none⟩,
 ⟨some 46, none, .bin .add (.s 40) (.s 45), .none⟩,
 ⟨some 47, none, .is (.s 35) (.s 38) 1, .none⟩,
 ⟨none, none, .st (.s 47) (.s 46) 1, .none⟩]
 [[], [], [1], [2], [0, 3], [4], [], [], [6, 7], [8], [9], [5, 10], [0, 3, 0, 1, 2, 3, 4, 5, 6, 7, 8, 9, 10, 11], [12, 11, 0, 1, 2, 3, 4, 5, 6, 7, 8, 9, 10, 11]] [])))))
 (.reg [⟨some 13, none, .mv (.s 7), .none⟩,
 ⟨some 14, none, .bin .add (.s 13) (.c (.d (.int .i64 1))), .none⟩,
 ⟨some 7, none, .mv (.s 14), .none⟩])))
def lp60_0 : C := lb60_0
theorem u60_0 (c : Ev.Callee) (l : Ev.Looper) (s : St) : evC c l lp60_0 s = evC c l lb60_0 s := rfl
abbrev st60_0 (m : Nat) (s0 s1 s5 s6 s7 : AV) (h : Heap) : St := ⟨m, [s0, s1, .unk, .unk, .unk, s5, s6, s7, .unk, .unk, .unk, .unk, .unk, .unk, .unk, .unk, .unk, .unk, .unk, .unk, .unk, .unk, .unk, .unk, .unk, .unk, .unk, .unk, .unk, .unk, .unk, .unk, .unk, .unk, .unk, .unk, .unk, .unk, .unk, .unk, .unk, .unk, .unk, .unk, .unk, .unk, .unk, .unk, .unk], h⟩
@[go_sem] theorem ks60_0 (v0 v1 v2 v3 v4 v5 v6 v7 v8 v9 v10 v11 v12 v13 v14 v15 v16 v17 v18 v19 v20 v21 v22 v23 v24 v25 v26 v27 v28 v29 v30 v31 v32 v33 v34 v35 v36 v37 v38 v39 v40 v41 v42 v43 v44 v45 v46 v47 v48 : AV) : keepS [0, 1, 5, 6, 7] [v0, v1, v2, v3, v4, v5, v6, v7, v8, v9, v10, v11, v12, v13, v14, v15, v16, v17, v18, v19, v20, v21, v22, v23, v24, v25, v26, v27, v28, v29, v30, v31, v32, v33, v34, v35, v36, v37, v38, v39, v40, v41, v42, v43, v44, v45, v46, v47, v48] 0 = [v0, v1, .unk, .unk, .unk, v5, v6, v7, .unk, .unk, .unk, .unk, .unk, .unk, .unk, .unk, .unk, .unk, .unk, .unk, .unk, .unk, .unk, .unk, .unk, .unk, .unk, .unk, .unk, .unk, .unk, .unk, .unk, .unk, .unk, .unk, .unk, .unk, .unk, .unk, .unk, .unk, .unk, .unk, .unk, .unk, .unk, .unk, .unk] := rfl
@[go_sem] theorem ks60_1 (v0 v1 v2 v3 v4 v5 v6 v7 v8 v9 v10 v11 v12 v13 v14 v15 v16 v17 v18 v19 v20 v21 v22 v23 v24 v25 v26 v27 v28 v29 v30 v31 v32 v33 v34 v35 v36 v37 v38 v39 v40 v41 v42 v43 v44 v45 v46 v47 v48 : AV) : keepS [5] [v0, v1, v2, v3, v4, v5, v6, v7, v8, v9, v10, v11, v12, v13, v14, v15, v16, v17, v18, v19, v20, v21, v22, v23, v24, v25, v26, v27, v28, v29, v30, v31, v32, v33, v34, v35, v36, v37, v38, v39, v40, v41, v42, v43, v44, v45, v46, v47, v48] 0 = [.unk, .unk, .unk, .unk, .unk, v5, .unk, .unk, .unk, .unk, .unk, .unk, .unk, .unk, .unk, .unk, .unk, .unk, .unk, .unk, .unk, .unk, .unk, .unk, .unk, .unk, .unk, .unk, .unk, .unk, .unk, .unk, .unk, .unk, .unk, .unk, .unk, .unk, .unk, .unk, .unk, .unk, .unk, .unk, .unk, .unk, .unk, .unk, .unk] := rfl
/-- spence/spenceref01.Pieces -/
def bd60 : C :=
 (.seq (.reg [⟨some 4, none, .mv (.c (.d .nils)), .one 1 true⟩])
 (.seq (.reg [⟨some 8, none, .bsl 9 1 1 [.str []] [(0, (1, .c (.d (.str []))))], .none⟩,
 ⟨some 5, none, .mv (.s 8), .none⟩])
 (.seq (.reg [⟨some 6, none, .mv (.c (.d (.bool false))), .none⟩])
 (.seq (.seq (.reg [⟨some 7, none, .mv (.c (.d (.int .i64 0))), .none⟩])
 (.block 0 (.loop [0, 1, 5, 6, 7] lp60_0)))
 (.seq (.reg [⟨some 48, none, .mv (.s 5), .none⟩,
 ⟨some 4, none, .mv (.s 48), .none⟩])
 (.ret none))))))
def ir60 : F := { n := 49, res := [.tmp 4], body := bd60 }
@[go_sem] theorem n60 : ir60.n = 49 := rfl
@[go_sem] theorem r60 : ir60.res = [.tmp 4] := rfl
@[go_sem] theorem b60 : ir60.body = bd60 := rfl
def lb61_0 : C :=
 (.seq (.seq (.reg [⟨some 6, none, .mv (.s 4), .none⟩,
 ⟨some 7, none, .mv (.s 0), .none⟩,
 ⟨some 8, none, .lens (.s 7), .none⟩,
 ⟨some 9, none, .bin .lss (.s 6) (.s 8), .none⟩])
 (.cond (.s 9)
 .skip
 (.exit 0 (some [3]))))
 (.seq (.block 1 (.seq (.reg [⟨some 12, none, .mv (.s 0), .none⟩,
 ⟨some 13, none, .mv (.s 4), .none⟩,
 ⟨some 14, none, .sti (.s 12) (.s 13), .none⟩,
 ⟨some 5, none, .mv (.s 14), .none⟩])
 (.seq (.seq (.reg [⟨some 15, none, .mv (.s 5), .none⟩,
 ⟨some 16, none, .bin .geq (.s 15) (.c (.d (.int .u8 65))), .none⟩,
 ⟨some 17, none, .mv (.s 16), .none⟩,
 ⟨some 18, some (17, true), .mv (.s 5), .none⟩,
 ⟨some 19, some (17, true), .bin .leq (.s 18) (.c (.d (.int .u8 90))), .none⟩,
 ⟨some 20, none, .pick (.s 17) (.s 19) (.c (.d (.bool false))), .none⟩])
 (.cond (.s 20)
 (.reg [⟨some 21, none, .mv (.s 5), .none⟩,
 ⟨some 22, none, .bin .add (.s 21) (.c (.d (.int .u8 32))), .none⟩,
 ⟨some 5, none, .mv (.s 22), .none⟩])
 .skip))
 (.ann [0, 3, 4, 5] (.reg [⟨some 23, none, .mv (.s 3), .none⟩,
 ⟨some 24, none, .mv (.s 5), .none⟩,
 ⟨some 25, none, .bsl 5 1 1 [.int .u8 0] [(0, (1, .s 24))], .none⟩,
 ⟨some 26, none, .b2s (.s 25), .none⟩,
 ⟨some 27, none, .bin .add (.s 23) (.s 26), .none⟩,
 ⟨some 3, none, .mv (.s 27), .none⟩])))))
 (.reg [⟨some 10, none, .mv (.s 4), .none⟩,
 ⟨some 11, none, .bin .add (.s 10) (.c (.d (.int .i64 1))), .none⟩,
 ⟨some 4, none, .mv (.s 11), .none⟩])))
def lp61_0 : C := lb61_0
theorem u61_0 (c : Ev.Callee) (l : Ev.Looper) (s : St) : evC c l lp61_0 s = evC c l lb61_0 s := rfl
abbrev st61_0 (m : Nat) (s0 s3 s4 : AV) (h : Heap) : St := ⟨m, [s0, .unk, .unk, s3, s4, .unk, .unk, .unk, .unk, .unk, .unk, .unk, .unk, .unk, .unk, .unk, .unk, .unk, .unk, .unk, .unk, .unk, .unk, .unk, .unk, .unk, .unk, .unk, .unk], h⟩
@[go_sem] theorem ks61_0 (v0 v1 v2 v3 v4 v5 v6 v7 v8 v9 v10 v11 v12 v13 v14 v15 v16 v17 v18 v19 v20 v21 v22 v23 v24 v25 v26 v27 v28 : AV) : keepS [0, 3, 4] [v0, v1, v2, v3, v4, v5, v6, v7, v8, v9, v10, v11, v12, v13, v14, v15, v16, v17, v18, v19, v20, v21, v22, v23, v24, v25, v26, v27, v28] 0 = [v0, .unk, .unk, v3, v4, .unk, .unk, .unk, .unk, .unk, .unk, .unk, .unk, .unk, .unk, .unk, .unk, .unk, .unk, .unk, .unk, .unk, .unk, .unk, .unk, .unk, .unk, .unk, .unk] := rfl
@[go_sem] theorem ks61_1 (v0 v1 v2 v3 v4 v5 v6 v7 v8 v9 v10 v11 v12 v13 v14 v15 v16 v17 v18 v19 v20 v21 v22 v23 v24 v25 v26 v27 v28 : AV) : keepS [3] [v0, v1, v2, v3, v4, v5, v6, v7, v8, v9, v10, v11, v12, v13, v14, v15, v16, v17, v18, v19, v20, v21, v22, v23, v24, v25, v26, v27, v28] 0 = [.unk, .unk, .unk, v3, .unk, .unk, .unk, .unk, .unk, .unk, .unk, .unk, .unk, .unk, .unk, .unk, .unk, .unk, .unk, .unk, .unk, .unk, .unk, .unk, .unk, .unk, .unk, .unk, .unk] := rfl
@[go_sem] theorem ks61_2 (v0 v1 v2 v3 v4 v5 v6 v7 v8 v9 v10 v11 v12 v13 v14 v15 v16 v17 v18 v19 v20 v21 v22 v23 v24 v25 v26 v27 v28 : AV) : keepS [0, 3, 4, 5] [v0, v1, v2, v3, v4, v5, v6, v7, v8, v9, v10, v11, v12, v13, v14, v15, v16, v17, v18, v19, v20, v21, v22, v23, v24, v25, v26, v27, v28] 0 = [v0, .unk, .unk, v3, v4, v5, .unk, .unk, .unk, .unk, .unk, .unk, .unk, .unk, .unk, .unk, .unk, .unk, .unk, .unk, .unk, .unk, .unk, .unk, .unk, .unk, .unk, .unk, .unk] := rfl
/-- spence/spenceref01.Lower -/
def bd61 : C :=
 (.seq (.reg [⟨some 2, none, .mv (.c (.d (.str []))), .none⟩])
 (.seq (.reg [⟨some 3, none, .mv (.c (.d (.str []))), .none⟩])
 (.seq (.seq (.reg [⟨some 4, none, .mv (.c (.d (.int .i64 0))), .none⟩])
 (.block 0 (.loop [0, 3, 4] lp61_0)))
 (.seq (.reg [⟨some 28, none, .mv (.s 3), .none⟩,
 ⟨some 2, none, .mv (.s 28), .none⟩])
 (.ret none)))))
def ir61 : F := { n := 29, res := [.tmp 2], body := bd61 }
@[go_sem] theorem n61 : ir61.n = 29 := rfl
@[go_sem] theorem r61 : ir61.res = [.tmp 2] := rfl
@[go_sem] theorem b61 : ir61.body = bd61 := rfl
/-- spence/spenceref04.One -/
def bd62 : C :=
 (.seq (.reg [⟨some 2, none, .alloc 72 [.int .i64 0, .int .i64 0, .int .i64 0], .none⟩,
 ⟨some 3, none, .mv (.c (.d (.int .i64 0))), .none⟩])
 (.seq (.reg [⟨some 12, none, .mv (.s 0), .none⟩,
 ⟨some 13, none, .call 57 [.s 12, .c (.d (.int .u8 45))] 2, .none⟩,
 ⟨some 11, none, .mv (.s 13), .none⟩,
 ⟨some 14, none, .ext (.s 11) 0, .none⟩,
 ⟨some 15, none, .ext (.s 11) 1, .none⟩,
 ⟨some 16, none, .ext (.s 11) 2, .none⟩,
 ⟨some 4, none, .mv (.s 14), .none⟩,
 ⟨some 5, none, .mv (.s 15), .none⟩,
 ⟨some 6, none, .mv (.s 16), .none⟩])
 (.seq (.reg [⟨some 18, none, .mv (.s 4), .none⟩,
 ⟨some 19, none, .call 91 [.s 18] 2, .none⟩,
 ⟨some 17, none, .mv (.s 19), .none⟩,
 ⟨some 20, none, .ext (.s 17) 0, .none⟩,
 ⟨some 21, none, .ext (.s 17) 1, .none⟩,
 ⟨some 7, none, .mv (.s 20), .none⟩,
 ⟨some 8, none, .mv (.s 21), .none⟩])
 (.seq (.reg [⟨some 23, none, .mv (.s 5), .none⟩,
 ⟨some 24, none, .call 91 [.s 23] 2, .none⟩,
 ⟨some 22, none, .mv (.s 24), .none⟩,
 ⟨some 25, none, .ext (.s 22) 0, .none⟩,
 ⟨some 26, none, .ext (.s 22) 1, .none⟩,
 ⟨some 9, none, .mv (.s 25), .none⟩,
 ⟨some 10, none, .mv (.s 26), .none⟩])
 (.block 0 (.seq (.reg [⟨some 31, none, .mv (.s 6), .none⟩,
 ⟨some 32, none, .un .not (.s 31), .none⟩,
 ⟨some 30, none, .mv (.s 32), .none⟩])
 (.cond (.s 30)
 (.seq (.reg [⟨some 33, none, .build [.int .i64 0, .int .i64 0, .int .i64 0] [], .none⟩,
 ⟨none, none, .st (.s 2) (.s 33) 3, .none⟩,
 ⟨some 3, none, .mv (.c (.d (.int .i64 3))), .none⟩])
 (.ret none))
 (.seq (.reg [⟨some 35, none, .mv (.s 4), .none⟩,
 ⟨some 36, none, .bin .eql (.s 35) (.c (.d (.str []))), .none⟩,
 ⟨some 34, none, .mv (.s 36), .none⟩])
 (.cond (.s 34)
 (.seq (.seq (.reg [⟨some 37, none, .mv (.s 10), .none⟩,
 ⟨some 38, none, .bin .neq (.s 37) (.c (.d (.int .i64 0))), .none⟩])
 (.cond (.s 38)
 (.seq (.reg [⟨some 39, none, .build [.int .i64 0, .int .i64 0, .int .i64 0] [], .none⟩,
 ⟨some 40, none, .mv (.s 10), .none⟩,
 ⟨none, none, .st (.s 2) (.s 39) 3, .none⟩,
 ⟨some 3, none, .mv (.s 40), .none⟩])
 (.ret none))
 .skip))
 (.seq (.reg [⟨some 41, none, .mv (.s 9), .none⟩,
 ⟨some 42, none, .build [.int .i64 0, .int .i64 0, .int .i64 0] [(0, (1, .c (.d (.int .i64 3)))), (1, (1, .s 41))], .none⟩,
 ⟨none, none, .st (.s 2) (.s 42) 3, .none⟩,
 ⟨some 3, none, .mv (.c (.d (.int .i64 0))), .none⟩])
 (.ret none)))
 (.seq (.reg [⟨some 44, none, .mv (.s 5), .none⟩,
 ⟨some 45, none, .bin .eql (.s 44) (.c (.d (.str []))), .none⟩,
 ⟨some 43, none, .mv (.s 45), .none⟩])
 (.cond (.s 43)
 (.seq (.seq (.reg [⟨some 46, none, .mv (.s 8), .none⟩,
 ⟨some 47, none, .bin .neq (.s 46) (.c (.d (.int .i64 0))), .none⟩])
 (.cond (.s 47)
 (.seq (.reg [⟨some 48, none, .build [.int .i64 0, .int .i64 0, .int .i64 0] [], .none⟩,
 ⟨some 49, none, .mv (.s 8), .none⟩,
 ⟨none, none, .st (.s 2) (.s 48) 3, .none⟩,
 ⟨some 3, none, .mv (.s 49), .none⟩])
 (.ret none))
 .skip))
 (.seq (.reg [⟨some 50, none, .mv (.s 7), .none⟩,
 ⟨some 51, none, .build [.int .i64 0, .int .i64 0, .int .i64 0] [(0, (1, .c (.d (.int .i64 1)))), (1, (1, .s 50))], .none⟩,
 ⟨none, none, .st (.s 2) (.s 51) 3, .none⟩,
 ⟨some 3, none, .mv (.c (.d (.int .i64 0))), .none⟩])
 (.ret none)))
 (.seq (.reg [⟨some 53, none, .mv (.s 8), .none⟩,
 ⟨some 54, none, .bin .eql (.s 53) (.c (.d (.int .i64 3))), .none⟩,
 ⟨some 55, none, .mv (.s 54), .none⟩,
 ⟨some 56, some (55, false), .mv (.s 10), .none⟩,
 ⟨some 57, some (55, false), .bin .eql (.s 56) (.c (.d (.int .i64 3))), .none⟩,
 ⟨some 58, none, .pick (.s 55) (.c (.d (.bool true))) (.s 57), .none⟩,
 ⟨some 59, none, .mv (.s 58), .none⟩,
 ⟨some 60, some (59, false), .mv (.s 5), .none⟩,
 ⟨some 61, some (59, false), .mv (.s 4), .none⟩,
 ⟨some 62, some (59, false), .call 92 [.s 60, .s 61] 2, .none⟩,
 ⟨some 63, none, .pick (.s 59) (.c (.d (.bool true))) (.s 62), .none⟩,
 ⟨some 52, none, .mv (.s 63), .none⟩])
 (.cond (.s 52)
 (.seq (.reg [⟨some 64, none, .build [.int .i64 0, .int .i64 0, .int .i64 0] [], .none⟩,
 ⟨none, none, .st (.s 2) (.s 64) 3, .none⟩,
 ⟨some 3, none, .mv (.c (.d (.int .i64 3))), .none⟩])
 (.ret none))
 (.seq (.reg [⟨some 66, none, .mv (.s 8), .none⟩,
 ⟨some 67, none, .bin .neq (.s 66) (.c (.d (.int .i64 0))), .none⟩,
 ⟨some 68, none, .mv (.s 67), .none⟩,
 ⟨some 69, some (68, false), .mv (.s 10), .none⟩,
 ⟨some 70, some (68, false), .bin .neq (.s 69) (.c (.d (.int .i64 0))), .none⟩,
 ⟨some 71, none, .pick (.s 68) (.c (.d (.bool true))) (.s 70), .none⟩,
 ⟨some 65, none, .mv (.s 71), .none⟩])
 (.cond (.s 65)
 (.seq (.reg [⟨some 72, none, .build [.int .i64 0, .int .i64 0, .int .i64 0] [], .none⟩,
 ⟨none, none, .st (.s 2) (.s 72) 3, .none⟩,
 ⟨some 3, none, .mv (.c (.d (.int .i64 9))), .none⟩])
 (.ret none))
 (.seq (.reg [⟨some 27, none, .mv (.s 7), .none⟩,
 ⟨some 28, none, .mv (.s 9), .none⟩,
 ⟨some 29, none, .build [.int .i64 0, .int .i64 0, .int .i64 0] [(0, (1, .c (.d (.int .i64 2)))), (1, (1, .s 27)), (2, (1, .s 28))], .none⟩,
 ⟨none, none, .st (.s 2) (.s 29) 3, .none⟩,
 ⟨some 3, none, .mv (.c (.d (.int .i64 0))), .none⟩])
 (.ret none)))))))))))))))))
def ir62 : F := { n := 73, res := [.cell 2 3 true, .tmp 3], body := bd62 }
@[go_sem] theorem n62 : ir62.n = 73 := rfl
@[go_sem] theorem r62 : ir62.res = [.cell 2 3 true, .tmp 3] := rfl
@[go_sem] theorem b62 : ir62.body = bd62 := rfl
@[go_sem] theorem ks63_0 (v0 v1 v2 v3 v4 v5 v6 v7 v8 v9 v10 v11 v12 v13 v14 v15 v16 v17 v18 v19 v20 v21 v22 v23 v24 v25 v26 v27 v28 v29 v30 : AV) : keepS [1, 25] [v0, v1, v2, v3, v4, v5, v6, v7, v8, v9, v10, v11, v12, v13, v14, v15, v16, v17, v18, v19, v20, v21, v22, v23, v24, v25, v26, v27, v28, v29, v30] 0 = [.unk, v1, .unk, .unk, .unk, .unk, .unk, .unk, .unk, .unk, .unk, .unk, .unk, .unk, .unk, .unk, .unk, .unk, .unk, .unk, .unk, .unk, .unk, .unk, .unk, v25, .unk, .unk, .unk, .unk, .unk] := rfl
/-- spence/spenceref04.RightSpec -/
def bd63 : C :=
 (.seq (.reg [⟨some 1, none, .box 72 (.s 0), .none⟩,
 ⟨some 2, none, .mv (.c (.d (.bool false))), .none⟩])
 (.seq (.seq (.reg [⟨some 3, none, .fa (.s 1) 1, .none⟩,
 ⟨some 4, none, .ld (.s 3) 1 false, .none⟩,
 ⟨some 5, none, .bin .lss (.s 4) (.c (.d (.int .i64 0))), .none⟩,
 ⟨some 6, none, .mv (.s 5), .none⟩,
 ⟨some 7, some (6, false), .fa (.s 1) 1, .none⟩,
 ⟨some 8, some (6, false), .ld (.s 7) 1 false, .none⟩,
 ⟨some 9, some (6, false), .bin .gtr (.s 8) (.c (.d (.int .i64 4611686018427387903))), .none⟩,
 ⟨some 10, none, .pick (.s 6) (.c (.d (.bool true))) (.s 9), .none⟩,
 ⟨some 11, none, .mv (.s 10), .none⟩,
 ⟨some 12, some (11, false), .fa (.s 1) 2, .none⟩,
 ⟨some 13, some (11, false), .ld (.s 12) 1 false, .none⟩,
 ⟨some 14, some (11, false), .bin .gtr (.s 13) (.c (.d (.int .i64 4611686018427387903))), .none⟩,
 ⟨some 15, none, .pick (.s 11) (.c (.d (.bool true))) (.s 14), .none⟩])
 (.cond (.s 15)
 (.seq (.reg [⟨some 2, none, .mv (.c (.d (.bool false))), .none⟩])
 (.ret none))
 .skip))
 (.seq (.reg [⟨some 16, none, .fa (.s 1) 0, .none⟩,
 ⟨some 17, none, .ld (.s 16) 1 false, .none⟩])
 (.block 0 (.seq (.reg [⟨some 19, none, .bin .eql (.s 17) (.c (.d (.int .i64 2))), .none⟩,
 ⟨some 18, none, .mv (.s 19), .none⟩])
 (.cond (.s 18)
 (.seq (.reg [⟨some 20, none, .fa (.s 1) 2, .none⟩,
 ⟨some 21, none, .ld (.s 20) 1 false, .none⟩,
 ⟨some 22, none, .fa (.s 1) 1, .none⟩,
 ⟨some 23, none, .ld (.s 22) 1 false, .none⟩,
 ⟨some 24, none, .bin .geq (.s 21) (.s 23), .none⟩,
 ⟨some 2, none, .mv (.s 24), .none⟩])
 (.ret none))
 (.seq (.seq (.reg [⟨some 26, none, .bin .eql (.s 17) (.c (.d (.int .i64 1))), .none⟩,
 ⟨some 25, none, .mv (.s 26), .none⟩])
 (.cond (.s 25)
 .skip
 (.reg [⟨some 27, none, .bin .eql (.s 17) (.c (.d (.int .i64 3))), .none⟩,
 ⟨some 25, none, .mv (.s 27), .none⟩])))
 (.ann [1, 25] (.cond (.s 25)
 (.seq (.reg [⟨some 28, none, .fa (.s 1) 2, .none⟩,
 ⟨some 29, none, .ld (.s 28) 1 false, .none⟩,
 ⟨some 30, none, .bin .eql (.s 29) (.c (.d (.int .i64 0))), .none⟩,
 ⟨some 2, none, .mv (.s 30), .none⟩])
 (.ret none))
 (.seq (.reg [⟨some 2, none, .mv (.c (.d (.bool false))), .none⟩])
 (.ret none)))))))))))
def ir63 : F := { n := 31, res := [.tmp 2], body := bd63 }
@[go_sem] theorem n63 : ir63.n = 31 := rfl
@[go_sem] theorem r63 : ir63.res = [.tmp 2] := rfl
@[go_sem] theorem b63 : ir63.body = bd63 := rfl
/-- spence/spenceref01.Print -/
def bd64 : C :=
 (.seq (.reg [⟨some 2, none, .mv (.c (.d (.str []))), .none⟩])
 (.seq (.seq (.reg [⟨some 4, none, .mv (.s 0), .none⟩,
 ⟨some 5, none, .bin .lss (.s 4) (.c (.d (.int .i64 0))), .none⟩])
 (.cond (.s 5)
 (.seq (.reg [⟨some 6, none, .mv (.s 0), .none⟩,
 ⟨some 7, none, .bin .add (.s 6) (.c (.d (.int .i64 1))), .none⟩,
 ⟨some 8, none, .un .neg (.s 7), .none⟩,
 ⟨some 9, none, .cvi .u64 (.s 8), .none⟩,
 ⟨some 10, none, .bin .add (.s 9) (.c (.d (.int .u64 1))), .none⟩,
 ⟨some 3, none, .mv (.s 10), .none⟩])
 (.seq (.reg [⟨some 11, none, .mv (.s 3), .none⟩,
 ⟨some 12, none, .call 93 [.s 11] 2, .none⟩,
 ⟨some 13, none, .bin .add (.c (.d (.str [45]))) (.s 12), .none⟩,
 ⟨some 2, none, .mv (.s 13), .none⟩])
 (.ret none)))
 .skip))
 (.seq (.reg [⟨some 14, none, .mv (.s 0), .none⟩,
 ⟨some 15, none, .cvi .u64 (.s 14), .none⟩,
 ⟨some 16, none, .call 93 [.s 15] 2, .none⟩,
 ⟨some 2, none, .mv (.s 16), .none⟩])
 (.ret none))))
def ir64 : F := { n := 17, res := [.tmp 2], body := bd64 }
@[go_sem] theorem n64 : ir64.n = 17 := rfl
@[go_sem] theorem r64 : ir64.res = [.tmp 2] := rfl
@[go_sem] theorem b64 : ir64.body = bd64 := rfl
def lb75_0 : C :=
 (.seq (.reg [⟨some 46, none, .bin .lss (.s 45) (.s 44), .none⟩])
 (.seq (.cond (.s 46)
 .skip
 (.exit 0 (some [7, 9, 10])))
 (.seq (.block 1 (.seq (.reg [⟨some 47, none, .is (.s 43) (.s 45) 1, .none⟩,
 ⟨some 48, none, .ld (.s 47) 1 false, .none⟩,
 ⟨some 12, none, .mv (.s 48), .none⟩])
 (.seq (.reg [⟨some 50, none, .mv (.s 12), .none⟩,
 ⟨some 51, none, .call 110 [.s 50] 2, .none⟩,
 ⟨some 49, none, .mv (.s 51), .none⟩,
 ⟨some 52, none, .ext (.s 49) 0, .none⟩,
 ⟨some 53, none, .ext (.s 49) 1, .none⟩,
 ⟨some 13, none, .alloc 72 [.int .i64 0, .int .i64 0, .int .i64 0], .none⟩,
 ⟨none, none, .st (.s 13) (.s 52) 3, .none⟩,
 ⟨some 14, none, .mv (.s 53), .none⟩])
 (.seq (.reg [⟨some 54, none, .mv (.s 10), .none⟩,
 ⟨some 55, none, .mv (.s 14), .none⟩,
 ⟨some 56, none, .call 111 [.s 54, .s 55] 2, .none⟩,
 ⟨some 10, none, .mv (.s 56), .none⟩])
 (.reg [⟨some 57, none, .mv (.s 9), .none⟩,
 ⟨some 58, none, .ld (.s 13) 3 true, .none⟩,
 ⟨some 59, none, .bsl 72 3 1 [.int .i64 0, .int .i64 0, .int .i64 0] [(0, (3, .s 58))], .none⟩,
 ⟨some 60, none, .app 72 3 24 (.s 57) (.s 59), .none⟩,
 ⟨some 9, none, .mv (.s 60), .none⟩])))))
 (.reg [⟨some 61, none, .bin .add (.s 45) (.c (.d (.int .i64 1))), .none⟩,
 ⟨some 45, none, .mv (.s 61), .none⟩]))))
def lp75_0 : C := lb75_0
theorem u75_0 (c : Ev.Callee) (l : Ev.Looper) (s : St) : evC c l lp75_0 s = evC c l lb75_0 s := rfl
abbrev st75_0 (m : Nat) (s7 s9 s10 s43 s44 s45 : AV) (h : Heap) : St := ⟨m, [.unk, .unk, .unk, .unk, .unk, .unk, .unk, s7, .unk, s9, s10, .unk, .unk, .unk, .unk, .unk, .unk, .unk, .unk, .unk, .unk, .unk, .unk, .unk, .unk, .unk, .unk, .unk, .unk, .unk, .unk, .unk, .unk, .unk, .unk, .unk, .unk, .unk, .unk, .unk, .unk, .unk, .unk, s43, s44, s45, .unk, .unk, .unk, .unk, .unk, .unk, .unk, .unk, .unk, .unk, .unk, .unk, .unk, .unk, .unk, .unk, .unk, .unk, .unk, .unk, .unk, .unk, .unk, .unk, .unk], h⟩
@[go_sem] theorem ks75_0 (v0 v1 v2 v3 v4 v5 v6 v7 v8 v9 v10 v11 v12 v13 v14 v15 v16 v17 v18 v19 v20 v21 v22 v23 v24 v25 v26 v27 v28 v29 v30 v31 v32 v33 v34 v35 v36 v37 v38 v39 v40 v41 v42 v43 v44 v45 v46 v47 v48 v49 v50 v51 v52 v53 v54 v55 v56 v57 v58 v59 v60 v61 v62 v63 v64 v65 v66 v67 v68 v69 v70 : AV) : keepS [7, 9, 10, 43, 44, 45] [v0, v1, v2, v3, v4, v5, v6, v7, v8, v9, v10, v11, v12, v13, v14, v15, v16, v17, v18, v19, v20, v21, v22, v23, v24, v25, v26, v27, v28, v29, v30, v31, v32, v33, v34, v35, v36, v37, v38, v39, v40, v41, v42, v43, v44, v45, v46, v47, v48, v49, v50, v51, v52, v53, v54, v55, v56, v57, v58, v59, v60, v61, v62, v63, v64, v65, v66, v67, v68, v69, v70] 0 = [.unk, .unk, .unk, .unk, .unk, .unk, .unk, v7, .unk, v9, v10, .unk, .unk, .unk, .unk, .unk, .unk, .unk, .unk, .unk, .unk, .unk, .unk, .unk, .unk, .unk, .unk, .unk, .unk, .unk, .unk, .unk, .unk, .unk, .unk, .unk, .unk, .unk, .unk, .unk, .unk, .unk, .unk, v43, v44, v45, .unk, .unk, .unk, .unk, .unk, .unk, .unk, .unk, .unk, .unk, .unk, .unk, .unk, .unk, .unk, .unk, .unk, .unk, .unk, .unk, .unk, .unk, .unk, .unk, .unk] := rfl
@[go_sem] theorem ks75_1 (v0 v1 v2 v3 v4 v5 v6 v7 v8 v9 v10 v11 v12 v13 v14 v15 v16 v17 v18 v19 v20 v21 v22 v23 v24 v25 v26 v27 v28 v29 v30 v31 v32 v33 v34 v35 v36 v37 v38 v39 v40 v41 v42 v43 v44 v45 v46 v47 v48 v49 v50 v51 v52 v53 v54 v55 v56 v57 v58 v59 v60 v61 v62 v63 v64 v65 v66 v67 v68 v69 v70 : AV) : keepS [7, 9, 10] [v0, v1, v2, v3, v4, v5, v6, v7, v8, v9, v10, v11, v12, v13, v14, v15, v16, v17, v18, v19, v20, v21, v22, v23, v24, v25, v26, v27, v28, v29, v30, v31, v32, v33, v34, v35, v36, v37, v38, v39, v40, v41, v42, v43, v44, v45, v46, v47, v48, v49, v50, v51, v52, v53, v54, v55, v56, v57, v58, v59, v60, v61, v62, v63, v64, v65, v66, v67, v68, v69, v70] 0 = [.unk, .unk, .unk, .unk, .unk, .unk, .unk, v7, .unk, v9, v10, .unk, .unk, .unk, .unk, .unk, .unk, .unk, .unk, .unk, .unk, .unk, .unk, .unk, .unk, .unk, .unk, .unk, .unk, .unk, .unk, .unk, .unk, .unk, .unk, .unk, .unk, .unk, .unk, .unk, .unk, .unk, .unk, .unk, .unk, .unk, .unk, .unk, .unk, .unk, .unk, .unk, .unk, .unk, .unk, .unk, .unk, .unk, .unk, .unk, .unk, .unk, .unk, .unk, .unk, .unk, .unk, .unk, .unk, .unk, .unk] := rfl
/-- spence/spec.Parse -/
def bd75 : C :=
 (.seq (.reg [⟨some 2, none, .mv (.c (.d .nils)), .one 3 true⟩,
 ⟨some 3, none, .mv (.c (.d (.int .i64 0))), .none⟩])
 (.seq (.reg [⟨some 16, none, .mv (.s 0), .none⟩,
 ⟨some 17, none, .call 76 [.s 16] 2, .none⟩,
 ⟨some 18, none, .call 106 [.s 17, .c (.d (.int .u8 61))] 2, .none⟩,
 ⟨some 15, none, .mv (.s 18), .none⟩,
 ⟨some 19, none, .ext (.s 15) 0, .none⟩,
 ⟨some 20, none, .ext (.s 15) 1, .none⟩,
 ⟨some 21, none, .ext (.s 15) 2, .none⟩,
 ⟨some 4, none, .mv (.s 19), .none⟩,
 ⟨some 5, none, .mv (.s 20), .none⟩,
 ⟨some 6, none, .mv (.s 21), .none⟩])
 (.seq (.reg [⟨some 23, none, .mv (.s 5), .none⟩,
 ⟨some 24, none, .call 109 [.s 23] 2, .none⟩,
 ⟨some 22, none, .mv (.s 24), .none⟩,
 ⟨some 25, none, .ext (.s 22) 0, .none⟩,
 ⟨some 26, none, .ext (.s 22) 1, .none⟩,
 ⟨some 7, none, .mv (.s 25), .none⟩,
 ⟨some 8, none, .mv (.s 26), .none⟩])
 (.seq (.seq (.reg [⟨some 27, none, .mv (.s 6), .none⟩,
 ⟨some 28, none, .un .not (.s 27), .none⟩,
 ⟨some 29, none, .mv (.s 28), .none⟩,
 ⟨some 30, some (29, false), .mv (.s 4), .none⟩,
 ⟨some 31, some (29, false), .call 107 [.s 30, .c (.d (.str [98, 121, 116, 101, 115]))] 2, .none⟩,
 ⟨some 32, some (29, false), .un .not (.s 31), .none⟩,
 ⟨some 33, none, .pick (.s 29) (.c (.d (.bool true))) (.s 32), .none⟩,
 ⟨some 34, none, .mv (.s 33), .none⟩,
 ⟨some 35, some (34, false), .mv (.s 8), .none⟩,
 ⟨some 36, some (34, false), .un .not (.s 35), .none⟩,
 ⟨some 37, none, .pick (.s 34) (.c (.d (.bool true))) (.s 36), .none⟩,
 ⟨some 38, none, .mv (.s 37), .none⟩,
 ⟨some 39, some (38, false), .mv (.s 7), .none⟩,
 ⟨some 40, some (38, false), .len (.s 39), .none⟩,
 ⟨some 41, some (38, false), .bin .eql (.s 40) (.c (.d (.int .i64 0))), .none⟩,
 ⟨some 42, none, .pick (.s 38) (.c (.d (.bool true))) (.s 41), .none⟩])
 (.cond (.s 42)
 (.seq (.reg [⟨some 2, none, .mv (.c (.d .nils)), .one 3 true⟩,
 ⟨some 3, none, .mv (.c (.d (.int .i64 3))), .none⟩])
 (.ret none))
 .skip))
 (.seq (.reg [⟨some 9, none, .mv (.c (.d .nils)), .one 3 true⟩])
 (.seq (.reg [⟨some 10, none, .mv (.c (.d (.int .i64 0))), .none⟩])
 (.seq (.seq (.reg [⟨some 43, none, .mv (.s 7), .none⟩,
 ⟨some 44, none, .len (.s 43), .none⟩,
 ⟨some 45, none, .mv (.c (.d (.int .i64 0))), .none⟩])
 (.block 0 (.loop [7, 9, 10, 43, 44, 45] lp75_0)))
 (.seq (.block 2 (.seq (.reg [⟨some 63, none, .mv (.s 10), .none⟩,
 ⟨some 64, none, .bin .neq (.s 63) (.c (.d (.int .i64 0))), .none⟩,
 ⟨some 62, none, .mv (.s 64), .none⟩])
 (.cond (.s 62)
 (.seq (.reg [⟨some 65, none, .mv (.s 10), .none⟩,
 ⟨some 2, none, .mv (.c (.d .nils)), .one 3 true⟩,
 ⟨some 3, none, .mv (.s 65), .none⟩])
 (.ret none))
 (.seq (.reg [⟨some 67, none, .mv (.s 7), .none⟩,
 ⟨some 68, none, .len (.s 67), .none⟩,
 ⟨some 69, none, .bin .gtr (.s 68) (.c (.d (.int .i64 16))), .none⟩,
 ⟨some 66, none, .mv (.s 69), .none⟩])
 (.cond (.s 66)
 (.seq (.reg [⟨some 2, none, .mv (.c (.d .nils)), .one 3 true⟩,
 ⟨some 3, none, .mv (.c (.d (.int .i64 10))), .none⟩])
 (.ret none))
 .skip)))))
 (.seq (.reg [⟨some 70, none, .mv (.s 9), .none⟩,
 ⟨some 2, none, .mv (.s 70), .none⟩,
 ⟨some 3, none, .mv (.c (.d (.int .i64 0))), .none⟩])
 (.ret none))))))))))
def ir75 : F := { n := 71, res := [.tmp 2, .tmp 3], body := bd75 }
@[go_sem] theorem n75 : ir75.n = 71 := rfl
@[go_sem] theorem r75 : ir75.res = [.tmp 2, .tmp 3] := rfl
@[go_sem] theorem b75 : ir75.body = bd75 := rfl
def lb76_0 : C :=
 (.seq (.seq (.reg [⟨some 6, none, .mv (.s 3), .none⟩,
 ⟨some 7, none, .mv (.s 0), .none⟩,
 ⟨some 8, none, .lens (.s 7), .none⟩,
 ⟨some 9, none, .bin .lss (.s 6) (.s 8), .none⟩,
 ⟨some 10, none, .mv (.s 9), .none⟩,
 ⟨some 11, some (10, true), .mv (.s 0), .none⟩,
 ⟨some 12, some (10, true), .mv (.s 3), .none⟩,
 ⟨some 13, some (10, true), .sti (.s 11) (.s 12), .none⟩,
 ⟨some 14, some (10, true), .call 113 [.s 13] 2, .none⟩,
 ⟨some 15, none, .pick (.s 10) (.s 14) (.c (.d (.bool false))), .none⟩])
 (.cond (.s 15)
 .skip
 (.exit 0 (some [0, 3]))))
 (.block 1 (.reg [⟨some 16, none, .mv (.s 3), .none⟩,
 ⟨some 17, none, .bin .add (.s 16) (.c (.d (.int .i64 1))), .none⟩,
 ⟨some 3, none, .mv (.s 17), .none⟩])))
def lp76_0 : C := lb76_0
theorem u76_0 (c : Ev.Callee) (l : Ev.Looper) (s : St) : evC c l lp76_0 s = evC c l lb76_0 s := rfl
abbrev st76_0 (m : Nat) (s0 s3 : AV) (h : Heap) : St := ⟨m, [s0, .unk, .unk, s3, .unk, .unk, .unk, .unk, .unk, .unk, .unk, .unk, .unk, .unk, .unk, .unk, .unk, .unk, .unk, .unk, .unk], h⟩
@[go_sem] theorem ks76_0 (v0 v1 v2 v3 v4 v5 v6 v7 v8 v9 v10 v11 v12 v13 v14 v15 v16 v17 v18 v19 v20 : AV) : keepS [0, 3] [v0, v1, v2, v3, v4, v5, v6, v7, v8, v9, v10, v11, v12, v13, v14, v15, v16, v17, v18, v19, v20] 0 = [v0, .unk, .unk, v3, .unk, .unk, .unk, .unk, .unk, .unk, .unk, .unk, .unk, .unk, .unk, .unk, .unk, .unk, .unk, .unk, .unk] := rfl
/-- spence/text.Trim -/
def bd76 : C :=
 (.seq (.reg [⟨some 2, none, .mv (.c (.d (.str []))), .none⟩])
 (.seq (.reg [⟨some 4, none, .mv (.s 0), .none⟩,
 ⟨some 5, none, .call 112 [.s 4] 2, .none⟩,
 ⟨some 0, none, .mv (.s 5), .none⟩])
 (.seq (.reg [⟨some 3, none, .mv (.c (.d (.int .i64 0))), .none⟩])
 (.seq (.block 0 (.loop [0, 3] lp76_0))
 (.seq (.reg [⟨some 18, none, .mv (.s 0), .none⟩,
 ⟨some 19, none, .mv (.s 3), .none⟩,
 ⟨some 20, none, .ssl (.s 18) (some (.s 19)) none, .none⟩,
 ⟨some 2, none, .mv (.s 20), .none⟩])
 (.ret none))))))
def ir76 : F := { n := 21, res := [.tmp 2], body := bd76 }
@[go_sem] theorem n76 : ir76.n = 21 := rfl
@[go_sem] theorem r76 : ir76.res = [.tmp 2] := rfl
@[go_sem] theorem b76 : ir76.body = bd76 := rfl
/-- spence/etag.Parse -/
def bd77 : C :=
 (.seq (.reg [⟨some 2, none, .alloc 135 [.bool false, .str []], .none⟩,
 ⟨some 3, none, .mv (.c (.d (.int .i64 0))), .none⟩])
 (.seq (.reg [⟨some 7, none, .mv (.s 0), .none⟩,
 ⟨some 8, none, .call 114 [.s 7, .c (.d (.str [87, 47]))] 2, .none⟩,
 ⟨some 6, none, .mv (.s 8), .none⟩,
 ⟨some 9, none, .ext (.s 6) 0, .none⟩,
 ⟨some 10, none, .ext (.s 6) 1, .none⟩,
 ⟨some 0, none, .mv (.s 9), .none⟩,
 ⟨some 4, none, .mv (.s 10), .none⟩])
 (.seq (.seq (.reg [⟨some 11, none, .mv (.s 0), .none⟩,
 ⟨some 12, none, .lens (.s 11), .none⟩,
 ⟨some 13, none, .bin .lss (.s 12) (.c (.d (.int .i64 2))), .none⟩,
 ⟨some 14, none, .mv (.s 13), .none⟩,
 ⟨some 15, some (14, false), .mv (.s 0), .none⟩,
 ⟨some 16, some (14, false), .sti (.s 15) (.c (.d (.int .i64 0))), .none⟩,
 ⟨some 17, some (14, false), .bin .neq (.s 16) (.c (.d (.int .u8 34))), .none⟩,
 ⟨some 18, none, .pick (.s 14) (.c (.d (.bool true))) (.s 17), .none⟩,
 ⟨some 19, none, .mv (.s 18), .none⟩,
 ⟨some 20, some (19, false), .mv (.s 0), .none⟩,
 ⟨some 21, some (19, false), .mv (.s 0), .none⟩,
 ⟨some 22, some (19, false), .lens (.s 21), .none⟩,
 ⟨some 23, some (19, false), .bin .sub (.s 22) (.c (.d (.int .i64 1))), .none⟩,
 ⟨some 24, some (19, false), .sti (.s 20) (.s 23), .none⟩,
 ⟨some 25, some (19, false), .bin .neq (.s 24) (.c (.d (.int .u8 34))), .none⟩,
 ⟨some 26, none, .pick (.s 19) (.c (.d (.bool true))) (.s 25), .none⟩])
 (.cond (.s 26)
 (.seq (.reg [⟨some 27, none, .build [.bool false, .str []] [], .none⟩,
 ⟨none, none, .st (.s 2) (.s 27) 2, .none⟩,
 ⟨some 3, none, .mv (.c (.d (.int .i64 3))), .none⟩])
 (.ret none))
 .skip))
 (.seq (.reg [⟨some 28, none, .mv (.s 4), .none⟩,
 ⟨some 29, none, .mv (.s 0), .none⟩,
 ⟨some 30, none, .mv (.s 0), .none⟩,
 ⟨some 31, none, .lens (.s 30), .none⟩,
 ⟨some 32, none, .bin .sub (.s 31) (.c (.d (.int .i64 1))), .none⟩,
 ⟨some 33, none, .ssl (.s 29) (some (.c (.d (.int .i64 1)))) (some (.s 32)), .none⟩,
 ⟨some 34, none, .build [.bool false, .str []] [(0, (1, .s 28)), (1, (1, .s 33))], .none⟩,
 ⟨some 5, none, .alloc 135 [.bool false, .str []], .none⟩,
 ⟨none, none, .st (.s 5) (.s 34) 2, .none⟩])
 (.seq (.block 0 (.seq (.reg [⟨some 36, none, .fa (.s 5) 1, .none⟩,
 ⟨some 37, none, .ld (.s 36) 1 false, .none⟩,
 ⟨some 38, none, .call 115 [.s 37] 2, .none⟩,
 ⟨some 39, none, .un .not (.s 38), .none⟩,
 ⟨some 35, none, .mv (.s 39), .none⟩])
 (.cond (.s 35)
 (.seq (.reg [⟨some 40, none, .build [.bool false, .str []] [], .none⟩,
 ⟨none, none, .st (.s 2) (.s 40) 2, .none⟩,
 ⟨some 3, none, .mv (.c (.d (.int .i64 3))), .none⟩])
 (.ret none))
 (.seq (.reg [⟨some 42, none, .ld (.s 5) 2 true, .none⟩,
 ⟨some 43, none, .call 116 [.s 42] 2, .none⟩,
 ⟨some 44, none, .un .not (.s 43), .none⟩,
 ⟨some 41, none, .mv (.s 44), .none⟩])
 (.cond (.s 41)
 (.seq (.reg [⟨some 45, none, .build [.bool false, .str []] [], .none⟩,
 ⟨none, none, .st (.s 2) (.s 45) 2, .none⟩,
 ⟨some 3, none, .mv (.c (.d (.int .i64 10))), .none⟩])
 (.ret none))
 .skip)))))
 (.seq (.reg [⟨some 46, none, .ld (.s 5) 2 true, .none⟩,
 ⟨none, none, .st (.s 2) (.s 46) 2, .none⟩,
 ⟨some 3, none, .mv (.c (.d (.int .i64 0))), .none⟩])
 (.ret none)))))))
def ir77 : F := { n := 47, res := [.cell 2 2 true, .tmp 3], body := bd77 }
@[go_sem] theorem n77 : ir77.n = 47 := rfl
@[go_sem] theorem r77 : ir77.res = [.cell 2 2 true, .tmp 3] := rfl
@[go_sem] theorem b77 : ir77.body = bd77 := rfl
/-- spence/etag.Strong -/
def bd78 : C :=
 (.seq (.reg [⟨some 2, none, .box 135 (.s 0), .none⟩,
 ⟨some 3, none, .box 135 (.s 1), .none⟩,
 ⟨some 4, none, .mv (.c (.d (.bool false))), .none⟩])
 (.seq (.reg [⟨some 5, none, .fa (.s 2) 0, .none⟩,
 ⟨some 6, none, .ld (.s 5) 1 false, .none⟩,
 ⟨some 7, none, .un .not (.s 6), .none⟩,
 ⟨some 8, none, .mv (.s 7), .none⟩,
 ⟨some 9, some (8, true), .fa (.s 3) 0, .none⟩,
 ⟨some 10, some (8, true), .ld (.s 9) 1 false, .none⟩,
 ⟨some 11, some (8, true), .un .not (.s 10), .none⟩,
 ⟨some 12, none, .pick (.s 8) (.s 11) (.c (.d (.bool false))), .none⟩,
 ⟨some 13, none, .mv (.s 12), .none⟩,
 ⟨some 14, some (13, true), .ld (.s 2) 2 true, .none⟩,
 ⟨some 15, some (13, true), .ld (.s 3) 2 true, .none⟩,
 ⟨some 16, some (13, true), .call 117 [.s 14, .s 15] 2, .none⟩,
 ⟨some 17, none, .pick (.s 13) (.s 16) (.c (.d (.bool false))), .none⟩,
 ⟨some 4, none, .mv (.s 17), .none⟩])
 (.ret none)))
def ir78 : F := { n := 18, res := [.tmp 4], body := bd78 }
@[go_sem] theorem n78 : ir78.n = 18 := rfl
@[go_sem] theorem r78 : ir78.res = [.tmp 4] := rfl
@[go_sem] theorem b78 : ir78.body = bd78 := rfl
/-- spence/nums.Fits -/
def bd79 : C :=
 (.seq (.reg [⟨some 6, none, .mv (.c (.d (.bool false))), .none⟩])
 (.seq (.reg [⟨some 7, none, .mv (.s 0), .none⟩,
 ⟨some 8, none, .mv (.s 1), .none⟩,
 ⟨some 9, none, .bin .geq (.s 7) (.s 8), .none⟩,
 ⟨some 10, none, .mv (.s 9), .none⟩,
 ⟨some 11, some (10, true), .mv (.s 0), .none⟩,
 ⟨some 12, some (10, true), .mv (.s 2), .none⟩,
 ⟨some 13, some (10, true), .bin .leq (.s 11) (.s 12), .none⟩,
 ⟨some 14, none, .pick (.s 10) (.s 13) (.c (.d (.bool false))), .none⟩,
 ⟨some 6, none, .mv (.s 14), .none⟩])
 (.ret none)))
def ir79 : F := { n := 15, res := [.tmp 6], body := bd79 }
@[go_sem] theorem n79 : ir79.n = 15 := rfl
@[go_sem] theorem r79 : ir79.res = [.tmp 6] := rfl
@[go_sem] theorem b79 : ir79.body = bd79 := rfl
/-- spence/spec.Right -/
def bd80 : C :=
 (.seq (.reg [⟨some 1, none, .box 72 (.s 0), .none⟩,
 ⟨some 2, none, .mv (.c (.d (.bool false))), .none⟩])
 (.seq (.seq (.reg [⟨some 3, none, .fa (.s 1) 0, .none⟩,
 ⟨some 4, none, .ld (.s 3) 1 false, .none⟩])
 (.block 0 (.seq (.block 3 (.block 2 (.seq (.block 1 (.seq (.seq (.seq (.reg [⟨some 6, none, .bin .eql (.s 4) (.c (.d (.int .i64 2))), .none⟩,
 ⟨some 5, none, .mv (.s 6), .none⟩])
 (.cond (.s 5)
 (.exit 1 none)
 .skip))
 (.seq (.seq (.reg [⟨some 8, none, .bin .eql (.s 4) (.c (.d (.int .i64 1))), .none⟩,
 ⟨some 7, none, .mv (.s 8), .none⟩])
 (.cond (.s 7)
 (.exit 2 none)
 .skip))
 (.seq (.reg [⟨some 10, none, .bin .eql (.s 4) (.c (.d (.int .i64 3))), .none⟩,
 ⟨some 9, none, .mv (.s 10), .none⟩])
 (.cond (.s 9)
 (.exit 3 none)
 .skip))))
 (.exit 0 none)))
 (.seq (.seq (.reg [⟨some 11, none, .fa (.s 1) 1, .none⟩,
 ⟨some 12, none, .ld (.s 11) 1 false, .none⟩,
 ⟨some 13, none, .bin .geq (.s 12) (.c (.d (.int .i64 0))), .none⟩,
 ⟨some 14, none, .mv (.s 13), .none⟩,
 ⟨some 15, some (14, true), .fa (.s 1) 2, .none⟩,
 ⟨some 16, some (14, true), .ld (.s 15) 1 false, .none⟩,
 ⟨some 17, some (14, true), .fa (.s 1) 1, .none⟩,
 ⟨some 18, some (14, true), .ld (.s 17) 1 false, .none⟩,
 ⟨some 19, some (14, true), .bin .geq (.s 16) (.s 18), .none⟩,
 ⟨some 20, none, .pick (.s 14) (.s 19) (.c (.d (.bool false))), .none⟩,
 ⟨some 21, none, .mv (.s 20), .none⟩,
 ⟨some 22, some (21, true), .fa (.s 1) 2, .none⟩,
 ⟨some 23, some (21, true), .ld (.s 22) 1 false, .none⟩,
 ⟨some 24, some (21, true), .bin .leq (.s 23) (.c (.d (.int .i64 4611686018427387903))), .none⟩,
 ⟨some 25, none, .pick (.s 21) (.s 24) (.c (.d (.bool false))), .none⟩,
 ⟨some 2, none, .mv (.s 25), .none⟩])
 (.ret none))
 (.exit 0 none)))))
 (.seq (.seq (.reg [⟨some 26, none, .fa (.s 1) 1, .none⟩,
 ⟨some 27, none, .ld (.s 26) 1 false, .none⟩,
 ⟨some 28, none, .call 79 [.s 27, .c (.d (.int .i64 0)), .c (.d (.int .i64 4611686018427387903))] 2, .none⟩,
 ⟨some 29, none, .mv (.s 28), .none⟩,
 ⟨some 30, some (29, true), .fa (.s 1) 2, .none⟩,
 ⟨some 31, some (29, true), .ld (.s 30) 1 false, .none⟩,
 ⟨some 32, some (29, true), .bin .eql (.s 31) (.c (.d (.int .i64 0))), .none⟩,
 ⟨some 33, none, .pick (.s 29) (.s 32) (.c (.d (.bool false))), .none⟩,
 ⟨some 2, none, .mv (.s 33), .none⟩])
 (.ret none))
 (.exit 0 none)))))
 (.seq (.reg [⟨some 2, none, .mv (.c (.d (.bool false))), .none⟩])
 (.ret none))))
def ir80 : F := { n := 34, res := [.tmp 2], body := bd80 }
@[go_sem] theorem n80 : ir80.n = 34 := rfl
@[go_sem] theorem r80 : ir80.res = [.tmp 2] := rfl
@[go_sem] theorem b80 : ir80.body = bd80 := rfl
/-- spence/span.one -/
def bd81 : C :=
 (.seq (.reg [⟨some 2, none, .box 72 (.s 0), .none⟩,
 ⟨some 4, none, .alloc 52 [.int .i64 0, .int .i64 0], .none⟩])
 (.seq (.seq (.reg [⟨some 5, none, .fa (.s 2) 0, .none⟩,
 ⟨some 6, none, .ld (.s 5) 1 false, .none⟩])
 (.block 0 (.seq (.reg [⟨some 8, none, .bin .eql (.s 6) (.c (.d (.int .i64 1))), .none⟩,
 ⟨some 7, none, .mv (.s 8), .none⟩])
 (.cond (.s 7)
 (.seq (.reg [⟨some 9, none, .fa (.s 2) 1, .none⟩,
 ⟨some 10, none, .ld (.s 9) 1 false, .none⟩,
 ⟨some 11, none, .mv (.s 1), .none⟩,
 ⟨some 12, none, .build [.int .i64 0, .int .i64 0] [(0, (1, .s 10)), (1, (1, .s 11))], .none⟩,
 ⟨none, none, .st (.s 4) (.s 12) 2, .none⟩])
 (.ret none))
 (.seq (.reg [⟨some 14, none, .bin .eql (.s 6) (.c (.d (.int .i64 2))), .none⟩,
 ⟨some 13, none, .mv (.s 14), .none⟩])
 (.cond (.s 13)
 (.seq (.reg [⟨some 15, none, .fa (.s 2) 1, .none⟩,
 ⟨some 16, none, .ld (.s 15) 1 false, .none⟩,
 ⟨some 17, none, .fa (.s 2) 2, .none⟩,
 ⟨some 18, none, .ld (.s 17) 1 false, .none⟩,
 ⟨some 19, none, .mv (.s 1), .none⟩,
 ⟨some 20, none, .bin .sub (.s 19) (.c (.d (.int .i64 1))), .none⟩,
 ⟨some 21, none, .mn (.s 18) (.s 20), .none⟩,
 ⟨some 22, none, .bin .add (.s 21) (.c (.d (.int .i64 1))), .none⟩,
 ⟨some 23, none, .build [.int .i64 0, .int .i64 0] [(0, (1, .s 16)), (1, (1, .s 22))], .none⟩,
 ⟨none, none, .st (.s 4) (.s 23) 2, .none⟩])
 (.ret none))
 .skip))))))
 (.seq (.reg [⟨some 24, none, .mv (.s 1), .none⟩,
 ⟨some 25, none, .fa (.s 2) 1, .none⟩,
 ⟨some 26, none, .ld (.s 25) 1 false, .none⟩,
 ⟨some 27, none, .mv (.s 1), .none⟩,
 ⟨some 28, none, .mn (.s 26) (.s 27), .none⟩,
 ⟨some 29, none, .bin .sub (.s 24) (.s 28), .none⟩,
 ⟨some 30, none, .mv (.s 1), .none⟩,
 ⟨some 31, none, .build [.int .i64 0, .int .i64 0] [(0, (1, .s 29)), (1, (1, .s 30))], .none⟩,
 ⟨none, none, .st (.s 4) (.s 31) 2, .none⟩])
 (.ret none))))
def ir81 : F := { n := 32, res := [.cell 4 2 true], body := bd81 }
@[go_sem] theorem n81 : ir81.n = 32 := rfl
@[go_sem] theorem r81 : ir81.res = [.cell 4 2 true] := rfl
@[go_sem] theorem b81 : ir81.body = bd81 := rfl
/-- spence/ifrange.clash$1 -/
def bd82 : C :=
 (.seq (.reg [⟨some 2, none, .box 52 (.s 0), .none⟩,
 ⟨some 3, none, .mv (.c (.d (.bool false))), .none⟩])
 (.seq (.reg [⟨some 7, none, .ld (.s 1) 2 true, .none⟩,
 ⟨some 8, none, .ld (.s 2) 2 true, .none⟩,
 ⟨some 9, none, .call 83 [.s 7, .s 8] 2, .none⟩,
 ⟨some 6, none, .mv (.s 9), .none⟩,
 ⟨some 10, none, .ext (.s 6) 0, .none⟩,
 ⟨some 11, none, .ext (.s 6) 1, .none⟩,
 ⟨some 4, none, .alloc 52 [.int .i64 0, .int .i64 0], .none⟩,
 ⟨none, none, .st (.s 4) (.s 10) 2, .none⟩,
 ⟨some 5, none, .mv (.s 11), .none⟩])
 (.seq (.reg [⟨some 12, none, .mv (.s 5), .none⟩,
 ⟨some 3, none, .mv (.s 12), .none⟩])
 (.ret none))))
def ir82 : F := { n := 13, res := [.tmp 3], body := bd82 }
@[go_sem] theorem n82 : ir82.n = 13 := rfl
@[go_sem] theorem r82 : ir82.res = [.tmp 3] := rfl
@[go_sem] theorem b82 : ir82.body = bd82 := rfl
/-- spence/span.Meet -/
def bd83 : C :=
 (.seq (.reg [⟨some 2, none, .box 52 (.s 0), .none⟩,
 ⟨some 3, none, .box 52 (.s 1), .none⟩,
 ⟨some 4, none, .alloc 52 [.int .i64 0, .int .i64 0], .none⟩,
 ⟨some 5, none, .mv (.c (.d (.bool false))), .none⟩])
 (.seq (.reg [⟨some 7, none, .fa (.s 2) 0, .none⟩,
 ⟨some 8, none, .ld (.s 7) 1 false, .none⟩,
 ⟨some 9, none, .fa (.s 3) 0, .none⟩,
 ⟨some 10, none, .ld (.s 9) 1 false, .none⟩,
 ⟨some 11, none, .mx (.s 8) (.s 10), .none⟩,
 ⟨some 12, none, .fa (.s 2) 1, .none⟩,
 ⟨some 13, none, .ld (.s 12) 1 false, .none⟩,
 ⟨some 14, none, .fa (.s 3) 1, .none⟩,
 ⟨some 15, none, .ld (.s 14) 1 false, .none⟩,
 ⟨some 16, none, .mn (.s 13) (.s 15), .none⟩,
 ⟨some 17, none, .build [.int .i64 0, .int .i64 0] [(0, (1, .s 11)), (1, (1, .s 16))], .none⟩,
 ⟨some 6, none, .alloc 52 [.int .i64 0, .int .i64 0], .none⟩,
 ⟨none, none, .st (.s 6) (.s 17) 2, .none⟩])
 (.seq (.seq (.reg [⟨some 18, none, .ld (.s 2) 2 true, .none⟩,
 ⟨some 19, none, .call 39 [.s 18] 2, .none⟩,
 ⟨some 20, none, .un .not (.s 19), .none⟩,
 ⟨some 21, none, .mv (.s 20), .none⟩,
 ⟨some 22, some (21, false), .ld (.s 3) 2 true, .none⟩,
 ⟨some 23, some (21, false), .call 39 [.s 22] 2, .none⟩,
 ⟨some 24, some (21, false), .un .not (.s 23), .none⟩,
 ⟨some 25, none, .pick (.s 21) (.c (.d (.bool true))) (.s 24), .none⟩,
 ⟨some 26, none, .mv (.s 25), .none⟩,
 ⟨some 27, some (26, false), .ld (.s 6) 2 true, .none⟩,
 ⟨some 28, some (26, false), .call 39 [.s 27] 2, .none⟩,
 ⟨some 29, some (26, false), .un .not (.s 28), .none⟩,
 ⟨some 30, none, .pick (.s 26) (.c (.d (.bool true))) (.s 29), .none⟩])
 (.cond (.s 30)
 (.seq (.reg [⟨some 31, none, .build [.int .i64 0, .int .i64 0] [], .none⟩,
 ⟨none, none, .st (.s 4) (.s 31) 2, .none⟩,
 ⟨some 5, none, .mv (.c (.d (.bool false))), .none⟩])
 (.ret none))
 .skip))
 (.seq (.reg [⟨some 32, none, .ld (.s 6) 2 true, .none⟩,
 ⟨none, none, .st (.s 4) (.s 32) 2, .none⟩,
 ⟨some 5, none, .mv (.c (.d (.bool true))), .none⟩])
 (.ret none)))))
def ir83 : F := { n := 33, res := [.cell 4 2 true, .tmp 5], body := bd83 }
@[go_sem] theorem n83 : ir83.n = 33 := rfl
@[go_sem] theorem r83 : ir83.res = [.cell 4 2 true, .tmp 5] := rfl
@[go_sem] theorem b83 : ir83.body = bd83 := rfl
/-- slices.ContainsFunc[[]spence/api.Span,spence/api.Span] -/
def bd84 : C :=
 (.seq (.reg [⟨some 4, none, .mv (.c (.d (.bool false))), .none⟩])
 (.seq (.reg [⟨some 5, none, .mv (.s 0), .none⟩,
 ⟨some 6, none, .mv (.s 1), .none⟩,
 ⟨some 7, none, .call 118 [.s 5, .s 6] 0, .none⟩,
 ⟨some 8, none, .bin .geq (.s 7) (.c (.d (.int .i64 0))), .none⟩,
 ⟨some 4, none, .mv (.s 8), .none⟩])
 (.ret none)))
def ir84 : F := { n := 9, res := [.tmp 4], body := bd84 }
@[go_sem] theorem n84 : ir84.n = 9 := rfl
@[go_sem] theorem r84 : ir84.res = [.tmp 4] := rfl
@[go_sem] theorem b84 : ir84.body = bd84 := rfl
def lb85_0 : C :=
 (.seq (.seq (.reg [⟨some 16, none, .mv (.s 6), .none⟩,
 ⟨some 17, none, .mv (.s 0), .none⟩,
 ⟨some 18, none, .len (.s 17), .none⟩,
 ⟨some 19, none, .bin .lss (.s 16) (.s 18), .none⟩])
 (.cond (.s 19)
 .skip
 (.exit 0 (some [0, 5]))))
 (.seq (.block 1 (.seq (.reg [⟨some 22, none, .mv (.s 0), .none⟩,
 ⟨some 23, none, .mv (.s 6), .none⟩,
 ⟨some 24, none, .is (.s 22) (.s 23) 2, .none⟩,
 ⟨some 25, none, .ld (.s 24) 2 true, .none⟩,
 ⟨some 7, none, .alloc 52 [.int .i64 0, .int .i64 0], .none⟩,
 ⟨none, none, .st (.s 7) (.s 25) 2, .none⟩])
 (.seq (.reg [⟨some 26, none, .mv (.s 1), .none⟩,
 ⟨some 27, none, .ld (.s 7) 2 true, .none⟩,
 ⟨some 28, none, .callv (.s 26) [.s 27] 0, .none⟩,
 ⟨some 29, none, .un .not (.s 28), .none⟩])
 (.cond (.s 29)
 (.seq (.reg [⟨some 30, none, .mv (.s 0), .none⟩,
 ⟨some 31, none, .mv (.s 5), .none⟩,
 ⟨some 32, none, .ld (.s 7) 2 true, .none⟩,
 ⟨some 33, none, .is (.s 30) (.s 31) 2, .none⟩,
 ⟨none, none, .st (.s 33) (.s 32) 2, .none⟩])
 (.reg [⟨some 34, none, .mv (.s 5), .none⟩,
 ⟨some 35, none, .bin .add (.s 34) (.c (.d (.int .i64 1))), .none⟩,
 ⟨some 5, none, .mv (.s 35), .none⟩]))
 .skip))))
 (.reg [⟨some 20, none, .mv (.s 6), .none⟩,
 ⟨some 21, none, .bin .add (.s 20) (.c (.d (.int .i64 1))), .none⟩,
 ⟨some 6, none, .mv (.s 21), .none⟩])))
def lp85_0 : C := lb85_0
theorem u85_0 (c : Ev.Callee) (l : Ev.Looper) (s : St) : evC c l lp85_0 s = evC c l lb85_0 s := rfl
abbrev st85_0 (m : Nat) (s0 s1 s5 s6 : AV) (h : Heap) : St := ⟨m, [s0, s1, .unk, .unk, .unk, s5, s6, .unk, .unk, .unk, .unk, .unk, .unk, .unk, .unk, .unk, .unk, .unk, .unk, .unk, .unk, .unk, .unk, .unk, .unk, .unk, .unk, .unk, .unk, .unk, .unk, .unk, .unk, .unk, .unk, .unk, .unk, .unk, .unk, .unk, .unk, .unk], h⟩
@[go_sem] theorem ks85_0 (v0 v1 v2 v3 v4 v5 v6 v7 v8 v9 v10 v11 v12 v13 v14 v15 v16 v17 v18 v19 v20 v21 v22 v23 v24 v25 v26 v27 v28 v29 v30 v31 v32 v33 v34 v35 v36 v37 v38 v39 v40 v41 : AV) : keepS [0, 1, 5, 6] [v0, v1, v2, v3, v4, v5, v6, v7, v8, v9, v10, v11, v12, v13, v14, v15, v16, v17, v18, v19, v20, v21, v22, v23, v24, v25, v26, v27, v28, v29, v30, v31, v32, v33, v34, v35, v36, v37, v38, v39, v40, v41] 0 = [v0, v1, .unk, .unk, .unk, v5, v6, .unk, .unk, .unk, .unk, .unk, .unk, .unk, .unk, .unk, .unk, .unk, .unk, .unk, .unk, .unk, .unk, .unk, .unk, .unk, .unk, .unk, .unk, .unk, .unk, .unk, .unk, .unk, .unk, .unk, .unk, .unk, .unk, .unk, .unk, .unk] := rfl
@[go_sem] theorem ks85_1 (v0 v1 v2 v3 v4 v5 v6 v7 v8 v9 v10 v11 v12 v13 v14 v15 v16 v17 v18 v19 v20 v21 v22 v23 v24 v25 v26 v27 v28 v29 v30 v31 v32 v33 v34 v35 v36 v37 v38 v39 v40 v41 : AV) : keepS [0, 5] [v0, v1, v2, v3, v4, v5, v6, v7, v8, v9, v10, v11, v12, v13, v14, v15, v16, v17, v18, v19, v20, v21, v22, v23, v24, v25, v26, v27, v28, v29, v30, v31, v32, v33, v34, v35, v36, v37, v38, v39, v40, v41] 0 = [v0, .unk, .unk, .unk, .unk, v5, .unk, .unk, .unk, .unk, .unk, .unk, .unk, .unk, .unk, .unk, .unk, .unk, .unk, .unk, .unk, .unk, .unk, .unk, .unk, .unk, .unk, .unk, .unk, .unk, .unk, .unk, .unk, .unk, .unk, .unk, .unk, .unk, .unk, .unk, .unk, .unk] := rfl
/-- slices.DeleteFunc[[]spence/api.Span,spence/api.Span] -/
def bd85 : C :=
 (.seq (.reg [⟨some 4, none, .mv (.c (.d .nils)), .one 2 false⟩])
 (.seq (.reg [⟨some 8, none, .mv (.s 0), .none⟩,
 ⟨some 9, none, .mv (.s 1), .none⟩,
 ⟨some 10, none, .call 118 [.s 8, .s 9] 1, .none⟩,
 ⟨some 5, none, .mv (.s 10), .none⟩])
 (.seq (.seq (.reg [⟨some 11, none, .mv (.s 5), .none⟩,
 ⟨some 12, none, .bin .eql (.s 11) (.c (.d (.int .i64 (-1)))), .none⟩])
 (.cond (.s 12)
 (.seq (.reg [⟨some 13, none, .mv (.s 0), .none⟩,
 ⟨some 4, none, .mv (.s 13), .none⟩])
 (.ret none))
 .skip))
 (.seq (.seq (.reg [⟨some 14, none, .mv (.s 5), .none⟩,
 ⟨some 15, none, .bin .add (.s 14) (.c (.d (.int .i64 1))), .none⟩,
 ⟨some 6, none, .mv (.s 15), .none⟩])
 (.block 0 (.loop [0, 1, 5, 6] lp85_0)))
 (.seq (.reg [⟨some 36, none, .mv (.s 0), .none⟩,
 ⟨some 37, none, .mv (.s 5), .none⟩,
 ⟨some 38, none, .sl (.s 36) (some (.s 37)) none none 2, .none⟩,
 ⟨none, none, .bcall (.clr [.int .i64 0, .int .i64 0]) [.s 38], .none⟩])
 (.seq (.reg [⟨some 39, none, .mv (.s 0), .none⟩,
 ⟨some 40, none, .mv (.s 5), .none⟩,
 ⟨some 41, none, .sl (.s 39) none (some (.s 40)) none 2, .none⟩,
 ⟨some 4, none, .mv (.s 41), .none⟩])
 (.ret none)))))))
def ir85 : F := { n := 42, res := [.tmp 4], body := bd85 }
@[go_sem] theorem n85 : ir85.n = 42 := rfl
@[go_sem] theorem r85 : ir85.res = [.tmp 4] := rfl
@[go_sem] theorem b85 : ir85.body = bd85 := rfl
/-- spence/span.Merge$1 -/
def bd87 : C :=
 (.seq (.reg [⟨some 1, none, .box 52 (.s 0), .none⟩,
 ⟨some 2, none, .mv (.c (.d (.bool false))), .none⟩])
 (.seq (.reg [⟨some 3, none, .ld (.s 1) 2 true, .none⟩,
 ⟨some 4, none, .call 39 [.s 3] 2, .none⟩,
 ⟨some 5, none, .un .not (.s 4), .none⟩,
 ⟨some 2, none, .mv (.s 5), .none⟩])
 (.ret none)))
def ir87 : F := { n := 6, res := [.tmp 2], body := bd87 }
@[go_sem] theorem n87 : ir87.n = 6 := rfl
@[go_sem] theorem r87 : ir87.res = [.tmp 2] := rfl
@[go_sem] theorem b87 : ir87.body = bd87 := rfl
/-- spence/span.Merge$2 -/
def bd89 : C :=
 (.seq (.reg [⟨some 2, none, .box 52 (.s 0), .none⟩,
 ⟨some 3, none, .box 52 (.s 1), .none⟩,
 ⟨some 4, none, .mv (.c (.d (.int .i64 0))), .none⟩])
 (.seq (.reg [⟨some 5, none, .fa (.s 2) 0, .none⟩,
 ⟨some 6, none, .ld (.s 5) 1 false, .none⟩,
 ⟨some 7, none, .fa (.s 3) 0, .none⟩,
 ⟨some 8, none, .ld (.s 7) 1 false, .none⟩,
 ⟨some 9, none, .bin .sub (.s 6) (.s 8), .none⟩,
 ⟨some 4, none, .mv (.s 9), .none⟩])
 (.ret none)))
def ir89 : F := { n := 10, res := [.tmp 4], body := bd89 }
@[go_sem] theorem n89 : ir89.n = 10 := rfl
@[go_sem] theorem r89 : ir89.res = [.tmp 4] := rfl
@[go_sem] theorem b89 : ir89.body = bd89 := rfl
/-- spence/spenceref01.Blank -/
def bd90 : C :=
 (.seq (.reg [⟨some 2, none, .mv (.c (.d (.bool false))), .none⟩])
 (.seq (.reg [⟨some 3, none, .mv (.s 0), .none⟩,
 ⟨some 4, none, .bin .eql (.s 3) (.c (.d (.int .u8 32))), .none⟩,
 ⟨some 5, none, .mv (.s 4), .none⟩,
 ⟨some 6, some (5, false), .mv (.s 0), .none⟩,
 ⟨some 7, some (5, false), .bin .eql (.s 6) (.c (.d (.int .u8 9))), .none⟩,
 ⟨some 8, none, .pick (.s 5) (.c (.d (.bool true))) (.s 7), .none⟩,
 ⟨some 2, none, .mv (.s 8), .none⟩])
 (.ret none)))
def ir90 : F := { n := 9, res := [.tmp 2], body := bd90 }
@[go_sem] theorem n90 : ir90.n = 9 := rfl
@[go_sem] theorem r90 : ir90.res = [.tmp 2] := rfl
@[go_sem] theorem b90 : ir90.body = bd90 := rfl
def lb91_2 : C :=
 (.seq (.seq (.reg [⟨some 51, none, .mv (.s 8), .none⟩,
 ⟨some 52, none, .mv (.s 6), .none⟩,
 ⟨some 53, none, .lens (.s 52), .none⟩,
 ⟨some 54, none, .bin .lss (.s 51) (.s 53), .none⟩])
 (.cond (.s 54)
 .skip
 (.exit 4 (some [7]))))
 (.seq (.block 5 (.reg [⟨some 57, none, .mv (.s 7), .none⟩,
 ⟨some 58, none, .bin .mul (.c (.d (.int .i64 10))) (.s 57), .none⟩,
 ⟨some 59, none, .mv (.s 6), .none⟩,
 ⟨some 60, none, .mv (.s 8), .none⟩,
 ⟨some 61, none, .sti (.s 59) (.s 60), .none⟩,
 ⟨some 62, none, .cvi .i64 (.s 61), .none⟩,
 ⟨some 63, none, .bin .add (.s 58) (.s 62), .none⟩,
 ⟨some 64, none, .bin .sub (.s 63) (.c (.d (.int .i64 48))), .none⟩,
 ⟨some 7, none, .mv (.s 64), .none⟩]))
 (.reg [⟨some 55, none, .mv (.s 8), .none⟩,
 ⟨some 56, none, .bin .add (.s 55) (.c (.d (.int .i64 1))), .none⟩,
 ⟨some 8, none, .mv (.s 56), .none⟩])))
def lp91_2 : C := lb91_2
theorem u91_2 (c : Ev.Callee) (l : Ev.Looper) (s : St) : evC c l lp91_2 s = evC c l lb91_2 s := rfl
abbrev st91_2 (m : Nat) (s6 s7 s8 : AV) (h : Heap) : St := ⟨m, [.unk, .unk, .unk, .unk, .unk, .unk, s6, s7, s8, .unk, .unk, .unk, .unk, .unk, .unk, .unk, .unk, .unk, .unk, .unk, .unk, .unk, .unk, .unk, .unk, .unk, .unk, .unk, .unk, .unk, .unk, .unk, .unk, .unk, .unk, .unk, .unk, .unk, .unk, .unk, .unk, .unk, .unk, .unk, .unk, .unk, .unk, .unk, .unk, .unk, .unk, .unk, .unk, .unk, .unk, .unk, .unk, .unk, .unk, .unk, .unk, .unk, .unk, .unk, .unk, .unk], h⟩
def lb91_1 : C :=
 (.seq (.seq (.reg [⟨some 23, none, .mv (.s 5), .none⟩,
 ⟨some 24, none, .mv (.s 0), .none⟩,
 ⟨some 25, none, .lens (.s 24), .none⟩,
 ⟨some 26, none, .bin .sub (.s 25) (.c (.d (.int .i64 1))), .none⟩,
 ⟨some 27, none, .bin .lss (.s 23) (.s 26), .none⟩,
 ⟨some 28, none, .mv (.s 27), .none⟩,
 ⟨some 29, some (28, true), .mv (.s 0), .none⟩,
 ⟨some 30, some (28, true), .mv (.s 5), .none⟩,
 ⟨some 31, some (28, true), .sti (.s 29) (.s 30), .none⟩,
 ⟨some 32, some (28, true), .bin .eql (.s 31) (.c (.d (.int .u8 48))), .none⟩,
 ⟨some 33, none, .pick (.s 28) (.s 32) (.c (.d (.bool false))), .none⟩])
 (.cond (.s 33)
 .skip
 (.exit 2 (some [0, 5]))))
 (.block 3 (.reg [⟨some 34, none, .mv (.s 5), .none⟩,
 ⟨some 35, none, .bin .add (.s 34) (.c (.d (.int .i64 1))), .none⟩,
 ⟨some 5, none, .mv (.s 35), .none⟩])))
def lp91_1 : C := lb91_1
theorem u91_1 (c : Ev.Callee) (l : Ev.Looper) (s : St) : evC c l lp91_1 s = evC c l lb91_1 s := rfl
abbrev st91_1 (m : Nat) (s0 s5 : AV) (h : Heap) : St := ⟨m, [s0, .unk, .unk, .unk, .unk, s5, .unk, .unk, .unk, .unk, .unk, .unk, .unk, .unk, .unk, .unk, .unk, .unk, .unk, .unk, .unk, .unk, .unk, .unk, .unk, .unk, .unk, .unk, .unk, .unk, .unk, .unk, .unk, .unk, .unk, .unk, .unk, .unk, .unk, .unk, .unk, .unk, .unk, .unk, .unk, .unk, .unk, .unk, .unk, .unk, .unk, .unk, .unk, .unk, .unk, .unk, .unk, .unk, .unk, .unk, .unk, .unk, .unk, .unk, .unk, .unk], h⟩
def lb91_0 : C :=
 (.seq (.seq (.reg [⟨some 12, none, .mv (.s 4), .none⟩,
 ⟨some 13, none, .mv (.s 0), .none⟩,
 ⟨some 14, none, .lens (.s 13), .none⟩,
 ⟨some 15, none, .bin .lss (.s 12) (.s 14), .none⟩])
 (.cond (.s 15)
 .skip
 (.exit 0 (some [0]))))
 (.seq (.block 1 (.seq (.reg [⟨some 18, none, .mv (.s 0), .none⟩,
 ⟨some 19, none, .mv (.s 4), .none⟩,
 ⟨some 20, none, .sti (.s 18) (.s 19), .none⟩,
 ⟨some 21, none, .call 45 [.s 20] 2, .none⟩,
 ⟨some 22, none, .un .not (.s 21), .none⟩])
 (.cond (.s 22)
 (.seq (.reg [⟨some 2, none, .mv (.c (.d (.int .i64 0))), .none⟩,
 ⟨some 3, none, .mv (.c (.d (.int .i64 3))), .none⟩])
 (.ret (some [2, 3])))
 .skip)))
 (.reg [⟨some 16, none, .mv (.s 4), .none⟩,
 ⟨some 17, none, .bin .add (.s 16) (.c (.d (.int .i64 1))), .none⟩,
 ⟨some 4, none, .mv (.s 17), .none⟩])))
def lp91_0 : C := lb91_0
theorem u91_0 (c : Ev.Callee) (l : Ev.Looper) (s : St) : evC c l lp91_0 s = evC c l lb91_0 s := rfl
abbrev st91_0 (m : Nat) (s0 s4 : AV) (h : Heap) : St := ⟨m, [s0, .unk, .unk, .unk, s4, .unk, .unk, .unk, .unk, .unk, .unk, .unk, .unk, .unk, .unk, .unk, .unk, .unk, .unk, .unk, .unk, .unk, .unk, .unk, .unk, .unk, .unk, .unk, .unk, .unk, .unk, .unk, .unk, .unk, .unk, .unk, .unk, .unk, .unk, .unk, .unk, .unk, .unk, .unk, .unk, .unk, .unk, .unk, .unk, .unk, .unk, .unk, .unk, .unk, .unk, .unk, .unk, .unk, .unk, .unk, .unk, .unk, .unk, .unk, .unk, .unk], h⟩
@[go_sem] theorem ks91_0 (v0 v1 v2 v3 v4 v5 v6 v7 v8 v9 v10 v11 v12 v13 v14 v15 v16 v17 v18 v19 v20 v21 v22 v23 v24 v25 v26 v27 v28 v29 v30 v31 v32 v33 v34 v35 v36 v37 v38 v39 v40 v41 v42 v43 v44 v45 v46 v47 v48 v49 v50 v51 v52 v53 v54 v55 v56 v57 v58 v59 v60 v61 v62 v63 v64 v65 : AV) : keepS [0, 4] [v0, v1, v2, v3, v4, v5, v6, v7, v8, v9, v10, v11, v12, v13, v14, v15, v16, v17, v18, v19, v20, v21, v22, v23, v24, v25, v26, v27, v28, v29, v30, v31, v32, v33, v34, v35, v36, v37, v38, v39, v40, v41, v42, v43, v44, v45, v46, v47, v48, v49, v50, v51, v52, v53, v54, v55, v56, v57, v58, v59, v60, v61, v62, v63, v64, v65] 0 = [v0, .unk, .unk, .unk, v4, .unk, .unk, .unk, .unk, .unk, .unk, .unk, .unk, .unk, .unk, .unk, .unk, .unk, .unk, .unk, .unk, .unk, .unk, .unk, .unk, .unk, .unk, .unk, .unk, .unk, .unk, .unk, .unk, .unk, .unk, .unk, .unk, .unk, .unk, .unk, .unk, .unk, .unk, .unk, .unk, .unk, .unk, .unk, .unk, .unk, .unk, .unk, .unk, .unk, .unk, .unk, .unk, .unk, .unk, .unk, .unk, .unk, .unk, .unk, .unk, .unk] := rfl
@[go_sem] theorem ks91_1 (v0 v1 v2 v3 v4 v5 v6 v7 v8 v9 v10 v11 v12 v13 v14 v15 v16 v17 v18 v19 v20 v21 v22 v23 v24 v25 v26 v27 v28 v29 v30 v31 v32 v33 v34 v35 v36 v37 v38 v39 v40 v41 v42 v43 v44 v45 v46 v47 v48 v49 v50 v51 v52 v53 v54 v55 v56 v57 v58 v59 v60 v61 v62 v63 v64 v65 : AV) : keepS [0] [v0, v1, v2, v3, v4, v5, v6, v7, v8, v9, v10, v11, v12, v13, v14, v15, v16, v17, v18, v19, v20, v21, v22, v23, v24, v25, v26, v27, v28, v29, v30, v31, v32, v33, v34, v35, v36, v37, v38, v39, v40, v41, v42, v43, v44, v45, v46, v47, v48, v49, v50, v51, v52, v53, v54, v55, v56, v57, v58, v59, v60, v61, v62, v63, v64, v65] 0 = [v0, .unk, .unk, .unk, .unk, .unk, .unk, .unk, .unk, .unk, .unk, .unk, .unk, .unk, .unk, .unk, .unk, .unk, .unk, .unk, .unk, .unk, .unk, .unk, .unk, .unk, .unk, .unk, .unk, .unk, .unk, .unk, .unk, .unk, .unk, .unk, .unk, .unk, .unk, .unk, .unk, .unk, .unk, .unk, .unk, .unk, .unk, .unk, .unk, .unk, .unk, .unk, .unk, .unk, .unk, .unk, .unk, .unk, .unk, .unk, .unk, .unk, .unk, .unk, .unk, .unk] := rfl
@[go_sem] theorem ks91_2 (v0 v1 v2 v3 v4 v5 v6 v7 v8 v9 v10 v11 v12 v13 v14 v15 v16 v17 v18 v19 v20 v21 v22 v23 v24 v25 v26 v27 v28 v29 v30 v31 v32 v33 v34 v35 v36 v37 v38 v39 v40 v41 v42 v43 v44 v45 v46 v47 v48 v49 v50 v51 v52 v53 v54 v55 v56 v57 v58 v59 v60 v61 v62 v63 v64 v65 : AV) : keepS [2, 3] [v0, v1, v2, v3, v4, v5, v6, v7, v8, v9, v10, v11, v12, v13, v14, v15, v16, v17, v18, v19, v20, v21, v22, v23, v24, v25, v26, v27, v28, v29, v30, v31, v32, v33, v34, v35, v36, v37, v38, v39, v40, v41, v42, v43, v44, v45, v46, v47, v48, v49, v50, v51, v52, v53, v54, v55, v56, v57, v58, v59, v60, v61, v62, v63, v64, v65] 0 = [.unk, .unk, v2, v3, .unk, .unk, .unk, .unk, .unk, .unk, .unk, .unk, .unk, .unk, .unk, .unk, .unk, .unk, .unk, .unk, .unk, .unk, .unk, .unk, .unk, .unk, .unk, .unk, .unk, .unk, .unk, .unk, .unk, .unk, .unk, .unk, .unk, .unk, .unk, .unk, .unk, .unk, .unk, .unk, .unk, .unk, .unk, .unk, .unk, .unk, .unk, .unk, .unk, .unk, .unk, .unk, .unk, .unk, .unk, .unk, .unk, .unk, .unk, .unk, .unk, .unk] := rfl
@[go_sem] theorem ks91_3 (v0 v1 v2 v3 v4 v5 v6 v7 v8 v9 v10 v11 v12 v13 v14 v15 v16 v17 v18 v19 v20 v21 v22 v23 v24 v25 v26 v27 v28 v29 v30 v31 v32 v33 v34 v35 v36 v37 v38 v39 v40 v41 v42 v43 v44 v45 v46 v47 v48 v49 v50 v51 v52 v53 v54 v55 v56 v57 v58 v59 v60 v61 v62 v63 v64 v65 : AV) : keepS [0, 5] [v0, v1, v2, v3, v4, v5, v6, v7, v8, v9, v10, v11, v12, v13, v14, v15, v16, v17, v18, v19, v20, v21, v22, v23, v24, v25, v26, v27, v28, v29, v30, v31, v32, v33, v34, v35, v36, v37, v38, v39, v40, v41, v42, v43, v44, v45, v46, v47, v48, v49, v50, v51, v52, v53, v54, v55, v56, v57, v58, v59, v60, v61, v62, v63, v64, v65] 0 = [v0, .unk, .unk, .unk, .unk, v5, .unk, .unk, .unk, .unk, .unk, .unk, .unk, .unk, .unk, .unk, .unk, .unk, .unk, .unk, .unk, .unk, .unk, .unk, .unk, .unk, .unk, .unk, .unk, .unk, .unk, .unk, .unk, .unk, .unk, .unk, .unk, .unk, .unk, .unk, .unk, .unk, .unk, .unk, .unk, .unk, .unk, .unk, .unk, .unk, .unk, .unk, .unk, .unk, .unk, .unk, .unk, .unk, .unk, .unk, .unk, .unk, .unk, .unk, .unk, .unk] := rfl
@[go_sem] theorem ks91_4 (v0 v1 v2 v3 v4 v5 v6 v7 v8 v9 v10 v11 v12 v13 v14 v15 v16 v17 v18 v19 v20 v21 v22 v23 v24 v25 v26 v27 v28 v29 v30 v31 v32 v33 v34 v35 v36 v37 v38 v39 v40 v41 v42 v43 v44 v45 v46 v47 v48 v49 v50 v51 v52 v53 v54 v55 v56 v57 v58 v59 v60 v61 v62 v63 v64 v65 : AV) : keepS [6, 7, 8] [v0, v1, v2, v3, v4, v5, v6, v7, v8, v9, v10, v11, v12, v13, v14, v15, v16, v17, v18, v19, v20, v21, v22, v23, v24, v25, v26, v27, v28, v29, v30, v31, v32, v33, v34, v35, v36, v37, v38, v39, v40, v41, v42, v43, v44, v45, v46, v47, v48, v49, v50, v51, v52, v53, v54, v55, v56, v57, v58, v59, v60, v61, v62, v63, v64, v65] 0 = [.unk, .unk, .unk, .unk, .unk, .unk, v6, v7, v8, .unk, .unk, .unk, .unk, .unk, .unk, .unk, .unk, .unk, .unk, .unk, .unk, .unk, .unk, .unk, .unk, .unk, .unk, .unk, .unk, .unk, .unk, .unk, .unk, .unk, .unk, .unk, .unk, .unk, .unk, .unk, .unk, .unk, .unk, .unk, .unk, .unk, .unk, .unk, .unk, .unk, .unk, .unk, .unk, .unk, .unk, .unk, .unk, .unk, .unk, .unk, .unk, .unk, .unk, .unk, .unk, .unk] := rfl
@[go_sem] theorem ks91_5 (v0 v1 v2 v3 v4 v5 v6 v7 v8 v9 v10 v11 v12 v13 v14 v15 v16 v17 v18 v19 v20 v21 v22 v23 v24 v25 v26 v27 v28 v29 v30 v31 v32 v33 v34 v35 v36 v37 v38 v39 v40 v41 v42 v43 v44 v45 v46 v47 v48 v49 v50 v51 v52 v53 v54 v55 v56 v57 v58 v59 v60 v61 v62 v63 v64 v65 : AV) : keepS [7] [v0, v1, v2, v3, v4, v5, v6, v7, v8, v9, v10, v11, v12, v13, v14, v15, v16, v17, v18, v19, v20, v21, v22, v23, v24, v25, v26, v27, v28, v29, v30, v31, v32, v33, v34, v35, v36, v37, v38, v39, v40, v41, v42, v43, v44, v45, v46, v47, v48, v49, v50, v51, v52, v53, v54, v55, v56, v57, v58, v59, v60, v61, v62, v63, v64, v65] 0 = [.unk, .unk, .unk, .unk, .unk, .unk, .unk, v7, .unk, .unk, .unk, .unk, .unk, .unk, .unk, .unk, .unk, .unk, .unk, .unk, .unk, .unk, .unk, .unk, .unk, .unk, .unk, .unk, .unk, .unk, .unk, .unk, .unk, .unk, .unk, .unk, .unk, .unk, .unk, .unk, .unk, .unk, .unk, .unk, .unk, .unk, .unk, .unk, .unk, .unk, .unk, .unk, .unk, .unk, .unk, .unk, .unk, .unk, .unk, .unk, .unk, .unk, .unk, .unk, .unk, .unk] := rfl
/-- spence/spenceref01.Parse -/
def bd91 : C :=
 (.seq (.reg [⟨some 2, none, .mv (.c (.d (.int .i64 0))), .none⟩,
 ⟨some 3, none, .mv (.c (.d (.int .i64 0))), .none⟩])
 (.seq (.seq (.reg [⟨some 9, none, .mv (.s 0), .none⟩,
 ⟨some 10, none, .lens (.s 9), .none⟩,
 ⟨some 11, none, .bin .eql (.s 10) (.c (.d (.int .i64 0))), .none⟩])
 (.cond (.s 11)
 (.seq (.reg [⟨some 2, none, .mv (.c (.d (.int .i64 0))), .none⟩,
 ⟨some 3, none, .mv (.c (.d (.int .i64 3))), .none⟩])
 (.ret none))
 .skip))
 (.seq (.seq (.reg [⟨some 4, none, .mv (.c (.d (.int .i64 0))), .none⟩])
 (.block 0 (.loop [0, 4] lp91_0)))
 (.seq (.reg [⟨some 5, none, .mv (.c (.d (.int .i64 0))), .none⟩])
 (.seq (.block 2 (.loop [0, 5] lp91_1))
 (.seq (.reg [⟨some 36, none, .mv (.s 0), .none⟩,
 ⟨some 37, none, .mv (.s 5), .none⟩,
 ⟨some 38, none, .ssl (.s 36) (some (.s 37)) none, .none⟩,
 ⟨some 6, none, .mv (.s 38), .none⟩])
 (.seq (.seq (.reg [⟨some 39, none, .mv (.s 6), .none⟩,
 ⟨some 40, none, .lens (.s 39), .none⟩,
 ⟨some 41, none, .bin .gtr (.s 40) (.c (.d (.int .i64 19))), .none⟩,
 ⟨some 42, none, .mv (.s 41), .none⟩,
 ⟨some 43, some (42, false), .mv (.s 6), .none⟩,
 ⟨some 44, some (42, false), .lens (.s 43), .none⟩,
 ⟨some 45, some (42, false), .bin .eql (.s 44) (.c (.d (.int .i64 19))), .none⟩,
 ⟨some 46, some (42, false), .mv (.s 45), .none⟩,
 ⟨some 47, some (46, true), .mv (.s 6), .none⟩,
 ⟨some 48, some (46, true), .bin .gtr (.s 47) (.c (.d (.str [52, 54, 49, 49, 54, 56, 54, 48, 49, 56, 52, 50, 55, 51, 56, 55, 57, 48, 51]))), .none⟩,
 ⟨some 49, some (42, false), .pick (.s 46) (.s 48) (.c (.d (.bool false))), .none⟩,
 ⟨some 50, none, .pick (.s 42) (.c (.d (.bool true))) (.s 49), .none⟩])
 (.cond (.s 50)
 (.seq (.reg [⟨some 2, none, .mv (.c (.d (.int .i64 0))), .none⟩,
 ⟨some 3, none, .mv (.c (.d (.int .i64 9))), .none⟩])
 (.ret none))
 .skip))
 (.seq (.reg [⟨some 7, none, .mv (.c (.d (.int .i64 0))), .none⟩])
 (.seq (.seq (.reg [⟨some 8, none, .mv (.c (.d (.int .i64 0))), .none⟩])
 (.block 4 (.loop [6, 7, 8] lp91_2)))
 (.seq (.reg [⟨some 65, none, .mv (.s 7), .none⟩,
 ⟨some 2, none, .mv (.s 65), .none⟩,
 ⟨some 3, none, .mv (.c (.d (.int .i64 0))), .none⟩])
 (.ret none)))))))))))
def ir91 : F := { n := 66, res := [.tmp 2, .tmp 3], body := bd91 }
@[go_sem] theorem n91 : ir91.n = 66 := rfl
@[go_sem] theorem r91 : ir91.res = [.tmp 2, .tmp 3] := rfl
@[go_sem] theorem b91 : ir91.body = bd91 := rfl
/-- spence/spenceref04.less -/
def bd92 : C :=
 (.seq (.reg [⟨some 4, none, .mv (.c (.d (.bool false))), .none⟩])
 (.seq (.reg [⟨some 5, none, .mv (.s 0), .none⟩,
 ⟨some 6, none, .call 121 [.s 5] 2, .none⟩,
 ⟨some 7, none, .mv (.s 1), .none⟩,
 ⟨some 8, none, .call 121 [.s 7] 2, .none⟩,
 ⟨some 0, none, .mv (.s 6), .none⟩,
 ⟨some 1, none, .mv (.s 8), .none⟩])
 (.seq (.seq (.reg [⟨some 9, none, .mv (.s 0), .none⟩,
 ⟨some 10, none, .lens (.s 9), .none⟩,
 ⟨some 11, none, .mv (.s 1), .none⟩,
 ⟨some 12, none, .lens (.s 11), .none⟩,
 ⟨some 13, none, .bin .neq (.s 10) (.s 12), .none⟩])
 (.cond (.s 13)
 (.seq (.reg [⟨some 14, none, .mv (.s 0), .none⟩,
 ⟨some 15, none, .lens (.s 14), .none⟩,
 ⟨some 16, none, .mv (.s 1), .none⟩,
 ⟨some 17, none, .lens (.s 16), .none⟩,
 ⟨some 18, none, .bin .lss (.s 15) (.s 17), .none⟩,
 ⟨some 4, none, .mv (.s 18), .none⟩])
 (.ret none))
 .skip))
 (.seq (.reg [⟨some 19, none, .mv (.s 0), .none⟩,
 ⟨some 20, none, .mv (.s 1), .none⟩,
 ⟨some 21, none, .bin .lss (.s 19) (.s 20), .none⟩,
 ⟨some 4, none, .mv (.s 21), .none⟩])
 (.ret none)))))
def ir92 : F := { n := 22, res := [.tmp 4], body := bd92 }
@[go_sem] theorem n92 : ir92.n = 22 := rfl
@[go_sem] theorem r92 : ir92.res = [.tmp 4] := rfl
@[go_sem] theorem b92 : ir92.body = bd92 := rfl
def lb93_0 : C :=
 (.seq (.seq (.reg [⟨some 10, none, .mv (.s 0), .none⟩,
 ⟨some 11, none, .bin .geq (.s 10) (.c (.d (.int .u64 10))), .none⟩])
 (.cond (.s 11)
 .skip
 (.exit 0 (some [3]))))
 (.block 1 (.seq (.reg [⟨some 12, none, .mv (.s 0), .none⟩,
 ⟨some 13, none, .bin .quo (.s 12) (.c (.d (.int .u64 10))), .none⟩,
 ⟨some 0, none, .mv (.s 13), .none⟩])
 (.reg [⟨some 14, none, .mv (.s 0), .none⟩,
 ⟨some 15, none, .bin .rem (.s 14) (.c (.d (.int .u64 10))), .none⟩,
 ⟨some 16, none, .bin .add (.c (.d (.int .u64 48))) (.s 15), .none⟩,
 ⟨some 17, none, .cvi .u8 (.s 16), .none⟩,
 ⟨some 18, none, .bsl 5 1 1 [.int .u8 0] [(0, (1, .s 17))], .none⟩,
 ⟨some 19, none, .b2s (.s 18), .none⟩,
 ⟨some 20, none, .mv (.s 3), .none⟩,
 ⟨some 21, none, .bin .add (.s 19) (.s 20), .none⟩,
 ⟨some 3, none, .mv (.s 21), .none⟩]))))
def lp93_0 : C := lb93_0
theorem u93_0 (c : Ev.Callee) (l : Ev.Looper) (s : St) : evC c l lp93_0 s = evC c l lb93_0 s := rfl
abbrev st93_0 (m : Nat) (s0 s3 : AV) (h : Heap) : St := ⟨m, [s0, .unk, .unk, s3, .unk, .unk, .unk, .unk, .unk, .unk, .unk, .unk, .unk, .unk, .unk, .unk, .unk, .unk, .unk, .unk, .unk, .unk, .unk], h⟩
@[go_sem] theorem ks93_0 (v0 v1 v2 v3 v4 v5 v6 v7 v8 v9 v10 v11 v12 v13 v14 v15 v16 v17 v18 v19 v20 v21 v22 : AV) : keepS [0, 3] [v0, v1, v2, v3, v4, v5, v6, v7, v8, v9, v10, v11, v12, v13, v14, v15, v16, v17, v18, v19, v20, v21, v22] 0 = [v0, .unk, .unk, v3, .unk, .unk, .unk, .unk, .unk, .unk, .unk, .unk, .unk, .unk, .unk, .unk, .unk, .unk, .unk, .unk, .unk, .unk, .unk] := rfl
@[go_sem] theorem ks93_1 (v0 v1 v2 v3 v4 v5 v6 v7 v8 v9 v10 v11 v12 v13 v14 v15 v16 v17 v18 v19 v20 v21 v22 : AV) : keepS [3] [v0, v1, v2, v3, v4, v5, v6, v7, v8, v9, v10, v11, v12, v13, v14, v15, v16, v17, v18, v19, v20, v21, v22] 0 = [.unk, .unk, .unk, v3, .unk, .unk, .unk, .unk, .unk, .unk, .unk, .unk, .unk, .unk, .unk, .unk, .unk, .unk, .unk, .unk, .unk, .unk, .unk] := rfl
/-- spence/spenceref01.digits -/
def bd93 : C :=
 (.seq (.reg [⟨some 2, none, .mv (.c (.d (.str []))), .none⟩])
 (.seq (.reg [⟨some 4, none, .mv (.s 0), .none⟩,
 ⟨some 5, none, .bin .rem (.s 4) (.c (.d (.int .u64 10))), .none⟩,
 ⟨some 6, none, .bin .add (.c (.d (.int .u64 48))) (.s 5), .none⟩,
 ⟨some 7, none, .cvi .u8 (.s 6), .none⟩,
 ⟨some 8, none, .bsl 5 1 1 [.int .u8 0] [(0, (1, .s 7))], .none⟩,
 ⟨some 9, none, .b2s (.s 8), .none⟩,
 ⟨some 3, none, .mv (.s 9), .none⟩])
 (.seq (.block 0 (.loop [0, 3] lp93_0))
 (.seq (.reg [⟨some 22, none, .mv (.s 3), .none⟩,
 ⟨some 2, none, .mv (.s 22), .none⟩])
 (.ret none)))))
def ir93 : F := { n := 23, res := [.tmp 2], body := bd93 }
@[go_sem] theorem n93 : ir93.n = 23 := rfl
@[go_sem] theorem r93 : ir93.res = [.tmp 2] := rfl
@[go_sem] theorem b93 : ir93.body = bd93 := rfl
/-- spence/text.Cut -/
def bd106 : C :=
 (.seq (.reg [⟨some 4, none, .mv (.c (.d (.str []))), .none⟩,
 ⟨some 5, none, .mv (.c (.d (.str []))), .none⟩,
 ⟨some 6, none, .mv (.c (.d (.bool false))), .none⟩])
 (.seq (.reg [⟨some 8, none, .mv (.s 0), .none⟩,
 ⟨some 9, none, .mv (.s 1), .none⟩,
 ⟨some 10, none, .call 129 [.s 8, .s 9] 2, .none⟩,
 ⟨some 7, none, .mv (.s 10), .none⟩])
 (.seq (.seq (.reg [⟨some 11, none, .mv (.s 7), .none⟩,
 ⟨some 12, none, .bin .lss (.s 11) (.c (.d (.int .i64 0))), .none⟩])
 (.cond (.s 12)
 (.seq (.reg [⟨some 13, none, .mv (.s 0), .none⟩,
 ⟨some 4, none, .mv (.s 13), .none⟩,
 ⟨some 5, none, .mv (.c (.d (.str []))), .none⟩,
 ⟨some 6, none, .mv (.c (.d (.bool false))), .none⟩])
 (.ret none))
 .skip))
 (.seq (.drw [⟨some 14, none, .mv (.s 0), .none⟩,
 ⟨some 15, none, .mv (.s 7), .none⟩,
 ⟨some 16, none, .ssl (.s 14) none (some (.s 15)), .none⟩,
 ⟨some 17, none, .mv (.s 0), .none⟩,
 ⟨some 18, none, .mv (.s 7), .none⟩,
 ⟨some 19, none, .bin .add (.s 18) (.c (.d (.int .i64 1))), .none⟩,
 ⟨some 20, none, .ssl (.s 17) (some (.s 19)) none, .none⟩,
 ⟨some 4, none, .mv (.s 16), .none⟩,
 ⟨some 5, none, .mv (.s 20), .none⟩,
 ⟨some 6, none, .mv (.c (.d (.bool true))), .none⟩]
 [[], [], [0, 1], [], [], [4], [3, 5], [2, 0, 1, 2], [6, 7, 0, 1, 2, 3, 4, 5, 6, 7], [8, 0, 1, 2, 3, 4, 5, 6, 7, 8]] [])
 (.ret none)))))
def ir106 : F := { n := 21, res := [.tmp 4, .tmp 5, .tmp 6], body := bd106 }
@[go_sem] theorem n106 : ir106.n = 21 := rfl
@[go_sem] theorem r106 : ir106.res = [.tmp 4, .tmp 5, .tmp 6] := rfl
@[go_sem] theorem b106 : ir106.body = bd106 := rfl
/-- spence/text.Fold -/
def bd107 : C :=
 (.seq (.reg [⟨some 4, none, .mv (.c (.d (.bool false))), .none⟩])
 (.seq (.reg [⟨some 5, none, .mv (.s 0), .none⟩,
 ⟨some 6, none, .call 130 [.s 5] 2, .none⟩,
 ⟨some 7, none, .mv (.s 1), .none⟩,
 ⟨some 8, none, .call 130 [.s 7] 2, .none⟩,
 ⟨some 9, none, .bin .eql (.s 6) (.s 8), .none⟩,
 ⟨some 4, none, .mv (.s 9), .none⟩])
 (.ret none)))
def ir107 : F := { n := 10, res := [.tmp 4], body := bd107 }
@[go_sem] theorem n107 : ir107.n = 10 := rfl
@[go_sem] theorem r107 : ir107.res = [.tmp 4] := rfl
@[go_sem] theorem b107 : ir107.body = bd107 := rfl
def lb109_0 : C :=
 (.seq (.seq (.reg [⟨some 11, none, .mv (.s 6), .none⟩])
 (.cond (.s 11)
 .skip
 (.exit 0 (some [4]))))
 (.seq (.block 1 (.seq (.reg [⟨some 8, none, .mv (.c (.d (.str []))), .none⟩])
 (.seq (.reg [⟨some 13, none, .mv (.s 5), .none⟩,
 ⟨some 14, none, .call 106 [.s 13, .c (.d (.int .u8 44))] 2, .none⟩,
 ⟨some 12, none, .mv (.s 14), .none⟩,
 ⟨some 15, none, .ext (.s 12) 0, .none⟩,
 ⟨some 16, none, .ext (.s 12) 1, .none⟩,
 ⟨some 17, none, .ext (.s 12) 2, .none⟩,
 ⟨some 8, none, .mv (.s 15), .none⟩,
 ⟨some 5, none, .mv (.s 16), .none⟩,
 ⟨some 6, none, .mv (.s 17), .none⟩])
 (.seq (.reg [⟨some 18, none, .mv (.s 8), .none⟩,
 ⟨some 19, none, .call 76 [.s 18] 2, .none⟩,
 ⟨some 9, none, .mv (.s 19), .none⟩])
 (.seq (.seq (.reg [⟨some 20, none, .mv (.s 9), .none⟩,
 ⟨some 21, none, .bin .eql (.s 20) (.c (.d (.str []))), .none⟩])
 (.cond (.s 21)
 (.seq (.seq (.reg [⟨some 22, none, .mv (.s 7), .none⟩,
 ⟨some 23, none, .mv (.s 22), .none⟩,
 ⟨some 24, some (23, true), .mv (.s 6), .none⟩,
 ⟨some 25, some (23, true), .un .not (.s 24), .none⟩,
 ⟨some 26, none, .pick (.s 23) (.s 25) (.c (.d (.bool false))), .none⟩,
 ⟨some 27, none, .mv (.s 26), .none⟩,
 ⟨some 28, some (27, true), .mv (.s 8), .none⟩,
 ⟨some 29, some (27, true), .bin .neq (.s 28) (.c (.d (.str []))), .none⟩,
 ⟨some 30, none, .pick (.s 27) (.s 29) (.c (.d (.bool false))), .none⟩])
 (.cond (.s 30)
 (.seq (.reg [⟨some 2, none, .mv (.c (.d .nils)), .one 1 true⟩,
 ⟨some 3, none, .mv (.c (.d (.bool false))), .none⟩])
 (.ret (some [2, 3])))
 .skip))
 (.exit 1 none))
 .skip))
 (.seq (.seq (.reg [⟨some 31, none, .mv (.s 7), .none⟩,
 ⟨some 32, none, .mv (.s 31), .none⟩,
 ⟨some 33, some (32, true), .mv (.s 8), .none⟩,
 ⟨some 34, some (32, true), .sti (.s 33) (.c (.d (.int .i64 0))), .none⟩,
 ⟨some 35, some (32, true), .call 113 [.s 34] 2, .none⟩,
 ⟨some 36, none, .pick (.s 32) (.s 35) (.c (.d (.bool false))), .none⟩,
 ⟨some 37, none, .mv (.s 36), .none⟩,
 ⟨some 38, some (37, false), .mv (.s 6), .none⟩,
 ⟨some 39, some (37, false), .un .not (.s 38), .none⟩,
 ⟨some 40, some (37, false), .mv (.s 39), .none⟩,
 ⟨some 41, some (40, true), .mv (.s 8), .none⟩,
 ⟨some 42, some (40, true), .mv (.s 8), .none⟩,
 ⟨some 43, some (40, true), .lens (.s 42), .none⟩,
 ⟨some 44, some (40, true), .bin .sub (.s 43) (.c (.d (.int .i64 1))), .none⟩,
 ⟨some 45, some (40, true), .sti (.s 41) (.s 44), .none⟩,
 ⟨some 46, some (40, true), .call 113 [.s 45] 2, .none⟩,
 ⟨some 47, some (37, false), .pick (.s 40) (.s 46) (.c (.d (.bool false))), .none⟩,
 ⟨some 48, none, .pick (.s 37) (.c (.d (.bool true))) (.s 47), .none⟩])
 (.cond (.s 48)
 (.seq (.reg [⟨some 2, none, .mv (.c (.d .nils)), .one 1 true⟩,
 ⟨some 3, none, .mv (.c (.d (.bool false))), .none⟩])
 (.ret (some [2, 3])))
 .skip))
 (.reg [⟨some 49, none, .mv (.s 4), .none⟩,
 ⟨some 50, none, .mv (.s 9), .none⟩,
 ⟨some 51, none, .bsl 9 1 1 [.str []] [(0, (1, .s 50))], .none⟩,
 ⟨some 52, none, .app 9 1 16 (.s 49) (.s 51), .none⟩,
 ⟨some 4, none, .mv (.s 52), .none⟩])))))))
 (.reg [⟨some 7, none, .mv (.c (.d (.bool false))), .none⟩])))
def lp109_0 : C := lb109_0
theorem u109_0 (c : Ev.Callee) (l : Ev.Looper) (s : St) : evC c l lp109_0 s = evC c l lb109_0 s := rfl
abbrev st109_0 (m : Nat) (s4 s5 s6 s7 : AV) (h : Heap) : St := ⟨m, [.unk, .unk, .unk, .unk, s4, s5, s6, s7, .unk, .unk, .unk, .unk, .unk, .unk, .unk, .unk, .unk, .unk, .unk, .unk, .unk, .unk, .unk, .unk, .unk, .unk, .unk, .unk, .unk, .unk, .unk, .unk, .unk, .unk, .unk, .unk, .unk, .unk, .unk, .unk, .unk, .unk, .unk, .unk, .unk, .unk, .unk, .unk, .unk, .unk, .unk, .unk, .unk, .unk], h⟩
@[go_sem] theorem ks109_0 (v0 v1 v2 v3 v4 v5 v6 v7 v8 v9 v10 v11 v12 v13 v14 v15 v16 v17 v18 v19 v20 v21 v22 v23 v24 v25 v26 v27 v28 v29 v30 v31 v32 v33 v34 v35 v36 v37 v38 v39 v40 v41 v42 v43 v44 v45 v46 v47 v48 v49 v50 v51 v52 v53 : AV) : keepS [4, 5, 6, 7] [v0, v1, v2, v3, v4, v5, v6, v7, v8, v9, v10, v11, v12, v13, v14, v15, v16, v17, v18, v19, v20, v21, v22, v23, v24, v25, v26, v27, v28, v29, v30, v31, v32, v33, v34, v35, v36, v37, v38, v39, v40, v41, v42, v43, v44, v45, v46, v47, v48, v49, v50, v51, v52, v53] 0 = [.unk, .unk, .unk, .unk, v4, v5, v6, v7, .unk, .unk, .unk, .unk, .unk, .unk, .unk, .unk, .unk, .unk, .unk, .unk, .unk, .unk, .unk, .unk, .unk, .unk, .unk, .unk, .unk, .unk, .unk, .unk, .unk, .unk, .unk, .unk, .unk, .unk, .unk, .unk, .unk, .unk, .unk, .unk, .unk, .unk, .unk, .unk, .unk, .unk, .unk, .unk, .unk, .unk] := rfl
@[go_sem] theorem ks109_1 (v0 v1 v2 v3 v4 v5 v6 v7 v8 v9 v10 v11 v12 v13 v14 v15 v16 v17 v18 v19 v20 v21 v22 v23 v24 v25 v26 v27 v28 v29 v30 v31 v32 v33 v34 v35 v36 v37 v38 v39 v40 v41 v42 v43 v44 v45 v46 v47 v48 v49 v50 v51 v52 v53 : AV) : keepS [4] [v0, v1, v2, v3, v4, v5, v6, v7, v8, v9, v10, v11, v12, v13, v14, v15, v16, v17, v18, v19, v20, v21, v22, v23, v24, v25, v26, v27, v28, v29, v30, v31, v32, v33, v34, v35, v36, v37, v38, v39, v40, v41, v42, v43, v44, v45, v46, v47, v48, v49, v50, v51, v52, v53] 0 = [.unk, .unk, .unk, .unk, v4, .unk, .unk, .unk, .unk, .unk, .unk, .unk, .unk, .unk, .unk, .unk, .unk, .unk, .unk, .unk, .unk, .unk, .unk, .unk, .unk, .unk, .unk, .unk, .unk, .unk, .unk, .unk, .unk, .unk, .unk, .unk, .unk, .unk, .unk, .unk, .unk, .unk, .unk, .unk, .unk, .unk, .unk, .unk, .unk, .unk, .unk, .unk, .unk, .unk] := rfl
@[go_sem] theorem ks109_2 (v0 v1 v2 v3 v4 v5 v6 v7 v8 v9 v10 v11 v12 v13 v14 v15 v16 v17 v18 v19 v20 v21 v22 v23 v24 v25 v26 v27 v28 v29 v30 v31 v32 v33 v34 v35 v36 v37 v38 v39 v40 v41 v42 v43 v44 v45 v46 v47 v48 v49 v50 v51 v52 v53 : AV) : keepS [2, 3] [v0, v1, v2, v3, v4, v5, v6, v7, v8, v9, v10, v11, v12, v13, v14, v15, v16, v17, v18, v19, v20, v21, v22, v23, v24, v25, v26, v27, v28, v29, v30, v31, v32, v33, v34, v35, v36, v37, v38, v39, v40, v41, v42, v43, v44, v45, v46, v47, v48, v49, v50, v51, v52, v53] 0 = [.unk, .unk, v2, v3, .unk, .unk, .unk, .unk, .unk, .unk, .unk, .unk, .unk, .unk, .unk, .unk, .unk, .unk, .unk, .unk, .unk, .unk, .unk, .unk, .unk, .unk, .unk, .unk, .unk, .unk, .unk, .unk, .unk, .unk, .unk, .unk, .unk, .unk, .unk, .unk, .unk, .unk, .unk, .unk, .unk, .unk, .unk, .unk, .unk, .unk, .unk, .unk, .unk, .unk] := rfl
/-- spence/text.List -/
def bd109 : C :=
 (.seq (.reg [⟨some 2, none, .mv (.c (.d .nils)), .one 1 true⟩,
 ⟨some 3, none, .mv (.c (.d (.bool false))), .none⟩])
 (.seq (.reg [⟨some 4, none, .mv (.c (.d .nils)), .one 1 true⟩])
 (.seq (.reg [⟨some 10, none, .mv (.s 0), .none⟩,
 ⟨some 5, none, .mv (.s 10), .none⟩,
 ⟨some 6, none, .mv (.c (.d (.bool true))), .none⟩])
 (.seq (.seq (.reg [⟨some 7, none, .mv (.c (.d (.bool true))), .none⟩])
 (.block 0 (.loop [4, 5, 6, 7] lp109_0)))
 (.seq (.reg [⟨some 53, none, .mv (.s 4), .none⟩,
 ⟨some 2, none, .mv (.s 53), .none⟩,
 ⟨some 3, none, .mv (.c (.d (.bool true))), .none⟩])
 (.ret none))))))
def ir109 : F := { n := 54, res := [.tmp 2, .tmp 3], body := bd109 }
@[go_sem] theorem n109 : ir109.n = 54 := rfl
@[go_sem] theorem r109 : ir109.res = [.tmp 2, .tmp 3] := rfl
@[go_sem] theorem b109 : ir109.body = bd109 := rfl
/-- spence/spec.One -/
def bd110 : C :=
 (.seq (.reg [⟨some 2, none, .alloc 72 [.int .i64 0, .int .i64 0, .int .i64 0], .none⟩,
 ⟨some 3, none, .mv (.c (.d (.int .i64 0))), .none⟩])
 (.seq (.reg [⟨some 8, none, .mv (.s 0), .none⟩,
 ⟨some 9, none, .call 106 [.s 8, .c (.d (.int .u8 45))] 2, .none⟩,
 ⟨some 7, none, .mv (.s 9), .none⟩,
 ⟨some 10, none, .ext (.s 7) 0, .none⟩,
 ⟨some 11, none, .ext (.s 7) 1, .none⟩,
 ⟨some 12, none, .ext (.s 7) 2, .none⟩,
 ⟨some 4, none, .mv (.s 10), .none⟩,
 ⟨some 5, none, .mv (.s 11), .none⟩,
 ⟨some 6, none, .mv (.s 12), .none⟩])
 (.seq (.block 0 (.seq (.reg [⟨some 14, none, .mv (.s 6), .none⟩,
 ⟨some 15, none, .un .not (.s 14), .none⟩,
 ⟨some 13, none, .mv (.s 15), .none⟩])
 (.cond (.s 13)
 (.seq (.reg [⟨some 16, none, .build [.int .i64 0, .int .i64 0, .int .i64 0] [], .none⟩,
 ⟨none, none, .st (.s 2) (.s 16) 3, .none⟩,
 ⟨some 3, none, .mv (.c (.d (.int .i64 3))), .none⟩])
 (.ret none))
 (.seq (.reg [⟨some 18, none, .mv (.s 4), .none⟩,
 ⟨some 19, none, .bin .eql (.s 18) (.c (.d (.str []))), .none⟩,
 ⟨some 17, none, .mv (.s 19), .none⟩])
 (.cond (.s 17)
 (.seq (.reg [⟨some 20, none, .mv (.s 5), .none⟩,
 ⟨some 21, none, .call 132 [.c (.d (.int .i64 3)), .s 20] 2, .none⟩,
 ⟨some 22, none, .ext (.s 21) 0, .none⟩,
 ⟨some 23, none, .ext (.s 21) 1, .none⟩,
 ⟨none, none, .st (.s 2) (.s 22) 3, .none⟩,
 ⟨some 3, none, .mv (.s 23), .none⟩])
 (.ret none))
 (.seq (.reg [⟨some 25, none, .mv (.s 5), .none⟩,
 ⟨some 26, none, .bin .eql (.s 25) (.c (.d (.str []))), .none⟩,
 ⟨some 24, none, .mv (.s 26), .none⟩])
 (.cond (.s 24)
 (.seq (.reg [⟨some 27, none, .mv (.s 4), .none⟩,
 ⟨some 28, none, .call 132 [.c (.d (.int .i64 1)), .s 27] 2, .none⟩,
 ⟨some 29, none, .ext (.s 28) 0, .none⟩,
 ⟨some 30, none, .ext (.s 28) 1, .none⟩,
 ⟨none, none, .st (.s 2) (.s 29) 3, .none⟩,
 ⟨some 3, none, .mv (.s 30), .none⟩])
 (.ret none))
 .skip)))))))
 (.seq (.reg [⟨some 31, none, .mv (.s 4), .none⟩,
 ⟨some 32, none, .mv (.s 5), .none⟩,
 ⟨some 33, none, .call 133 [.s 31, .s 32] 2, .none⟩,
 ⟨some 34, none, .ext (.s 33) 0, .none⟩,
 ⟨some 35, none, .ext (.s 33) 1, .none⟩,
 ⟨none, none, .st (.s 2) (.s 34) 3, .none⟩,
 ⟨some 3, none, .mv (.s 35), .none⟩])
 (.ret none)))))
def ir110 : F := { n := 36, res := [.cell 2 3 true, .tmp 3], body := bd110 }
@[go_sem] theorem n110 : ir110.n = 36 := rfl
@[go_sem] theorem r110 : ir110.res = [.cell 2 3 true, .tmp 3] := rfl
@[go_sem] theorem b110 : ir110.body = bd110 := rfl
/-- spence/spec.worse -/
def bd111 : C :=
 (.seq (.reg [⟨some 4, none, .mv (.c (.d (.int .i64 0))), .none⟩])
 (.seq (.seq (.reg [⟨some 5, none, .mv (.s 0), .none⟩,
 ⟨some 6, none, .bin .eql (.s 5) (.c (.d (.int .i64 3))), .none⟩,
 ⟨some 7, none, .mv (.s 6), .none⟩,
 ⟨some 8, some (7, false), .mv (.s 1), .none⟩,
 ⟨some 9, some (7, false), .bin .eql (.s 8) (.c (.d (.int .i64 0))), .none⟩,
 ⟨some 10, none, .pick (.s 7) (.c (.d (.bool true))) (.s 9), .none⟩])
 (.cond (.s 10)
 (.seq (.reg [⟨some 11, none, .mv (.s 0), .none⟩,
 ⟨some 4, none, .mv (.s 11), .none⟩])
 (.ret none))
 .skip))
 (.seq (.seq (.reg [⟨some 12, none, .mv (.s 1), .none⟩,
 ⟨some 13, none, .bin .eql (.s 12) (.c (.d (.int .i64 3))), .none⟩,
 ⟨some 14, none, .mv (.s 13), .none⟩,
 ⟨some 15, some (14, false), .mv (.s 0), .none⟩,
 ⟨some 16, some (14, false), .bin .eql (.s 15) (.c (.d (.int .i64 0))), .none⟩,
 ⟨some 17, none, .pick (.s 14) (.c (.d (.bool true))) (.s 16), .none⟩])
 (.cond (.s 17)
 (.seq (.reg [⟨some 18, none, .mv (.s 1), .none⟩,
 ⟨some 4, none, .mv (.s 18), .none⟩])
 (.ret none))
 .skip))
 (.seq (.reg [⟨some 19, none, .mv (.s 0), .none⟩,
 ⟨some 4, none, .mv (.s 19), .none⟩])
 (.ret none)))))
def ir111 : F := { n := 20, res := [.tmp 4], body := bd111 }
@[go_sem] theorem n111 : ir111.n = 20 := rfl
@[go_sem] theorem r111 : ir111.res = [.tmp 4] := rfl
@[go_sem] theorem b111 : ir111.body = bd111 := rfl
def lb112_0 : C :=
 (.seq (.seq (.reg [⟨some 6, none, .mv (.s 3), .none⟩,
 ⟨some 7, none, .bin .gtr (.s 6) (.c (.d (.int .i64 0))), .none⟩,
 ⟨some 8, none, .mv (.s 7), .none⟩,
 ⟨some 9, some (8, true), .mv (.s 0), .none⟩,
 ⟨some 10, some (8, true), .mv (.s 3), .none⟩,
 ⟨some 11, some (8, true), .bin .sub (.s 10) (.c (.d (.int .i64 1))), .none⟩,
 ⟨some 12, some (8, true), .sti (.s 9) (.s 11), .none⟩,
 ⟨some 13, some (8, true), .call 113 [.s 12] 2, .none⟩,
 ⟨some 14, none, .pick (.s 8) (.s 13) (.c (.d (.bool false))), .none⟩])
 (.cond (.s 14)
 .skip
 (.exit 0 (some [0, 3]))))
 (.block 1 (.reg [⟨some 15, none, .mv (.s 3), .none⟩,
 ⟨some 16, none, .bin .sub (.s 15) (.c (.d (.int .i64 1))), .none⟩,
 ⟨some 3, none, .mv (.s 16), .none⟩])))
def lp112_0 : C := lb112_0
theorem u112_0 (c : Ev.Callee) (l : Ev.Looper) (s : St) : evC c l lp112_0 s = evC c l lb112_0 s := rfl
abbrev st112_0 (m : Nat) (s0 s3 : AV) (h : Heap) : St := ⟨m, [s0, .unk, .unk, s3, .unk, .unk, .unk, .unk, .unk, .unk, .unk, .unk, .unk, .unk, .unk, .unk, .unk, .unk, .unk, .unk], h⟩
@[go_sem] theorem ks112_0 (v0 v1 v2 v3 v4 v5 v6 v7 v8 v9 v10 v11 v12 v13 v14 v15 v16 v17 v18 v19 : AV) : keepS [0, 3] [v0, v1, v2, v3, v4, v5, v6, v7, v8, v9, v10, v11, v12, v13, v14, v15, v16, v17, v18, v19] 0 = [v0, .unk, .unk, v3, .unk, .unk, .unk, .unk, .unk, .unk, .unk, .unk, .unk, .unk, .unk, .unk, .unk, .unk, .unk, .unk] := rfl
/-- spence/text.Right -/
def bd112 : C :=
 (.seq (.reg [⟨some 2, none, .mv (.c (.d (.str []))), .none⟩])
 (.seq (.reg [⟨some 4, none, .mv (.s 0), .none⟩,
 ⟨some 5, none, .lens (.s 4), .none⟩,
 ⟨some 3, none, .mv (.s 5), .none⟩])
 (.seq (.block 0 (.loop [0, 3] lp112_0))
 (.seq (.reg [⟨some 17, none, .mv (.s 0), .none⟩,
 ⟨some 18, none, .mv (.s 3), .none⟩,
 ⟨some 19, none, .ssl (.s 17) none (some (.s 18)), .none⟩,
 ⟨some 2, none, .mv (.s 19), .none⟩])
 (.ret none)))))
def ir112 : F := { n := 20, res := [.tmp 2], body := bd112 }
@[go_sem] theorem n112 : ir112.n = 20 := rfl
@[go_sem] theorem r112 : ir112.res = [.tmp 2] := rfl
@[go_sem] theorem b112 : ir112.body = bd112 := rfl
/-- spence/text.blank -/
def bd113 : C :=
 (.seq (.reg [⟨some 2, none, .mv (.c (.d (.bool false))), .none⟩])
 (.seq (.reg [⟨some 3, none, .mv (.s 0), .none⟩,
 ⟨some 4, none, .bin .eql (.s 3) (.c (.d (.int .u8 32))), .none⟩,
 ⟨some 5, none, .mv (.s 4), .none⟩,
 ⟨some 6, some (5, false), .mv (.s 0), .none⟩,
 ⟨some 7, some (5, false), .bin .eql (.s 6) (.c (.d (.int .u8 9))), .none⟩,
 ⟨some 8, none, .pick (.s 5) (.c (.d (.bool true))) (.s 7), .none⟩,
 ⟨some 2, none, .mv (.s 8), .none⟩])
 (.ret none)))
def ir113 : F := { n := 9, res := [.tmp 2], body := bd113 }
@[go_sem] theorem n113 : ir113.n = 9 := rfl
@[go_sem] theorem r113 : ir113.res = [.tmp 2] := rfl
@[go_sem] theorem b113 : ir113.body = bd113 := rfl
/-- strings.CutPrefix -/
def bd114 : C :=
 (.seq (.reg [⟨some 4, none, .mv (.c (.d (.str []))), .none⟩,
 ⟨some 5, none, .mv (.c (.d (.bool false))), .none⟩])
 (.seq (.reg [⟨some 6, none, .mv (.s 0), .none⟩,
 ⟨some 7, none, .mv (.s 1), .none⟩,
 ⟨some 8, none, .call 134 [.s 6, .s 7] 2, .none⟩,
 ⟨some 9, none, .ext (.s 8) 0, .none⟩,
 ⟨some 10, none, .ext (.s 8) 1, .none⟩,
 ⟨some 4, none, .mv (.s 9), .none⟩,
 ⟨some 5, none, .mv (.s 10), .none⟩])
 (.ret none)))
def ir114 : F := { n := 11, res := [.tmp 4, .tmp 5], body := bd114 }
@[go_sem] theorem n114 : ir114.n = 11 := rfl
@[go_sem] theorem r114 : ir114.res = [.tmp 4, .tmp 5] := rfl
@[go_sem] theorem b114 : ir114.body = bd114 := rfl
def lb115_0 : C :=
 (.seq (.reg [⟨some 7, none, .bin .lss (.s 6) (.s 5), .none⟩])
 (.seq (.cond (.s 7)
 .skip
 (.exit 0 (some [])))
 (.seq (.block 1 (.seq (.reg [⟨some 8, none, .mv (.s 6), .none⟩,
 ⟨some 3, none, .mv (.s 8), .none⟩])
 (.seq (.reg [⟨some 9, none, .mv (.s 0), .none⟩,
 ⟨some 10, none, .mv (.s 3), .none⟩,
 ⟨some 11, none, .sti (.s 9) (.s 10), .none⟩,
 ⟨some 12, none, .call 135 [.s 11] 2, .none⟩,
 ⟨some 13, none, .un .not (.s 12), .none⟩])
 (.cond (.s 13)
 (.seq (.reg [⟨some 2, none, .mv (.c (.d (.bool false))), .none⟩])
 (.ret (some [2])))
 .skip))))
 (.reg [⟨some 14, none, .bin .add (.s 6) (.c (.d (.int .i64 1))), .none⟩,
 ⟨some 6, none, .mv (.s 14), .none⟩]))))
def lp115_0 : C := lb115_0
theorem u115_0 (c : Ev.Callee) (l : Ev.Looper) (s : St) : evC c l lp115_0 s = evC c l lb115_0 s := rfl
abbrev st115_0 (m : Nat) (s0 s5 s6 : AV) (h : Heap) : St := ⟨m, [s0, .unk, .unk, .unk, .unk, s5, s6, .unk, .unk, .unk, .unk, .unk, .unk, .unk, .unk], h⟩
@[go_sem] theorem ks115_0 (v0 v1 v2 v3 v4 v5 v6 v7 v8 v9 v10 v11 v12 v13 v14 : AV) : keepS [0, 5, 6] [v0, v1, v2, v3, v4, v5, v6, v7, v8, v9, v10, v11, v12, v13, v14] 0 = [v0, .unk, .unk, .unk, .unk, v5, v6, .unk, .unk, .unk, .unk, .unk, .unk, .unk, .unk] := rfl
@[go_sem] theorem ks115_1 (v0 v1 v2 v3 v4 v5 v6 v7 v8 v9 v10 v11 v12 v13 v14 : AV) : keepS [] [v0, v1, v2, v3, v4, v5, v6, v7, v8, v9, v10, v11, v12, v13, v14] 0 = [.unk, .unk, .unk, .unk, .unk, .unk, .unk, .unk, .unk, .unk, .unk, .unk, .unk, .unk, .unk] := rfl
@[go_sem] theorem ks115_2 (v0 v1 v2 v3 v4 v5 v6 v7 v8 v9 v10 v11 v12 v13 v14 : AV) : keepS [2] [v0, v1, v2, v3, v4, v5, v6, v7, v8, v9, v10, v11, v12, v13, v14] 0 = [.unk, .unk, v2, .unk, .unk, .unk, .unk, .unk, .unk, .unk, .unk, .unk, .unk, .unk, .unk] := rfl
/-- spence/etag.plain -/
def bd115 : C :=
 (.seq (.reg [⟨some 2, none, .mv (.c (.d (.bool false))), .none⟩])
 (.seq (.seq (.reg [⟨some 4, none, .mv (.s 0), .none⟩,
 ⟨some 5, none, .lens (.s 4), .none⟩,
 ⟨some 6, none, .mv (.c (.d (.int .i64 0))), .none⟩])
 (.block 0 (.loop [0, 5, 6] lp115_0)))
 (.seq (.reg [⟨some 2, none, .mv (.c (.d (.bool true))), .none⟩])
 (.ret none))))
def ir115 : F := { n := 15, res := [.tmp 2], body := bd115 }
@[go_sem] theorem n115 : ir115.n = 15 := rfl
@[go_sem] theorem r115 : ir115.res = [.tmp 2] := rfl
@[go_sem] theorem b115 : ir115.body = bd115 := rfl
/-- spence/etag.Right -/
def bd116 : C :=
 (.seq (.reg [⟨some 1, none, .box 135 (.s 0), .none⟩,
 ⟨some 2, none, .mv (.c (.d (.bool false))), .none⟩])
 (.seq (.reg [⟨some 3, none, .fa (.s 1) 1, .none⟩,
 ⟨some 4, none, .ld (.s 3) 1 false, .none⟩,
 ⟨some 5, none, .call 115 [.s 4] 2, .none⟩,
 ⟨some 6, none, .mv (.s 5), .none⟩,
 ⟨some 7, some (6, true), .fa (.s 1) 1, .none⟩,
 ⟨some 8, some (6, true), .ld (.s 7) 1 false, .none⟩,
 ⟨some 9, some (6, true), .lens (.s 8), .none⟩,
 ⟨some 10, some (6, true), .bin .leq (.s 9) (.c (.d (.int .i64 40))), .none⟩,
 ⟨some 11, none, .pick (.s 6) (.s 10) (.c (.d (.bool false))), .none⟩,
 ⟨some 2, none, .mv (.s 11), .none⟩])
 (.ret none)))
def ir116 : F := { n := 12, res := [.tmp 2], body := bd116 }
@[go_sem] theorem n116 : ir116.n = 12 := rfl
@[go_sem] theorem r116 : ir116.res = [.tmp 2] := rfl
@[go_sem] theorem b116 : ir116.body = bd116 := rfl
/-- spence/etag.Weak -/
def bd117 : C :=
 (.seq (.reg [⟨some 2, none, .box 135 (.s 0), .none⟩,
 ⟨some 3, none, .box 135 (.s 1), .none⟩,
 ⟨some 4, none, .mv (.c (.d (.bool false))), .none⟩])
 (.seq (.reg [⟨some 5, none, .fa (.s 2) 1, .none⟩,
 ⟨some 6, none, .ld (.s 5) 1 false, .none⟩,
 ⟨some 7, none, .fa (.s 3) 1, .none⟩,
 ⟨some 8, none, .ld (.s 7) 1 false, .none⟩,
 ⟨some 9, none, .bin .eql (.s 6) (.s 8), .none⟩,
 ⟨some 4, none, .mv (.s 9), .none⟩])
 (.ret none)))
def ir117 : F := { n := 10, res := [.tmp 4], body := bd117 }
@[go_sem] theorem n117 : ir117.n = 10 := rfl
@[go_sem] theorem r117 : ir117.res = [.tmp 4] := rfl
@[go_sem] theorem b117 : ir117.body = bd117 := rfl
def lb118_0 : C :=
 (.seq (.reg [⟨some 9, none, .bin .lss (.s 8) (.s 7), .none⟩])
 (.seq (.cond (.s 9)
 .skip
 (.exit 0 (some [])))
 (.seq (.block 1 (.seq (.reg [⟨some 10, none, .mv (.s 8), .none⟩,
 ⟨some 5, none, .mv (.s 10), .none⟩])
 (.seq (.reg [⟨some 11, none, .mv (.s 1), .none⟩,
 ⟨some 12, none, .mv (.s 0), .none⟩,
 ⟨some 13, none, .mv (.s 5), .none⟩,
 ⟨some 14, none, .is (.s 12) (.s 13) 2, .none⟩,
 ⟨some 15, none, .ld (.s 14) 2 true, .none⟩,
 ⟨some 16, none, .callv (.s 11) [.s 15] 0, .none⟩])
 (.cond (.s 16)
 (.seq (.reg [⟨some 17, none, .mv (.s 5), .none⟩,
 ⟨some 4, none, .mv (.s 17), .none⟩])
 (.ret (some [4])))
 .skip))))
 (.reg [⟨some 18, none, .bin .add (.s 8) (.c (.d (.int .i64 1))), .none⟩,
 ⟨some 8, none, .mv (.s 18), .none⟩]))))
def lp118_0 : C := lb118_0
theorem u118_0 (c : Ev.Callee) (l : Ev.Looper) (s : St) : evC c l lp118_0 s = evC c l lb118_0 s := rfl
abbrev st118_0 (m : Nat) (s0 s1 s7 s8 : AV) (h : Heap) : St := ⟨m, [s0, s1, .unk, .unk, .unk, .unk, .unk, s7, s8, .unk, .unk, .unk, .unk, .unk, .unk, .unk, .unk, .unk, .unk], h⟩
@[go_sem] theorem ks118_0 (v0 v1 v2 v3 v4 v5 v6 v7 v8 v9 v10 v11 v12 v13 v14 v15 v16 v17 v18 : AV) : keepS [0, 1, 7, 8] [v0, v1, v2, v3, v4, v5, v6, v7, v8, v9, v10, v11, v12, v13, v14, v15, v16, v17, v18] 0 = [v0, v1, .unk, .unk, .unk, .unk, .unk, v7, v8, .unk, .unk, .unk, .unk, .unk, .unk, .unk, .unk, .unk, .unk] := rfl
@[go_sem] theorem ks118_1 (v0 v1 v2 v3 v4 v5 v6 v7 v8 v9 v10 v11 v12 v13 v14 v15 v16 v17 v18 : AV) : keepS [] [v0, v1, v2, v3, v4, v5, v6, v7, v8, v9, v10, v11, v12, v13, v14, v15, v16, v17, v18] 0 = [.unk, .unk, .unk, .unk, .unk, .unk, .unk, .unk, .unk, .unk, .unk, .unk, .unk, .unk, .unk, .unk, .unk, .unk, .unk] := rfl
@[go_sem] theorem ks118_2 (v0 v1 v2 v3 v4 v5 v6 v7 v8 v9 v10 v11 v12 v13 v14 v15 v16 v17 v18 : AV) : keepS [4] [v0, v1, v2, v3, v4, v5, v6, v7, v8, v9, v10, v11, v12, v13, v14, v15, v16, v17, v18] 0 = [.unk, .unk, .unk, .unk, v4, .unk, .unk, .unk, .unk, .unk, .unk, .unk, .unk, .unk, .unk, .unk, .unk, .unk, .unk] := rfl
/-- slices.IndexFunc[[]spence/api.Span,spence/api.Span] -/
def bd118 : C :=
 (.seq (.reg [⟨some 4, none, .mv (.c (.d (.int .i64 0))), .none⟩])
 (.seq (.seq (.reg [⟨some 6, none, .mv (.s 0), .none⟩,
 ⟨some 7, none, .len (.s 6), .none⟩,
 ⟨some 8, none, .mv (.c (.d (.int .i64 0))), .none⟩])
 (.block 0 (.loop [0, 1, 7, 8] lp118_0)))
 (.seq (.reg [⟨some 4, none, .mv (.c (.d (.int .i64 (-1)))), .none⟩])
 (.ret none))))
def ir118 : F := { n := 19, res := [.tmp 4], body := bd118 }
@[go_sem] theorem n118 : ir118.n = 19 := rfl
@[go_sem] theorem r118 : ir118.res = [.tmp 4] := rfl
@[go_sem] theorem b118 : ir118.body = bd118 := rfl
def lb121_0 : C :=
 (.seq (.seq (.reg [⟨some 3, none, .mv (.s 0), .none⟩,
 ⟨some 4, none, .lens (.s 3), .none⟩,
 ⟨some 5, none, .bin .gtr (.s 4) (.c (.d (.int .i64 0))), .none⟩,
 ⟨some 6, none, .mv (.s 5), .none⟩,
 ⟨some 7, some (6, true), .mv (.s 0), .none⟩,
 ⟨some 8, some (6, true), .sti (.s 7) (.c (.d (.int .i64 0))), .none⟩,
 ⟨some 9, some (6, true), .bin .eql (.s 8) (.c (.d (.int .u8 48))), .none⟩,
 ⟨some 10, none, .pick (.s 6) (.s 9) (.c (.d (.bool false))), .none⟩])
 (.cond (.s 10)
 .skip
 (.exit 0 (some [0]))))
 (.block 1 (.reg [⟨some 11, none, .mv (.s 0), .none⟩,
 ⟨some 12, none, .ssl (.s 11) (some (.c (.d (.int .i64 1)))) none, .none⟩,
 ⟨some 0, none, .mv (.s 12), .none⟩])))
def lp121_0 : C := lb121_0
theorem u121_0 (c : Ev.Callee) (l : Ev.Looper) (s : St) : evC c l lp121_0 s = evC c l lb121_0 s := rfl
abbrev st121_0 (m : Nat) (s0 : AV) (h : Heap) : St := ⟨m, [s0, .unk, .unk, .unk, .unk, .unk, .unk, .unk, .unk, .unk, .unk, .unk, .unk, .unk], h⟩
@[go_sem] theorem ks121_0 (v0 v1 v2 v3 v4 v5 v6 v7 v8 v9 v10 v11 v12 v13 : AV) : keepS [0] [v0, v1, v2, v3, v4, v5, v6, v7, v8, v9, v10, v11, v12, v13] 0 = [v0, .unk, .unk, .unk, .unk, .unk, .unk, .unk, .unk, .unk, .unk, .unk, .unk, .unk] := rfl
/-- spence/spenceref04.bare -/
def bd121 : C :=
 (.seq (.reg [⟨some 2, none, .mv (.c (.d (.str []))), .none⟩])
 (.seq (.block 0 (.loop [0] lp121_0))
 (.seq (.reg [⟨some 13, none, .mv (.s 0), .none⟩,
 ⟨some 2, none, .mv (.s 13), .none⟩])
 (.ret none))))
def ir121 : F := { n := 14, res := [.tmp 2], body := bd121 }
@[go_sem] theorem n121 : ir121.n = 14 := rfl
@[go_sem] theorem r121 : ir121.res = [.tmp 2] := rfl
@[go_sem] theorem b121 : ir121.body = bd121 := rfl
def lb130_0 : C :=
 (.seq (.reg [⟨some 11, none, .bin .lss (.s 10) (.s 9), .none⟩])
 (.seq (.cond (.s 11)
 .skip
 (.exit 0 (some [3])))
 (.seq (.block 1 (.seq (.reg [⟨some 12, none, .mv (.s 10), .none⟩,
 ⟨some 13, none, .is (.s 8) (.s 10) 1, .none⟩,
 ⟨some 14, none, .ld (.s 13) 1 false, .none⟩,
 ⟨some 4, none, .mv (.s 12), .none⟩,
 ⟨some 5, none, .mv (.s 14), .none⟩])
 (.seq (.reg [⟨some 15, none, .mv (.s 5), .none⟩,
 ⟨some 16, none, .bin .geq (.s 15) (.c (.d (.int .u8 65))), .none⟩,
 ⟨some 17, none, .mv (.s 16), .none⟩,
 ⟨some 18, some (17, true), .mv (.s 5), .none⟩,
 ⟨some 19, some (17, true), .bin .leq (.s 18) (.c (.d (.int .u8 90))), .none⟩,
 ⟨some 20, none, .pick (.s 17) (.s 19) (.c (.d (.bool false))), .none⟩])
 (.cond (.s 20)
 (.reg [⟨some 21, none, .mv (.s 3), .none⟩,
 ⟨some 22, none, .mv (.s 4), .none⟩,
 ⟨some 23, none, .mv (.s 5), .none⟩,
 ⟨some 24, none, .bin .sub (.s 23) (.c (.d (.int .u8 65))), .none⟩,
 ⟨some 25, none, .bin .add (.s 24) (.c (.d (.int .u8 97))), .none⟩,
 ⟨some 26, none, .is (.s 21) (.s 22) 1, .none⟩,
 ⟨none, none, .st (.s 26) (.s 25) 1, .none⟩])
 .skip))))
 (.reg [⟨some 27, none, .bin .add (.s 10) (.c (.d (.int .i64 1))), .none⟩,
 ⟨some 10, none, .mv (.s 27), .none⟩]))))
def lp130_0 : C := lb130_0
theorem u130_0 (c : Ev.Callee) (l : Ev.Looper) (s : St) : evC c l lp130_0 s = evC c l lb130_0 s := rfl
abbrev st130_0 (m : Nat) (s3 s8 s9 s10 : AV) (h : Heap) : St := ⟨m, [.unk, .unk, .unk, s3, .unk, .unk, .unk, .unk, s8, s9, s10, .unk, .unk, .unk, .unk, .unk, .unk, .unk, .unk, .unk, .unk, .unk, .unk, .unk, .unk, .unk, .unk, .unk, .unk, .unk], h⟩
@[go_sem] theorem ks130_0 (v0 v1 v2 v3 v4 v5 v6 v7 v8 v9 v10 v11 v12 v13 v14 v15 v16 v17 v18 v19 v20 v21 v22 v23 v24 v25 v26 v27 v28 v29 : AV) : keepS [3, 8, 9, 10] [v0, v1, v2, v3, v4, v5, v6, v7, v8, v9, v10, v11, v12, v13, v14, v15, v16, v17, v18, v19, v20, v21, v22, v23, v24, v25, v26, v27, v28, v29] 0 = [.unk, .unk, .unk, v3, .unk, .unk, .unk, .unk, v8, v9, v10, .unk, .unk, .unk, .unk, .unk, .unk, .unk, .unk, .unk, .unk, .unk, .unk, .unk, .unk, .unk, .unk, .unk, .unk, .unk] := rfl
@[go_sem] theorem ks130_1 (v0 v1 v2 v3 v4 v5 v6 v7 v8 v9 v10 v11 v12 v13 v14 v15 v16 v17 v18 v19 v20 v21 v22 v23 v24 v25 v26 v27 v28 v29 : AV) : keepS [3] [v0, v1, v2, v3, v4, v5, v6, v7, v8, v9, v10, v11, v12, v13, v14, v15, v16, v17, v18, v19, v20, v21, v22, v23, v24, v25, v26, v27, v28, v29] 0 = [.unk, .unk, .unk, v3, .unk, .unk, .unk, .unk, .unk, .unk, .unk, .unk, .unk, .unk, .unk, .unk, .unk, .unk, .unk, .unk, .unk, .unk, .unk, .unk, .unk, .unk, .unk, .unk, .unk, .unk] := rfl
/-- spence/text.Lower -/
def bd130 : C :=
 (.seq (.reg [⟨some 2, none, .mv (.c (.d (.str []))), .none⟩])
 (.seq (.reg [⟨some 6, none, .mv (.s 0), .none⟩,
 ⟨some 7, none, .s2b 5 (.s 6), .none⟩,
 ⟨some 3, none, .mv (.s 7), .none⟩])
 (.seq (.seq (.reg [⟨some 8, none, .mv (.s 3), .none⟩,
 ⟨some 9, none, .len (.s 8), .none⟩,
 ⟨some 10, none, .mv (.c (.d (.int .i64 0))), .none⟩])
 (.block 0 (.loop [3, 8, 9, 10] lp130_0)))
 (.seq (.reg [⟨some 28, none, .mv (.s 3), .none⟩,
 ⟨some 29, none, .b2s (.s 28), .none⟩,
 ⟨some 2, none, .mv (.s 29), .none⟩])
 (.ret none)))))
def ir130 : F := { n := 30, res := [.tmp 2], body := bd130 }
@[go_sem] theorem n130 : ir130.n = 30 := rfl
@[go_sem] theorem r130 : ir130.res = [.tmp 2] := rfl
@[go_sem] theorem b130 : ir130.body = bd130 := rfl
def lb131_0 : C :=
 (.seq (.reg [⟨some 12, none, .bin .lss (.s 11) (.s 10), .none⟩])
 (.seq (.cond (.s 12)
 .skip
 (.exit 0 (some [0, 4, 5])))
 (.seq (.block 1 (.seq (.reg [⟨some 13, none, .mv (.s 11), .none⟩,
 ⟨some 6, none, .mv (.s 13), .none⟩])
 (.seq (.reg [⟨some 15, none, .mv (.s 0), .none⟩,
 ⟨some 16, none, .mv (.s 6), .none⟩,
 ⟨some 17, none, .sti (.s 15) (.s 16), .none⟩,
 ⟨some 18, none, .call 148 [.s 17] 2, .none⟩,
 ⟨some 14, none, .mv (.s 18), .none⟩,
 ⟨some 19, none, .ext (.s 14) 0, .none⟩,
 ⟨some 20, none, .ext (.s 14) 1, .none⟩,
 ⟨some 7, none, .mv (.s 19), .none⟩,
 ⟨some 8, none, .mv (.s 20), .none⟩])
 (.seq (.block 2 (.seq (.reg [⟨some 22, none, .mv (.s 8), .none⟩,
 ⟨some 23, none, .un .not (.s 22), .none⟩,
 ⟨some 21, none, .mv (.s 23), .none⟩])
 (.cond (.s 21)
 (.seq (.reg [⟨some 2, none, .mv (.c (.d (.int .i64 0))), .none⟩,
 ⟨some 3, none, .mv (.c (.d (.int .i64 3))), .none⟩])
 (.ret (some [2, 3])))
 (.seq (.reg [⟨some 25, none, .mv (.s 5), .none⟩,
 ⟨some 24, none, .mv (.s 25), .none⟩])
 (.cond (.s 24)
 (.exit 1 none)
 .skip)))))
 (.seq (.seq (.reg [⟨some 26, none, .mv (.s 4), .none⟩,
 ⟨some 27, none, .mv (.s 7), .none⟩,
 ⟨some 28, none, .bin .sub (.c (.d (.int .i64 4611686018427387903))) (.s 27), .none⟩,
 ⟨some 29, none, .bin .quo (.s 28) (.c (.d (.int .i64 10))), .none⟩,
 ⟨some 30, none, .bin .gtr (.s 26) (.s 29), .none⟩])
 (.cond (.s 30)
 (.seq (.reg [⟨some 5, none, .mv (.c (.d (.bool true))), .none⟩])
 (.exit 1 none))
 .skip))
 (.reg [⟨some 31, none, .mv (.s 4), .none⟩,
 ⟨some 32, none, .bin .mul (.c (.d (.int .i64 10))) (.s 31), .none⟩,
 ⟨some 33, none, .mv (.s 7), .none⟩,
 ⟨some 34, none, .bin .add (.s 32) (.s 33), .none⟩,
 ⟨some 4, none, .mv (.s 34), .none⟩]))))))
 (.reg [⟨some 35, none, .bin .add (.s 11) (.c (.d (.int .i64 1))), .none⟩,
 ⟨some 11, none, .mv (.s 35), .none⟩]))))
def lp131_0 : C := lb131_0
theorem u131_0 (c : Ev.Callee) (l : Ev.Looper) (s : St) : evC c l lp131_0 s = evC c l lb131_0 s := rfl
abbrev st131_0 (m : Nat) (s0 s4 s5 s10 s11 : AV) (h : Heap) : St := ⟨m, [s0, .unk, .unk, .unk, s4, s5, .unk, .unk, .unk, .unk, s10, s11, .unk, .unk, .unk, .unk, .unk, .unk, .unk, .unk, .unk, .unk, .unk, .unk, .unk, .unk, .unk, .unk, .unk, .unk, .unk, .unk, .unk, .unk, .unk, .unk, .unk, .unk, .unk, .unk, .unk, .unk], h⟩
@[go_sem] theorem ks131_0 (v0 v1 v2 v3 v4 v5 v6 v7 v8 v9 v10 v11 v12 v13 v14 v15 v16 v17 v18 v19 v20 v21 v22 v23 v24 v25 v26 v27 v28 v29 v30 v31 v32 v33 v34 v35 v36 v37 v38 v39 v40 v41 : AV) : keepS [0, 4, 5, 10, 11] [v0, v1, v2, v3, v4, v5, v6, v7, v8, v9, v10, v11, v12, v13, v14, v15, v16, v17, v18, v19, v20, v21, v22, v23, v24, v25, v26, v27, v28, v29, v30, v31, v32, v33, v34, v35, v36, v37, v38, v39, v40, v41] 0 = [v0, .unk, .unk, .unk, v4, v5, .unk, .unk, .unk, .unk, v10, v11, .unk, .unk, .unk, .unk, .unk, .unk, .unk, .unk, .unk, .unk, .unk, .unk, .unk, .unk, .unk, .unk, .unk, .unk, .unk, .unk, .unk, .unk, .unk, .unk, .unk, .unk, .unk, .unk, .unk, .unk] := rfl
@[go_sem] theorem ks131_1 (v0 v1 v2 v3 v4 v5 v6 v7 v8 v9 v10 v11 v12 v13 v14 v15 v16 v17 v18 v19 v20 v21 v22 v23 v24 v25 v26 v27 v28 v29 v30 v31 v32 v33 v34 v35 v36 v37 v38 v39 v40 v41 : AV) : keepS [0, 4, 5] [v0, v1, v2, v3, v4, v5, v6, v7, v8, v9, v10, v11, v12, v13, v14, v15, v16, v17, v18, v19, v20, v21, v22, v23, v24, v25, v26, v27, v28, v29, v30, v31, v32, v33, v34, v35, v36, v37, v38, v39, v40, v41] 0 = [v0, .unk, .unk, .unk, v4, v5, .unk, .unk, .unk, .unk, .unk, .unk, .unk, .unk, .unk, .unk, .unk, .unk, .unk, .unk, .unk, .unk, .unk, .unk, .unk, .unk, .unk, .unk, .unk, .unk, .unk, .unk, .unk, .unk, .unk, .unk, .unk, .unk, .unk, .unk, .unk, .unk] := rfl
@[go_sem] theorem ks131_2 (v0 v1 v2 v3 v4 v5 v6 v7 v8 v9 v10 v11 v12 v13 v14 v15 v16 v17 v18 v19 v20 v21 v22 v23 v24 v25 v26 v27 v28 v29 v30 v31 v32 v33 v34 v35 v36 v37 v38 v39 v40 v41 : AV) : keepS [2, 3] [v0, v1, v2, v3, v4, v5, v6, v7, v8, v9, v10, v11, v12, v13, v14, v15, v16, v17, v18, v19, v20, v21, v22, v23, v24, v25, v26, v27, v28, v29, v30, v31, v32, v33, v34, v35, v36, v37, v38, v39, v40, v41] 0 = [.unk, .unk, v2, v3, .unk, .unk, .unk, .unk, .unk, .unk, .unk, .unk, .unk, .unk, .unk, .unk, .unk, .unk, .unk, .unk, .unk, .unk, .unk, .unk, .unk, .unk, .unk, .unk, .unk, .unk, .unk, .unk, .unk, .unk, .unk, .unk, .unk, .unk, .unk, .unk, .unk, .unk] := rfl
/-- spence/nums.Parse -/
def bd131 : C :=
 (.seq (.reg [⟨some 2, none, .mv (.c (.d (.int .i64 0))), .none⟩,
 ⟨some 3, none, .mv (.c (.d (.int .i64 0))), .none⟩])
 (.scp (.seq (.reg [⟨some 4, none, .mv (.c (.d (.int .i64 0))), .none⟩,
 ⟨some 5, none, .mv (.c (.d (.bool false))), .none⟩])
 (.seq .skip
 (.seq (.seq (.reg [⟨some 9, none, .mv (.s 0), .none⟩,
 ⟨some 10, none, .lens (.s 9), .none⟩,
 ⟨some 11, none, .mv (.c (.d (.int .i64 0))), .none⟩])
 (.block 0 (.loop [0, 4, 5, 10, 11] lp131_0)))
 (.seq (.block 3 (.seq (.reg [⟨some 37, none, .mv (.s 0), .none⟩,
 ⟨some 38, none, .bin .eql (.s 37) (.c (.d (.str []))), .none⟩,
 ⟨some 36, none, .mv (.s 38), .none⟩])
 (.cond (.s 36)
 (.seq (.reg [⟨some 2, none, .mv (.c (.d (.int .i64 0))), .none⟩,
 ⟨some 3, none, .mv (.c (.d (.int .i64 3))), .none⟩])
 (.ret none))
 (.seq (.reg [⟨some 40, none, .mv (.s 5), .none⟩,
 ⟨some 39, none, .mv (.s 40), .none⟩])
 (.cond (.s 39)
 (.seq (.reg [⟨some 2, none, .mv (.c (.d (.int .i64 0))), .none⟩,
 ⟨some 3, none, .mv (.c (.d (.int .i64 9))), .none⟩])
 (.ret none))
 .skip)))))
 (.seq (.reg [⟨some 41, none, .mv (.s 4), .none⟩,
 ⟨some 2, none, .mv (.s 41), .none⟩,
 ⟨some 3, none, .mv (.c (.d (.int .i64 0))), .none⟩])
 (.ret none))))))))
def ir131 : F := { n := 42, res := [.tmp 2, .tmp 3], body := bd131 }
@[go_sem] theorem n131 : ir131.n = 42 := rfl
@[go_sem] theorem r131 : ir131.res = [.tmp 2, .tmp 3] := rfl
@[go_sem] theorem b131 : ir131.body = bd131 := rfl
/-- spence/spec.single -/
def bd132 : C :=
 (.seq (.reg [⟨some 4, none, .alloc 72 [.int .i64 0, .int .i64 0, .int .i64 0], .none⟩,
 ⟨some 5, none, .mv (.c (.d (.int .i64 0))), .none⟩])
 (.seq (.reg [⟨some 9, none, .mv (.s 1), .none⟩,
 ⟨some 10, none, .call 131 [.s 9] 2, .none⟩,
 ⟨some 8, none, .mv (.s 10), .none⟩,
 ⟨some 11, none, .ext (.s 8) 0, .none⟩,
 ⟨some 12, none, .ext (.s 8) 1, .none⟩,
 ⟨some 6, none, .mv (.s 11), .none⟩,
 ⟨some 7, none, .mv (.s 12), .none⟩])
 (.seq (.seq (.reg [⟨some 13, none, .mv (.s 7), .none⟩,
 ⟨some 14, none, .bin .neq (.s 13) (.c (.d (.int .i64 0))), .none⟩])
 (.cond (.s 14)
 (.seq (.reg [⟨some 15, none, .build [.int .i64 0, .int .i64 0, .int .i64 0] [], .none⟩,
 ⟨some 16, none, .mv (.s 7), .none⟩,
 ⟨none, none, .st (.s 4) (.s 15) 3, .none⟩,
 ⟨some 5, none, .mv (.s 16), .none⟩])
 (.ret none))
 .skip))
 (.seq (.reg [⟨some 17, none, .mv (.s 0), .none⟩,
 ⟨some 18, none, .mv (.s 6), .none⟩,
 ⟨some 19, none, .build [.int .i64 0, .int .i64 0, .int .i64 0] [(0, (1, .s 17)), (1, (1, .s 18))], .none⟩,
 ⟨none, none, .st (.s 4) (.s 19) 3, .none⟩,
 ⟨some 5, none, .mv (.c (.d (.int .i64 0))), .none⟩])
 (.ret none)))))
def ir132 : F := { n := 20, res := [.cell 4 3 true, .tmp 5], body := bd132 }
@[go_sem] theorem n132 : ir132.n = 20 := rfl
@[go_sem] theorem r132 : ir132.res = [.cell 4 3 true, .tmp 5] := rfl
@[go_sem] theorem b132 : ir132.body = bd132 := rfl
/-- spence/spec.both -/
def bd133 : C :=
 (.seq (.reg [⟨some 4, none, .alloc 72 [.int .i64 0, .int .i64 0, .int .i64 0], .none⟩,
 ⟨some 5, none, .mv (.c (.d (.int .i64 0))), .none⟩])
 (.seq (.reg [⟨some 12, none, .mv (.s 0), .none⟩,
 ⟨some 13, none, .call 131 [.s 12] 2, .none⟩,
 ⟨some 11, none, .mv (.s 13), .none⟩,
 ⟨some 14, none, .ext (.s 11) 0, .none⟩,
 ⟨some 15, none, .ext (.s 11) 1, .none⟩,
 ⟨some 6, none, .mv (.s 14), .none⟩,
 ⟨some 7, none, .mv (.s 15), .none⟩])
 (.seq (.reg [⟨some 17, none, .mv (.s 1), .none⟩,
 ⟨some 18, none, .call 131 [.s 17] 2, .none⟩,
 ⟨some 16, none, .mv (.s 18), .none⟩,
 ⟨some 19, none, .ext (.s 16) 0, .none⟩,
 ⟨some 20, none, .ext (.s 16) 1, .none⟩,
 ⟨some 8, none, .mv (.s 19), .none⟩,
 ⟨some 9, none, .mv (.s 20), .none⟩])
 (.seq (.reg [⟨some 21, none, .mv (.s 6), .none⟩,
 ⟨some 22, none, .mv (.s 8), .none⟩,
 ⟨some 23, none, .build [.int .i64 0, .int .i64 0, .int .i64 0] [(0, (1, .c (.d (.int .i64 2)))), (1, (1, .s 21)), (2, (1, .s 22))], .none⟩,
 ⟨some 10, none, .alloc 72 [.int .i64 0, .int .i64 0, .int .i64 0], .none⟩,
 ⟨none, none, .st (.s 10) (.s 23) 3, .none⟩])
 (.seq (.seq (.reg [⟨some 24, none, .mv (.s 7), .none⟩,
 ⟨some 25, none, .mv (.s 9), .none⟩,
 ⟨some 26, none, .call 111 [.s 24, .s 25] 2, .none⟩,
 ⟨some 7, none, .mv (.s 26), .none⟩])
 (.seq (.reg [⟨some 27, none, .mv (.s 7), .none⟩,
 ⟨some 28, none, .bin .neq (.s 27) (.c (.d (.int .i64 0))), .none⟩])
 (.cond (.s 28)
 (.seq (.reg [⟨some 29, none, .build [.int .i64 0, .int .i64 0, .int .i64 0] [], .none⟩,
 ⟨some 30, none, .mv (.s 7), .none⟩,
 ⟨some 31, none, .mv (.s 0), .none⟩,
 ⟨some 32, none, .mv (.s 1), .none⟩,
 ⟨some 33, none, .call 149 [.s 30, .s 31, .s 32] 2, .none⟩,
 ⟨none, none, .st (.s 4) (.s 29) 3, .none⟩,
 ⟨some 5, none, .mv (.s 33), .none⟩])
 (.ret none))
 .skip)))
 (.seq (.seq (.reg [⟨some 34, none, .mv (.s 8), .none⟩,
 ⟨some 35, none, .mv (.s 6), .none⟩,
 ⟨some 36, none, .bin .lss (.s 34) (.s 35), .none⟩])
 (.cond (.s 36)
 (.seq (.reg [⟨some 37, none, .build [.int .i64 0, .int .i64 0, .int .i64 0] [], .none⟩,
 ⟨none, none, .st (.s 4) (.s 37) 3, .none⟩,
 ⟨some 5, none, .mv (.c (.d (.int .i64 3))), .none⟩])
 (.ret none))
 .skip))
 (.seq (.reg [⟨some 38, none, .ld (.s 10) 3 true, .none⟩,
 ⟨none, none, .st (.s 4) (.s 38) 3, .none⟩,
 ⟨some 5, none, .mv (.c (.d (.int .i64 0))), .none⟩])
 (.ret none))))))))
def ir133 : F := { n := 39, res := [.cell 4 3 true, .tmp 5], body := bd133 }
@[go_sem] theorem n133 : ir133.n = 39 := rfl
@[go_sem] theorem r133 : ir133.res = [.cell 4 3 true, .tmp 5] := rfl
@[go_sem] theorem b133 : ir133.body = bd133 := rfl
/-- internal/stringslite.CutPrefix -/
def bd134 : C :=
 (.seq (.reg [⟨some 4, none, .mv (.c (.d (.str []))), .none⟩,
 ⟨some 5, none, .mv (.c (.d (.bool false))), .none⟩])
 (.seq (.seq (.reg [⟨some 6, none, .mv (.s 0), .none⟩,
 ⟨some 7, none, .mv (.s 1), .none⟩,
 ⟨some 8, none, .call 150 [.s 6, .s 7] 2, .none⟩,
 ⟨some 9, none, .un .not (.s 8), .none⟩])
 (.cond (.s 9)
 (.seq (.reg [⟨some 10, none, .mv (.s 0), .none⟩,
 ⟨some 4, none, .mv (.s 10), .none⟩,
 ⟨some 5, none, .mv (.c (.d (.bool false))), .none⟩])
 (.ret none))
 .skip))
 (.seq (.reg [⟨some 11, none, .mv (.s 0), .none⟩,
 ⟨some 12, none, .mv (.s 1), .none⟩,
 ⟨some 13, none, .lens (.s 12), .none⟩,
 ⟨some 14, none, .ssl (.s 11) (some (.s 13)) none, .none⟩,
 ⟨some 4, none, .mv (.s 14), .none⟩,
 ⟨some 5, none, .mv (.c (.d (.bool true))), .none⟩])
 (.ret none))))
def ir134 : F := { n := 15, res := [.tmp 4, .tmp 5], body := bd134 }
@[go_sem] theorem n134 : ir134.n = 15 := rfl
@[go_sem] theorem r134 : ir134.res = [.tmp 4, .tmp 5] := rfl
@[go_sem] theorem b134 : ir134.body = bd134 := rfl
/-- spence/etag.may -/
def bd135 : C :=
 (.seq (.reg [⟨some 2, none, .mv (.c (.d (.bool false))), .none⟩])
 (.seq (.block 0 (.seq (.block 3 (.seq (.block 2 (.block 1 (.seq (.seq (.seq (.reg [⟨some 4, none, .mv (.s 0), .none⟩,
 ⟨some 5, none, .bin .geq (.s 4) (.c (.d (.int .u8 128))), .none⟩,
 ⟨some 3, none, .mv (.s 5), .none⟩])
 (.cond (.s 3)
 (.exit 1 none)
 .skip))
 (.seq (.seq (.reg [⟨some 7, none, .mv (.s 0), .none⟩,
 ⟨some 8, none, .bin .eql (.s 7) (.c (.d (.int .u8 33))), .none⟩,
 ⟨some 6, none, .mv (.s 8), .none⟩])
 (.cond (.s 6)
 (.exit 2 none)
 .skip))
 (.seq (.reg [⟨some 10, none, .mv (.s 0), .none⟩,
 ⟨some 11, none, .bin .eql (.s 10) (.c (.d (.int .u8 127))), .none⟩,
 ⟨some 9, none, .mv (.s 11), .none⟩])
 (.cond (.s 9)
 (.exit 3 none)
 .skip))))
 (.exit 0 none))))
 (.seq (.seq (.reg [⟨some 2, none, .mv (.c (.d (.bool true))), .none⟩])
 (.ret none))
 (.exit 0 none))))
 (.seq (.seq (.reg [⟨some 2, none, .mv (.c (.d (.bool false))), .none⟩])
 (.ret none))
 (.exit 0 none))))
 (.seq (.reg [⟨some 12, none, .mv (.s 0), .none⟩,
 ⟨some 13, none, .bin .geq (.s 12) (.c (.d (.int .u8 35))), .none⟩,
 ⟨some 2, none, .mv (.s 13), .none⟩])
 (.ret none))))
def ir135 : F := { n := 14, res := [.tmp 2], body := bd135 }
@[go_sem] theorem n135 : ir135.n = 14 := rfl
@[go_sem] theorem r135 : ir135.res = [.tmp 2] := rfl
@[go_sem] theorem b135 : ir135.body = bd135 := rfl
/-- spence/nums.digit -/
def bd148 : C :=
 (.seq (.reg [⟨some 2, none, .mv (.c (.d (.int .i64 0))), .none⟩,
 ⟨some 3, none, .mv (.c (.d (.bool false))), .none⟩])
 (.seq (.seq (.reg [⟨some 4, none, .mv (.s 0), .none⟩,
 ⟨some 5, none, .bin .lss (.s 4) (.c (.d (.int .u8 48))), .none⟩,
 ⟨some 6, none, .mv (.s 5), .none⟩,
 ⟨some 7, some (6, false), .mv (.s 0), .none⟩,
 ⟨some 8, some (6, false), .bin .gtr (.s 7) (.c (.d (.int .u8 57))), .none⟩,
 ⟨some 9, none, .pick (.s 6) (.c (.d (.bool true))) (.s 8), .none⟩])
 (.cond (.s 9)
 (.seq (.reg [⟨some 2, none, .mv (.c (.d (.int .i64 0))), .none⟩,
 ⟨some 3, none, .mv (.c (.d (.bool false))), .none⟩])
 (.ret none))
 .skip))
 (.seq (.reg [⟨some 10, none, .mv (.s 0), .none⟩,
 ⟨some 11, none, .bin .sub (.s 10) (.c (.d (.int .u8 48))), .none⟩,
 ⟨some 12, none, .cvi .i64 (.s 11), .none⟩,
 ⟨some 2, none, .mv (.s 12), .none⟩,
 ⟨some 3, none, .mv (.c (.d (.bool true))), .none⟩])
 (.ret none))))
def ir148 : F := { n := 13, res := [.tmp 2, .tmp 3], body := bd148 }
@[go_sem] theorem n148 : ir148.n = 13 := rfl
@[go_sem] theorem r148 : ir148.res = [.tmp 2, .tmp 3] := rfl
@[go_sem] theorem b148 : ir148.body = bd148 := rfl
/-- spence/spec.late -/
def bd149 : C :=
 (.seq (.reg [⟨some 6, none, .mv (.c (.d (.int .i64 0))), .none⟩])
 (.seq (.reg [⟨some 7, none, .mv (.s 1), .none⟩,
 ⟨some 8, none, .call 158 [.s 7] 2, .none⟩,
 ⟨some 9, none, .mv (.s 2), .none⟩,
 ⟨some 10, none, .call 158 [.s 9] 2, .none⟩,
 ⟨some 1, none, .mv (.s 8), .none⟩,
 ⟨some 2, none, .mv (.s 10), .none⟩])
 (.seq (.seq (.reg [⟨some 11, none, .mv (.s 0), .none⟩,
 ⟨some 12, none, .bin .eql (.s 11) (.c (.d (.int .i64 9))), .none⟩,
 ⟨some 13, none, .mv (.s 12), .none⟩,
 ⟨some 14, some (13, true), .mv (.s 2), .none⟩,
 ⟨some 15, some (13, true), .lens (.s 14), .none⟩,
 ⟨some 16, some (13, true), .mv (.s 1), .none⟩,
 ⟨some 17, some (13, true), .lens (.s 16), .none⟩,
 ⟨some 18, some (13, true), .bin .lss (.s 15) (.s 17), .none⟩,
 ⟨some 19, some (13, true), .mv (.s 18), .none⟩,
 ⟨some 20, some (19, false), .mv (.s 2), .none⟩,
 ⟨some 21, some (19, false), .lens (.s 20), .none⟩,
 ⟨some 22, some (19, false), .mv (.s 1), .none⟩,
 ⟨some 23, some (19, false), .lens (.s 22), .none⟩,
 ⟨some 24, some (19, false), .bin .eql (.s 21) (.s 23), .none⟩,
 ⟨some 25, some (19, false), .mv (.s 24), .none⟩,
 ⟨some 26, some (25, true), .mv (.s 2), .none⟩,
 ⟨some 27, some (25, true), .mv (.s 1), .none⟩,
 ⟨some 28, some (25, true), .bin .lss (.s 26) (.s 27), .none⟩,
 ⟨some 29, some (19, false), .pick (.s 25) (.s 28) (.c (.d (.bool false))), .none⟩,
 ⟨some 30, some (13, true), .pick (.s 19) (.c (.d (.bool true))) (.s 29), .none⟩,
 ⟨some 31, none, .pick (.s 13) (.s 30) (.c (.d (.bool false))), .none⟩])
 (.cond (.s 31)
 (.seq (.reg [⟨some 6, none, .mv (.c (.d (.int .i64 3))), .none⟩])
 (.ret none))
 .skip))
 (.seq (.reg [⟨some 32, none, .mv (.s 0), .none⟩,
 ⟨some 6, none, .mv (.s 32), .none⟩])
 (.ret none)))))
def ir149 : F := { n := 33, res := [.tmp 6], body := bd149 }
@[go_sem] theorem n149 : ir149.n = 33 := rfl
@[go_sem] theorem r149 : ir149.res = [.tmp 6] := rfl
@[go_sem] theorem b149 : ir149.body = bd149 := rfl
/-- internal/stringslite.HasPrefix -/
def bd150 : C :=
 (.seq (.reg [⟨some 4, none, .mv (.c (.d (.bool false))), .none⟩])
 (.seq (.reg [⟨some 5, none, .mv (.s 0), .none⟩,
 ⟨some 6, none, .lens (.s 5), .none⟩,
 ⟨some 7, none, .mv (.s 1), .none⟩,
 ⟨some 8, none, .lens (.s 7), .none⟩,
 ⟨some 9, none, .bin .geq (.s 6) (.s 8), .none⟩,
 ⟨some 10, none, .mv (.s 9), .none⟩,
 ⟨some 11, some (10, true), .mv (.s 0), .none⟩,
 ⟨some 12, some (10, true), .mv (.s 1), .none⟩,
 ⟨some 13, some (10, true), .lens (.s 12), .none⟩,
 ⟨some 14, some (10, true), .ssl (.s 11) none (some (.s 13)), .none⟩,
 ⟨some 15, some (10, true), .mv (.s 1), .none⟩,
 ⟨some 16, some (10, true), .bin .eql (.s 14) (.s 15), .none⟩,
 ⟨some 17, none, .pick (.s 10) (.s 16) (.c (.d (.bool false))), .none⟩,
 ⟨some 4, none, .mv (.s 17), .none⟩])
 (.ret none)))
def ir150 : F := { n := 18, res := [.tmp 4], body := bd150 }
@[go_sem] theorem n150 : ir150.n = 18 := rfl
@[go_sem] theorem r150 : ir150.res = [.tmp 4] := rfl
@[go_sem] theorem b150 : ir150.body = bd150 := rfl
/-- spence/spec.bare -/
def bd158 : C :=
 (.seq (.reg [⟨some 2, none, .mv (.c (.d (.str []))), .none⟩])
 (.seq (.reg [⟨some 3, none, .mv (.s 0), .none⟩,
 ⟨some 4, none, .call 164 [.s 3, .c (.d (.str [48]))] 2, .none⟩,
 ⟨some 2, none, .mv (.s 4), .none⟩])
 (.ret none)))
def ir158 : F := { n := 5, res := [.tmp 2], body := bd158 }
@[go_sem] theorem n158 : ir158.n = 5 := rfl
@[go_sem] theorem r158 : ir158.res = [.tmp 2] := rfl
@[go_sem] theorem b158 : ir158.body = bd158 := rfl
/-- internal/bytealg.Cutover -/
def bd162 : C :=
 (.seq (.reg [⟨some 2, none, .mv (.c (.d (.int .i64 0))), .none⟩])
 (.seq (.reg [⟨some 3, none, .mv (.s 0), .none⟩,
 ⟨some 4, none, .bin .add (.s 3) (.c (.d (.int .i64 16))), .none⟩,
 ⟨some 5, none, .bin .quo (.s 4) (.c (.d (.int .i64 8))), .none⟩,
 ⟨some 2, none, .mv (.s 5), .none⟩])
 (.ret none)))
def ir162 : F := { n := 6, res := [.tmp 2], body := bd162 }
@[go_sem] theorem n162 : ir162.n = 6 := rfl
@[go_sem] theorem r162 : ir162.res = [.tmp 2] := rfl
@[go_sem] theorem b162 : ir162.body = bd162 := rfl
/-- strings.TrimLeft -/
def bd164 : C :=
 (.seq (.reg [⟨some 4, none, .mv (.c (.d (.str []))), .none⟩])
 (.seq (.seq (.reg [⟨some 7, none, .mv (.s 0), .none⟩,
 ⟨some 8, none, .bin .eql (.s 7) (.c (.d (.str []))), .none⟩,
 ⟨some 9, none, .mv (.s 8), .none⟩,
 ⟨some 10, some (9, false), .mv (.s 1), .none⟩,
 ⟨some 11, some (9, false), .bin .eql (.s 10) (.c (.d (.str []))), .none⟩,
 ⟨some 12, none, .pick (.s 9) (.c (.d (.bool true))) (.s 11), .none⟩])
 (.cond (.s 12)
 (.seq (.reg [⟨some 13, none, .mv (.s 0), .none⟩,
 ⟨some 4, none, .mv (.s 13), .none⟩])
 (.ret none))
 .skip))
 (.seq (.seq (.reg [⟨some 14, none, .mv (.s 1), .none⟩,
 ⟨some 15, none, .lens (.s 14), .none⟩,
 ⟨some 16, none, .bin .eql (.s 15) (.c (.d (.int .i64 1))), .none⟩,
 ⟨some 17, none, .mv (.s 16), .none⟩,
 ⟨some 18, some (17, true), .mv (.s 1), .none⟩,
 ⟨some 19, some (17, true), .sti (.s 18) (.c (.d (.int .i64 0))), .none⟩,
 ⟨some 20, some (17, true), .bin .lss (.s 19) (.c (.d (.int .u8 128))), .none⟩,
 ⟨some 21, none, .pick (.s 17) (.s 20) (.c (.d (.bool false))), .none⟩])
 (.cond (.s 21)
 (.seq (.reg [⟨some 22, none, .mv (.s 0), .none⟩,
 ⟨some 23, none, .mv (.s 1), .none⟩,
 ⟨some 24, none, .sti (.s 23) (.c (.d (.int .i64 0))), .none⟩,
 ⟨some 25, none, .call 167 [.s 22, .s 24] 2, .none⟩,
 ⟨some 4, none, .mv (.s 25), .none⟩])
 (.ret none))
 .skip))
 (.seq (.seq (.reg [⟨some 27, none, .mv (.s 1), .none⟩,
 ⟨some 28, none, .call 168 [.s 27] 2, .none⟩,
 ⟨some 26, none, .mv (.s 28), .none⟩,
 ⟨some 29, none, .ext (.s 26) 0, .none⟩,
 ⟨some 30, none, .ext (.s 26) 1, .none⟩,
 ⟨some 5, none, .alloc 235 [.bool false, .bool false, .bool false, .bool false, .bool false, .bool false, .bool false, .bool false, .bool false, .bool false, .bool false, .bool false, .bool false, .bool false, .bool false, .bool false, .bool false, .bool false, .bool false, .bool false, .bool false, .bool false, .bool false, .bool false, .bool false, .bool false, .bool false, .bool false, .bool false, .bool false, .bool false, .bool false, .bool false, .bool false, .bool false, .bool false, .bool false, .bool false, .bool false, .bool false, .bool false, .bool false, .bool false, .bool false, .bool false, .bool false, .bool false, .bool false, .bool false, .bool false, .bool false, .bool false, .bool false, .bool false, .bool false, .bool false, .bool false, .bool false, .bool false, .bool false, .bool false, .bool false, .bool false, .bool false, .bool false, .bool false, .bool false, .bool false, .bool false, .bool false, .bool false, .bool false, .bool false, .bool false, .bool false, .bool false, .bool false, .bool false, .bool false, .bool false, .bool false, .bool false, .bool false, .bool false, .bool false, .bool false, .bool false, .bool false, .bool false, .bool false, .bool false, .bool false, .bool false, .bool false, .bool false, .bool false, .bool false, .bool false, .bool false, .bool false, .bool false, .bool false, .bool false, .bool false, .bool false, .bool false, .bool false, .bool false, .bool false, .bool false, .bool false, .bool false, .bool false, .bool false, .bool false, .bool false, .bool false, .bool false, .bool false, .bool false, .bool false, .bool false, .bool false, .bool false, .bool false, .bool false, .bool false, .bool false, .bool false, .bool false, .bool false, .bool false, .bool false, .bool false, .bool false, .bool false, .bool false, .bool false, .bool false, .bool false, .bool false, .bool false, .bool false, .bool false, .bool false, .bool false, .bool false, .bool false, .bool false, .bool false, .bool false, .bool false, .bool false, .bool false, .bool false, .bool false, .bool false, .bool false, .bool false, .bool false, .bool false, .bool false, .bool false, .bool false, .bool false, .bool false, .bool false, .bool false, .bool false, .bool false, .bool false, .bool false, .bool false, .bool false, .bool false, .bool false, .bool false, .bool false, .bool false, .bool false, .bool false, .bool false, .bool false, .bool false, .bool false, .bool false, .bool false, .bool false, .bool false, .bool false, .bool false, .bool false, .bool false, .bool false, .bool false, .bool false, .bool false, .bool false, .bool false, .bool false, .bool false, .bool false, .bool false, .bool false, .bool false, .bool false, .bool false, .bool false, .bool false, .bool false, .bool false, .bool false, .bool false, .bool false, .bool false, .bool false, .bool false, .bool false, .bool false, .bool false, .bool false, .bool false, .bool false, .bool false, .bool false, .bool false, .bool false, .bool false, .bool false, .bool false, .bool false, .bool false, .bool false, .bool false, .bool false, .bool false, .bool false, .bool false, .bool false, .bool false, .bool false, .bool false, .bool false, .bool false, .bool false, .bool false, .bool false, .bool false, .bool false, .bool false, .bool false, .bool false, .bool false, .bool false, .bool false, .bool false], .none⟩,
 ⟨none, none, .st (.s 5) (.s 29) 256, .none⟩,
 ⟨some 6, none, .mv (.s 30), .none⟩])
 (.seq (.reg [⟨some 31, none, .mv (.s 6), .none⟩])
 (.cond (.s 31)
 (.seq (.reg [⟨some 32, none, .mv (.s 0), .none⟩,
 ⟨some 33, none, .call 169 [.s 32, .s 5] 0, .none⟩,
 ⟨some 4, none, .mv (.s 33), .none⟩])
 (.ret none))
 .skip)))
 (.seq (.reg [⟨some 34, none, .mv (.s 0), .none⟩,
 ⟨some 35, none, .mv (.s 1), .none⟩,
 ⟨some 36, none, .call 170 [.s 34, .s 35] 2, .none⟩,
 ⟨some 4, none, .mv (.s 36), .none⟩])
 (.ret none))))))
def ir164 : F := { n := 37, res := [.tmp 4], body := bd164 }
@[go_sem] theorem n164 : ir164.n = 37 := rfl
@[go_sem] theorem r164 : ir164.res = [.tmp 4] := rfl
@[go_sem] theorem b164 : ir164.body = bd164 := rfl
def lb167_0 : C :=
 (.seq (.seq (.reg [⟨some 5, none, .mv (.s 0), .none⟩,
 ⟨some 6, none, .lens (.s 5), .none⟩,
 ⟨some 7, none, .bin .gtr (.s 6) (.c (.d (.int .i64 0))), .none⟩,
 ⟨some 8, none, .mv (.s 7), .none⟩,
 ⟨some 9, some (8, true), .mv (.s 0), .none⟩,
 ⟨some 10, some (8, true), .sti (.s 9) (.c (.d (.int .i64 0))), .none⟩,
 ⟨some 11, some (8, true), .mv (.s 1), .none⟩,
 ⟨some 12, some (8, true), .bin .eql (.s 10) (.s 11), .none⟩,
 ⟨some 13, none, .pick (.s 8) (.s 12) (.c (.d (.bool false))), .none⟩])
 (.cond (.s 13)
 .skip
 (.exit 0 (some [0]))))
 (.block 1 (.reg [⟨some 14, none, .mv (.s 0), .none⟩,
 ⟨some 15, none, .ssl (.s 14) (some (.c (.d (.int .i64 1)))) none, .none⟩,
 ⟨some 0, none, .mv (.s 15), .none⟩])))
def lp167_0 : C := lb167_0
theorem u167_0 (c : Ev.Callee) (l : Ev.Looper) (s : St) : evC c l lp167_0 s = evC c l lb167_0 s := rfl
abbrev st167_0 (m : Nat) (s0 s1 : AV) (h : Heap) : St := ⟨m, [s0, s1, .unk, .unk, .unk, .unk, .unk, .unk, .unk, .unk, .unk, .unk, .unk, .unk, .unk, .unk, .unk], h⟩
@[go_sem] theorem ks167_0 (v0 v1 v2 v3 v4 v5 v6 v7 v8 v9 v10 v11 v12 v13 v14 v15 v16 : AV) : keepS [0, 1] [v0, v1, v2, v3, v4, v5, v6, v7, v8, v9, v10, v11, v12, v13, v14, v15, v16] 0 = [v0, v1, .unk, .unk, .unk, .unk, .unk, .unk, .unk, .unk, .unk, .unk, .unk, .unk, .unk, .unk, .unk] := rfl
@[go_sem] theorem ks167_1 (v0 v1 v2 v3 v4 v5 v6 v7 v8 v9 v10 v11 v12 v13 v14 v15 v16 : AV) : keepS [0] [v0, v1, v2, v3, v4, v5, v6, v7, v8, v9, v10, v11, v12, v13, v14, v15, v16] 0 = [v0, .unk, .unk, .unk, .unk, .unk, .unk, .unk, .unk, .unk, .unk, .unk, .unk, .unk, .unk, .unk, .unk] := rfl
/-- strings.trimLeftByte -/
def bd167 : C :=
 (.seq (.reg [⟨some 4, none, .mv (.c (.d (.str []))), .none⟩])
 (.seq (.block 0 (.loop [0, 1] lp167_0))
 (.seq (.reg [⟨some 16, none, .mv (.s 0), .none⟩,
 ⟨some 4, none, .mv (.s 16), .none⟩])
 (.ret none))))
def ir167 : F := { n := 17, res := [.tmp 4], body := bd167 }
@[go_sem] theorem n167 : ir167.n = 17 := rfl
@[go_sem] theorem r167 : ir167.res = [.tmp 4] := rfl
@[go_sem] theorem b167 : ir167.body = bd167 := rfl
def lb168_0 : C :=
 (.seq (.seq (.reg [⟨some 6, none, .mv (.s 4), .none⟩,
 ⟨some 7, none, .mv (.s 0), .none⟩,
 ⟨some 8, none, .lens (.s 7), .none⟩,
 ⟨some 9, none, .bin .lss (.s 6) (.s 8), .none⟩])
 (.cond (.s 9)
 .skip
 (.exit 0 (some [2]))))
 (.seq (.block 1 (.seq (.reg [⟨some 12, none, .mv (.s 0), .none⟩,
 ⟨some 13, none, .mv (.s 4), .none⟩,
 ⟨some 14, none, .sti (.s 12) (.s 13), .none⟩,
 ⟨some 5, none, .mv (.s 14), .none⟩])
 (.seq (.seq (.reg [⟨some 15, none, .mv (.s 5), .none⟩,
 ⟨some 16, none, .bin .geq (.s 15) (.c (.d (.int .u8 128))), .none⟩])
 (.cond (.s 16)
 (.seq (.reg [⟨some 17, none, .ld (.s 2) 256 true, .none⟩,
 ⟨none, none, .st (.s 2) (.s 17) 256, .none⟩,
 ⟨some 3, none, .mv (.c (.d (.bool false))), .none⟩])
 (.ret (some [2, 3])))
 .skip))
 (.reg [⟨some 18, none, .mv (.s 5), .none⟩,
 ⟨some 19, none, .ia (.s 2) (.s 18) 256 1, .none⟩,
 ⟨none, none, .st (.s 19) (.c (.d (.bool true))) 1, .none⟩]))))
 (.reg [⟨some 10, none, .mv (.s 4), .none⟩,
 ⟨some 11, none, .bin .add (.s 10) (.c (.d (.int .i64 1))), .none⟩,
 ⟨some 4, none, .mv (.s 11), .none⟩])))
def lp168_0 : C := lb168_0
theorem u168_0 (c : Ev.Callee) (l : Ev.Looper) (s : St) : evC c l lp168_0 s = evC c l lb168_0 s := rfl
abbrev st168_0 (m : Nat) (s0 s2 s4 : AV) (h : Heap) : St := ⟨m, [s0, .unk, s2, .unk, s4, .unk, .unk, .unk, .unk, .unk, .unk, .unk, .unk, .unk, .unk, .unk, .unk, .unk, .unk, .unk, .unk], h⟩
@[go_sem] theorem ks168_0 (v0 v1 v2 v3 v4 v5 v6 v7 v8 v9 v10 v11 v12 v13 v14 v15 v16 v17 v18 v19 v20 : AV) : keepS [0, 2, 4] [v0, v1, v2, v3, v4, v5, v6, v7, v8, v9, v10, v11, v12, v13, v14, v15, v16, v17, v18, v19, v20] 0 = [v0, .unk, v2, .unk, v4, .unk, .unk, .unk, .unk, .unk, .unk, .unk, .unk, .unk, .unk, .unk, .unk, .unk, .unk, .unk, .unk] := rfl
@[go_sem] theorem ks168_1 (v0 v1 v2 v3 v4 v5 v6 v7 v8 v9 v10 v11 v12 v13 v14 v15 v16 v17 v18 v19 v20 : AV) : keepS [2] [v0, v1, v2, v3, v4, v5, v6, v7, v8, v9, v10, v11, v12, v13, v14, v15, v16, v17, v18, v19, v20] 0 = [.unk, .unk, v2, .unk, .unk, .unk, .unk, .unk, .unk, .unk, .unk, .unk, .unk, .unk, .unk, .unk, .unk, .unk, .unk, .unk, .unk] := rfl
@[go_sem] theorem ks168_2 (v0 v1 v2 v3 v4 v5 v6 v7 v8 v9 v10 v11 v12 v13 v14 v15 v16 v17 v18 v19 v20 : AV) : keepS [2, 3] [v0, v1, v2, v3, v4, v5, v6, v7, v8, v9, v10, v11, v12, v13, v14, v15, v16, v17, v18, v19, v20] 0 = [.unk, .unk, v2, v3, .unk, .unk, .unk, .unk, .unk, .unk, .unk, .unk, .unk, .unk, .unk, .unk, .unk, .unk, .unk, .unk, .unk] := rfl
/-- strings.makeASCIISet -/
def bd168 : C :=
 (.seq (.reg [⟨some 2, none, .alloc 235 [.bool false, .bool false, .bool false, .bool false, .bool false, .bool false, .bool false, .bool false, .bool false, .bool false, .bool false, .bool false, .bool false, .bool false, .bool false, .bool false, .bool false, .bool false, .bool false, .bool false, .bool false, .bool false, .bool false, .bool false, .bool false, .bool false, .bool false, .bool false, .bool false, .bool false, .bool false, .bool false, .bool false, .bool false, .bool false, .bool false, .bool false, .bool false, .bool false, .bool false, .bool false, .bool false, .bool false, .bool false, .bool false, .bool false, .bool false, .bool false, .bool false, .bool false, .bool false, .bool false, .bool false, .bool false, .bool false, .bool false, .bool false, .bool false, .bool false, .bool false, .bool false, .bool false, .bool false, .bool false, .bool false, .bool false, .bool false, .bool false, .bool false, .bool false, .bool false, .bool false, .bool false, .bool false, .bool false, .bool false, .bool false, .bool false, .bool false, .bool false, .bool false, .bool false, .bool false, .bool false, .bool false, .bool false, .bool false, .bool false, .bool false, .bool false, .bool false, .bool false, .bool false, .bool false, .bool false, .bool false, .bool false, .bool false, .bool false, .bool false, .bool false, .bool false, .bool false, .bool false, .bool false, .bool false, .bool false, .bool false, .bool false, .bool false, .bool false, .bool false, .bool false, .bool false, .bool false, .bool false, .bool false, .bool false, .bool false, .bool false, .bool false, .bool false, .bool false, .bool false, .bool false, .bool false, .bool false, .bool false, .bool false, .bool false, .bool false, .bool false, .bool false, .bool false, .bool false, .bool false, .bool false, .bool false, .bool false, .bool false, .bool false, .bool false, .bool false, .bool false, .bool false, .bool false, .bool false, .bool false, .bool false, .bool false, .bool false, .bool false, .bool false, .bool false, .bool false, .bool false, .bool false, .bool false, .bool false, .bool false, .bool false, .bool false, .bool false, .bool false, .bool false, .bool false, .bool false, .bool false, .bool false, .bool false, .bool false, .bool false, .bool false, .bool false, .bool false, .bool false, .bool false, .bool false, .bool false, .bool false, .bool false, .bool false, .bool false, .bool false, .bool false, .bool false, .bool false, .bool false, .bool false, .bool false, .bool false, .bool false, .bool false, .bool false, .bool false, .bool false, .bool false, .bool false, .bool false, .bool false, .bool false, .bool false, .bool false, .bool false, .bool false, .bool false, .bool false, .bool false, .bool false, .bool false, .bool false, .bool false, .bool false, .bool false, .bool false, .bool false, .bool false, .bool false, .bool false, .bool false, .bool false, .bool false, .bool false, .bool false, .bool false, .bool false, .bool false, .bool false, .bool false, .bool false, .bool false, .bool false, .bool false, .bool false, .bool false, .bool false, .bool false, .bool false, .bool false, .bool false, .bool false, .bool false, .bool false, .bool false, .bool false, .bool false, .bool false, .bool false, .bool false, .bool false, .bool false, .bool false, .bool false, .bool false, .bool false, .bool false], .none⟩,
 ⟨some 3, none, .mv (.c (.d (.bool false))), .none⟩])
 (.seq (.seq (.reg [⟨some 4, none, .mv (.c (.d (.int .i64 0))), .none⟩])
 (.block 0 (.loop [0, 2, 4] lp168_0)))
 (.seq (.reg [⟨some 20, none, .ld (.s 2) 256 true, .none⟩,
 ⟨none, none, .st (.s 2) (.s 20) 256, .none⟩,
 ⟨some 3, none, .mv (.c (.d (.bool true))), .none⟩])
 (.ret none))))
def ir168 : F := { n := 21, res := [.cell 2 256 true, .tmp 3], body := bd168 }
@[go_sem] theorem n168 : ir168.n = 21 := rfl
@[go_sem] theorem r168 : ir168.res = [.cell 2 256 true, .tmp 3] := rfl
@[go_sem] theorem b168 : ir168.body = bd168 := rfl
def lb169_0 : C :=
 (.seq (.seq (.reg [⟨some 5, none, .mv (.s 0), .none⟩,
 ⟨some 6, none, .lens (.s 5), .none⟩,
 ⟨some 7, none, .bin .gtr (.s 6) (.c (.d (.int .i64 0))), .none⟩])
 (.cond (.s 7)
 .skip
 (.exit 0 (some [0]))))
 (.block 1 (.seq (.seq (.reg [⟨some 8, none, .mv (.s 1), .none⟩,
 ⟨some 9, none, .mv (.s 0), .none⟩,
 ⟨some 10, none, .sti (.s 9) (.c (.d (.int .i64 0))), .none⟩,
 ⟨some 11, none, .call 171 [.s 8, .s 10] 0, .none⟩,
 ⟨some 12, none, .un .not (.s 11), .none⟩])
 (.cond (.s 12)
 (.exit 0 (some [0]))
 .skip))
 (.reg [⟨some 13, none, .mv (.s 0), .none⟩,
 ⟨some 14, none, .ssl (.s 13) (some (.c (.d (.int .i64 1)))) none, .none⟩,
 ⟨some 0, none, .mv (.s 14), .none⟩]))))
def lp169_0 : C := lb169_0
theorem u169_0 (c : Ev.Callee) (l : Ev.Looper) (s : St) : evC c l lp169_0 s = evC c l lb169_0 s := rfl
abbrev st169_0 (m : Nat) (s0 s1 : AV) (h : Heap) : St := ⟨m, [s0, s1, .unk, .unk, .unk, .unk, .unk, .unk, .unk, .unk, .unk, .unk, .unk, .unk, .unk, .unk], h⟩
@[go_sem] theorem ks169_0 (v0 v1 v2 v3 v4 v5 v6 v7 v8 v9 v10 v11 v12 v13 v14 v15 : AV) : keepS [0, 1] [v0, v1, v2, v3, v4, v5, v6, v7, v8, v9, v10, v11, v12, v13, v14, v15] 0 = [v0, v1, .unk, .unk, .unk, .unk, .unk, .unk, .unk, .unk, .unk, .unk, .unk, .unk, .unk, .unk] := rfl
@[go_sem] theorem ks169_1 (v0 v1 v2 v3 v4 v5 v6 v7 v8 v9 v10 v11 v12 v13 v14 v15 : AV) : keepS [0] [v0, v1, v2, v3, v4, v5, v6, v7, v8, v9, v10, v11, v12, v13, v14, v15] 0 = [v0, .unk, .unk, .unk, .unk, .unk, .unk, .unk, .unk, .unk, .unk, .unk, .unk, .unk, .unk, .unk] := rfl
/-- strings.trimLeftASCII -/
def bd169 : C :=
 (.seq (.reg [⟨some 4, none, .mv (.c (.d (.str []))), .none⟩])
 (.seq (.block 0 (.loop [0, 1] lp169_0))
 (.seq (.reg [⟨some 15, none, .mv (.s 0), .none⟩,
 ⟨some 4, none, .mv (.s 15), .none⟩])
 (.ret none))))
def ir169 : F := { n := 16, res := [.tmp 4], body := bd169 }
@[go_sem] theorem n169 : ir169.n = 16 := rfl
@[go_sem] theorem r169 : ir169.res = [.tmp 4] := rfl
@[go_sem] theorem b169 : ir169.body = bd169 := rfl
def lb170_0 : C :=
 (.seq (.seq (.reg [⟨some 7, none, .mv (.s 0), .none⟩,
 ⟨some 8, none, .lens (.s 7), .none⟩,
 ⟨some 9, none, .bin .gtr (.s 8) (.c (.d (.int .i64 0))), .none⟩])
 (.cond (.s 9)
 .skip
 (.exit 0 (some [0]))))
 (.block 1 (.seq (.reg [⟨some 11, none, .mv (.s 0), .none⟩,
 ⟨some 12, none, .call 172 [.s 11] 2, .none⟩,
 ⟨some 10, none, .mv (.s 12), .none⟩,
 ⟨some 13, none, .ext (.s 10) 0, .none⟩,
 ⟨some 14, none, .ext (.s 10) 1, .none⟩,
 ⟨some 5, none, .mv (.s 13), .none⟩,
 ⟨some 6, none, .mv (.s 14), .none⟩])
 (.seq (.seq (.reg [⟨some 15, none, .mv (.s 1), .none⟩,
 ⟨some 16, none, .mv (.s 5), .none⟩,
 ⟨some 17, none, .call 173 [.s 15, .s 16] 2, .none⟩,
 ⟨some 18, none, .un .not (.s 17), .none⟩])
 (.cond (.s 18)
 (.exit 0 (some [0]))
 .skip))
 (.reg [⟨some 19, none, .mv (.s 0), .none⟩,
 ⟨some 20, none, .mv (.s 6), .none⟩,
 ⟨some 21, none, .ssl (.s 19) (some (.s 20)) none, .none⟩,
 ⟨some 0, none, .mv (.s 21), .none⟩])))))
def lp170_0 : C := lb170_0
theorem u170_0 (c : Ev.Callee) (l : Ev.Looper) (s : St) : evC c l lp170_0 s = evC c l lb170_0 s := rfl
abbrev st170_0 (m : Nat) (s0 s1 : AV) (h : Heap) : St := ⟨m, [s0, s1, .unk, .unk, .unk, .unk, .unk, .unk, .unk, .unk, .unk, .unk, .unk, .unk, .unk, .unk, .unk, .unk, .unk, .unk, .unk, .unk, .unk], h⟩
@[go_sem] theorem ks170_0 (v0 v1 v2 v3 v4 v5 v6 v7 v8 v9 v10 v11 v12 v13 v14 v15 v16 v17 v18 v19 v20 v21 v22 : AV) : keepS [0, 1] [v0, v1, v2, v3, v4, v5, v6, v7, v8, v9, v10, v11, v12, v13, v14, v15, v16, v17, v18, v19, v20, v21, v22] 0 = [v0, v1, .unk, .unk, .unk, .unk, .unk, .unk, .unk, .unk, .unk, .unk, .unk, .unk, .unk, .unk, .unk, .unk, .unk, .unk, .unk, .unk, .unk] := rfl
@[go_sem] theorem ks170_1 (v0 v1 v2 v3 v4 v5 v6 v7 v8 v9 v10 v11 v12 v13 v14 v15 v16 v17 v18 v19 v20 v21 v22 : AV) : keepS [0] [v0, v1, v2, v3, v4, v5, v6, v7, v8, v9, v10, v11, v12, v13, v14, v15, v16, v17, v18, v19, v20, v21, v22] 0 = [v0, .unk, .unk, .unk, .unk, .unk, .unk, .unk, .unk, .unk, .unk, .unk, .unk, .unk, .unk, .unk, .unk, .unk, .unk, .unk, .unk, .unk, .unk] := rfl
/-- strings.trimLeftUnicode -/
def bd170 : C :=
 (.seq (.reg [⟨some 4, none, .mv (.c (.d (.str []))), .none⟩])
 (.seq (.block 0 (.loop [0, 1] lp170_0))
 (.seq (.reg [⟨some 22, none, .mv (.s 0), .none⟩,
 ⟨some 4, none, .mv (.s 22), .none⟩])
 (.ret none))))
def ir170 : F := { n := 23, res := [.tmp 4], body := bd170 }
@[go_sem] theorem n170 : ir170.n = 23 := rfl
@[go_sem] theorem r170 : ir170.res = [.tmp 4] := rfl
@[go_sem] theorem b170 : ir170.body = bd170 := rfl
/-- (*strings.asciiSet).contains -/
def bd171 : C :=
 (.seq (.reg [⟨some 4, none, .mv (.c (.d (.bool false))), .none⟩])
 (.seq (.reg [⟨some 5, none, .mv (.s 0), .none⟩,
 ⟨some 6, none, .mv (.s 1), .none⟩,
 ⟨some 7, none, .nc (.s 5), .none⟩,
 ⟨some 8, none, .ia (.s 7) (.s 6) 256 1, .none⟩,
 ⟨some 9, none, .ld (.s 8) 1 false, .none⟩,
 ⟨some 4, none, .mv (.s 9), .none⟩])
 (.ret none)))
def ir171 : F := { n := 10, res := [.tmp 4], body := bd171 }
@[go_sem] theorem n171 : ir171.n = 10 := rfl
@[go_sem] theorem r171 : ir171.res = [.tmp 4] := rfl
@[go_sem] theorem b171 : ir171.body = bd171 := rfl
/-- unicode/utf8.DecodeRuneInString -/
def bd172 : C :=
 (.seq (.reg [⟨some 2, none, .mv (.c (.d (.int .i32 0))), .none⟩,
 ⟨some 3, none, .mv (.c (.d (.int .i64 0))), .none⟩])
 (.seq (.seq (.reg [⟨some 4, none, .mv (.s 0), .none⟩,
 ⟨some 5, none, .bin .neq (.s 4) (.c (.d (.str []))), .none⟩,
 ⟨some 6, none, .mv (.s 5), .none⟩,
 ⟨some 7, some (6, true), .mv (.s 0), .none⟩,
 ⟨some 8, some (6, true), .sti (.s 7) (.c (.d (.int .i64 0))), .none⟩,
 ⟨some 9, some (6, true), .bin .lss (.s 8) (.c (.d (.int .u8 128))), .none⟩,
 ⟨some 10, none, .pick (.s 6) (.s 9) (.c (.d (.bool false))), .none⟩])
 (.cond (.s 10)
 (.seq (.reg [⟨some 11, none, .mv (.s 0), .none⟩,
 ⟨some 12, none, .sti (.s 11) (.c (.d (.int .i64 0))), .none⟩,
 ⟨some 13, none, .cvi .i32 (.s 12), .none⟩,
 ⟨some 2, none, .mv (.s 13), .none⟩,
 ⟨some 3, none, .mv (.c (.d (.int .i64 1))), .none⟩])
 (.ret none))
 (.reg [⟨some 15, none, .mv (.s 0), .none⟩,
 ⟨some 16, none, .call 174 [.s 15] 2, .none⟩,
 ⟨some 14, none, .mv (.s 16), .none⟩,
 ⟨some 17, none, .ext (.s 14) 0, .none⟩,
 ⟨some 18, none, .ext (.s 14) 1, .none⟩,
 ⟨some 2, none, .mv (.s 17), .none⟩,
 ⟨some 3, none, .mv (.s 18), .none⟩])))
 (.ret none)))
def ir172 : F := { n := 19, res := [.tmp 2, .tmp 3], body := bd172 }
@[go_sem] theorem n172 : ir172.n = 19 := rfl
@[go_sem] theorem r172 : ir172.res = [.tmp 2, .tmp 3] := rfl
@[go_sem] theorem b172 : ir172.body = bd172 := rfl
/-- strings.ContainsRune -/
def bd173 : C :=
 (.seq (.reg [⟨some 4, none, .mv (.c (.d (.bool false))), .none⟩])
 (.seq (.reg [⟨some 5, none, .mv (.s 0), .none⟩,
 ⟨some 6, none, .mv (.s 1), .none⟩,
 ⟨some 7, none, .call 175 [.s 5, .s 6] 2, .none⟩,
 ⟨some 8, none, .bin .geq (.s 7) (.c (.d (.int .i64 0))), .none⟩,
 ⟨some 4, none, .mv (.s 8), .none⟩])
 (.ret none)))
def ir173 : F := { n := 9, res := [.tmp 4], body := bd173 }
@[go_sem] theorem n173 : ir173.n = 9 := rfl
@[go_sem] theorem r173 : ir173.res = [.tmp 4] := rfl
@[go_sem] theorem b173 : ir173.body = bd173 := rfl
/-- unicode/utf8.decodeRuneInStringSlow -/
def bd174 : C :=
 (.seq (.reg [⟨some 2, none, .mv (.c (.d (.int .i32 0))), .none⟩,
 ⟨some 3, none, .mv (.c (.d (.int .i64 0))), .none⟩])
 (.seq (.reg [⟨some 13, none, .mv (.s 0), .none⟩,
 ⟨some 14, none, .lens (.s 13), .none⟩,
 ⟨some 4, none, .mv (.s 14), .none⟩])
 (.seq (.seq (.reg [⟨some 15, none, .mv (.s 4), .none⟩,
 ⟨some 16, none, .bin .lss (.s 15) (.c (.d (.int .i64 1))), .none⟩])
 (.cond (.s 16)
 (.seq (.reg [⟨some 2, none, .mv (.c (.d (.int .i32 65533))), .none⟩,
 ⟨some 3, none, .mv (.c (.d (.int .i64 0))), .none⟩])
 (.ret none))
 .skip))
 (.seq (.reg [⟨some 17, none, .mv (.s 0), .none⟩,
 ⟨some 18, none, .sti (.s 17) (.c (.d (.int .i64 0))), .none⟩,
 ⟨some 5, none, .mv (.s 18), .none⟩])
 (.seq (.reg [⟨some 19, none, .mv (.s 5), .none⟩,
 ⟨some 20, none, .bad, .none⟩,
 ⟨some 21, none, .ld (.s 20) 1 false, .none⟩,
 ⟨some 6, none, .mv (.s 21), .none⟩])
 (.seq (.seq (.reg [⟨some 22, none, .mv (.s 6), .none⟩,
 ⟨some 23, none, .bin .geq (.s 22) (.c (.d (.int .u8 240))), .none⟩])
 (.cond (.s 23)
 (.seq (.reg [⟨some 24, none, .mv (.s 6), .none⟩,
 ⟨some 25, none, .cvi .i32 (.s 24), .none⟩,
 ⟨some 26, none, .bin .shl (.s 25) (.c (.d (.int .u64 31))), .none⟩,
 ⟨some 27, none, .bin .shr (.s 26) (.c (.d (.int .u64 31))), .none⟩,
 ⟨some 7, none, .mv (.s 27), .none⟩])
 (.seq (.reg [⟨some 28, none, .mv (.s 0), .none⟩,
 ⟨some 29, none, .sti (.s 28) (.c (.d (.int .i64 0))), .none⟩,
 ⟨some 30, none, .cvi .i32 (.s 29), .none⟩,
 ⟨some 31, none, .mv (.s 7), .none⟩,
 ⟨some 32, none, .bin .andNot (.s 30) (.s 31), .none⟩,
 ⟨some 33, none, .mv (.s 7), .none⟩,
 ⟨some 34, none, .bin .and (.c (.d (.int .i32 65533))) (.s 33), .none⟩,
 ⟨some 35, none, .bin .or (.s 32) (.s 34), .none⟩,
 ⟨some 2, none, .mv (.s 35), .none⟩,
 ⟨some 3, none, .mv (.c (.d (.int .i64 1))), .none⟩])
 (.ret none)))
 .skip))
 (.seq (.reg [⟨some 36, none, .mv (.s 6), .none⟩,
 ⟨some 37, none, .bin .and (.s 36) (.c (.d (.int .u8 7))), .none⟩,
 ⟨some 38, none, .cvi .i64 (.s 37), .none⟩,
 ⟨some 8, none, .mv (.s 38), .none⟩])
 (.seq (.reg [⟨some 39, none, .mv (.s 6), .none⟩,
 ⟨some 40, none, .bin .shr (.s 39) (.c (.d (.int .u64 4))), .none⟩,
 ⟨some 41, none, .bad, .none⟩,
 ⟨some 42, none, .ld (.s 41) 2 true, .none⟩,
 ⟨some 9, none, .alloc 246 [.int .u8 0, .int .u8 0], .none⟩,
 ⟨none, none, .st (.s 9) (.s 42) 2, .none⟩])
 (.seq (.seq (.reg [⟨some 43, none, .mv (.s 4), .none⟩,
 ⟨some 44, none, .mv (.s 8), .none⟩,
 ⟨some 45, none, .bin .lss (.s 43) (.s 44), .none⟩])
 (.cond (.s 45)
 (.seq (.reg [⟨some 2, none, .mv (.c (.d (.int .i32 65533))), .none⟩,
 ⟨some 3, none, .mv (.c (.d (.int .i64 1))), .none⟩])
 (.ret none))
 .skip))
 (.seq (.reg [⟨some 46, none, .mv (.s 0), .none⟩,
 ⟨some 47, none, .sti (.s 46) (.c (.d (.int .i64 1))), .none⟩,
 ⟨some 10, none, .mv (.s 47), .none⟩])
 (.seq (.seq (.reg [⟨some 48, none, .mv (.s 10), .none⟩,
 ⟨some 49, none, .fa (.s 9) 0, .none⟩,
 ⟨some 50, none, .ld (.s 49) 1 false, .none⟩,
 ⟨some 51, none, .bin .lss (.s 48) (.s 50), .none⟩,
 ⟨some 52, none, .mv (.s 51), .none⟩,
 ⟨some 53, some (52, false), .fa (.s 9) 1, .none⟩,
 ⟨some 54, some (52, false), .ld (.s 53) 1 false, .none⟩,
 ⟨some 55, some (52, false), .mv (.s 10), .none⟩,
 ⟨some 56, some (52, false), .bin .lss (.s 54) (.s 55), .none⟩,
 ⟨some 57, none, .pick (.s 52) (.c (.d (.bool true))) (.s 56), .none⟩])
 (.cond (.s 57)
 (.seq (.reg [⟨some 2, none, .mv (.c (.d (.int .i32 65533))), .none⟩,
 ⟨some 3, none, .mv (.c (.d (.int .i64 1))), .none⟩])
 (.ret none))
 .skip))
 (.seq (.seq (.reg [⟨some 58, none, .mv (.s 8), .none⟩,
 ⟨some 59, none, .bin .leq (.s 58) (.c (.d (.int .i64 2))), .none⟩])
 (.cond (.s 59)
 (.seq (.reg [⟨some 60, none, .mv (.s 5), .none⟩,
 ⟨some 61, none, .bin .and (.s 60) (.c (.d (.int .u8 31))), .none⟩,
 ⟨some 62, none, .cvi .i32 (.s 61), .none⟩,
 ⟨some 63, none, .bin .shl (.s 62) (.c (.d (.int .u64 6))), .none⟩,
 ⟨some 64, none, .mv (.s 10), .none⟩,
 ⟨some 65, none, .bin .and (.s 64) (.c (.d (.int .u8 63))), .none⟩,
 ⟨some 66, none, .cvi .i32 (.s 65), .none⟩,
 ⟨some 67, none, .bin .or (.s 63) (.s 66), .none⟩,
 ⟨some 2, none, .mv (.s 67), .none⟩,
 ⟨some 3, none, .mv (.c (.d (.int .i64 2))), .none⟩])
 (.ret none))
 .skip))
 (.seq (.reg [⟨some 68, none, .mv (.s 0), .none⟩,
 ⟨some 69, none, .sti (.s 68) (.c (.d (.int .i64 2))), .none⟩,
 ⟨some 11, none, .mv (.s 69), .none⟩])
 (.seq (.seq (.reg [⟨some 70, none, .mv (.s 11), .none⟩,
 ⟨some 71, none, .bin .lss (.s 70) (.c (.d (.int .u8 128))), .none⟩,
 ⟨some 72, none, .mv (.s 71), .none⟩,
 ⟨some 73, some (72, false), .mv (.s 11), .none⟩,
 ⟨some 74, some (72, false), .bin .lss (.c (.d (.int .u8 191))) (.s 73), .none⟩,
 ⟨some 75, none, .pick (.s 72) (.c (.d (.bool true))) (.s 74), .none⟩])
 (.cond (.s 75)
 (.seq (.reg [⟨some 2, none, .mv (.c (.d (.int .i32 65533))), .none⟩,
 ⟨some 3, none, .mv (.c (.d (.int .i64 1))), .none⟩])
 (.ret none))
 .skip))
 (.seq (.seq (.reg [⟨some 76, none, .mv (.s 8), .none⟩,
 ⟨some 77, none, .bin .leq (.s 76) (.c (.d (.int .i64 3))), .none⟩])
 (.cond (.s 77)
 (.seq (.reg [⟨some 78, none, .mv (.s 5), .none⟩,
 ⟨some 79, none, .bin .and (.s 78) (.c (.d (.int .u8 15))), .none⟩,
 ⟨some 80, none, .cvi .i32 (.s 79), .none⟩,
 ⟨some 81, none, .bin .shl (.s 80) (.c (.d (.int .u64 12))), .none⟩,
 ⟨some 82, none, .mv (.s 10), .none⟩,
 ⟨some 83, none, .bin .and (.s 82) (.c (.d (.int .u8 63))), .none⟩,
 ⟨some 84, none, .cvi .i32 (.s 83), .none⟩,
 ⟨some 85, none, .bin .shl (.s 84) (.c (.d (.int .u64 6))), .none⟩,
 ⟨some 86, none, .bin .or (.s 81) (.s 85), .none⟩,
 ⟨some 87, none, .mv (.s 11), .none⟩,
 ⟨some 88, none, .bin .and (.s 87) (.c (.d (.int .u8 63))), .none⟩,
 ⟨some 89, none, .cvi .i32 (.s 88), .none⟩,
 ⟨some 90, none, .bin .or (.s 86) (.s 89), .none⟩,
 ⟨some 2, none, .mv (.s 90), .none⟩,
 ⟨some 3, none, .mv (.c (.d (.int .i64 3))), .none⟩])
 (.ret none))
 .skip))
 (.seq (.reg [⟨some 91, none, .mv (.s 0), .none⟩,
 ⟨some 92, none, .sti (.s 91) (.c (.d (.int .i64 3))), .none⟩,
 ⟨some 12, none, .mv (.s 92), .none⟩])
 (.seq (.seq (.reg [⟨some 93, none, .mv (.s 12), .none⟩,
 ⟨some 94, none, .bin .lss (.s 93) (.c (.d (.int .u8 128))), .none⟩,
 ⟨some 95, none, .mv (.s 94), .none⟩,
 ⟨some 96, some (95, false), .mv (.s 12), .none⟩,
 ⟨some 97, some (95, false), .bin .lss (.c (.d (.int .u8 191))) (.s 96), .none⟩,
 ⟨some 98, none, .pick (.s 95) (.c (.d (.bool true))) (.s 97), .none⟩])
 (.cond (.s 98)
 (.seq (.reg [⟨some 2, none, .mv (.c (.d (.int .i32 65533))), .none⟩,
 ⟨some 3, none, .mv (.c (.d (.int .i64 1))), .none⟩])
 (.ret none))
 .skip))
 (.seq (.reg [⟨some 99, none, .mv (.s 5), .none⟩,
 ⟨some 100, none, .bin .and (.s 99) (.c (.d (.int .u8 7))), .none⟩,
 ⟨some 101, none, .cvi .i32 (.s 100), .none⟩,
 ⟨some 102, none, .bin .shl (.s 101) (.c (.d (.int .u64 18))), .none⟩,
 ⟨some 103, none, .mv (.s 10), .none⟩,
 ⟨some 104, none, .bin .and (.s 103) (.c (.d (.int .u8 63))), .none⟩,
 ⟨some 105, none, .cvi .i32 (.s 104), .none⟩,
 ⟨some 106, none, .bin .shl (.s 105) (.c (.d (.int .u64 12))), .none⟩,
 ⟨some 107, none, .bin .or (.s 102) (.s 106), .none⟩,
 ⟨some 108, none, .mv (.s 11), .none⟩,
 ⟨some 109, none, .bin .and (.s 108) (.c (.d (.int .u8 63))), .none⟩,
 ⟨some 110, none, .cvi .i32 (.s 109), .none⟩,
 ⟨some 111, none, .bin .shl (.s 110) (.c (.d (.int .u64 6))), .none⟩,
 ⟨some 112, none, .bin .or (.s 107) (.s 111), .none⟩,
 ⟨some 113, none, .mv (.s 12), .none⟩,
 ⟨some 114, none, .bin .and (.s 113) (.c (.d (.int .u8 63))), .none⟩,
 ⟨some 115, none, .cvi .i32 (.s 114), .none⟩,
 ⟨some 116, none, .bin .or (.s 112) (.s 115), .none⟩,
 ⟨some 2, none, .mv (.s 116), .none⟩,
 ⟨some 3, none, .mv (.c (.d (.int .i64 4))), .none⟩])
 (.ret none)))))))))))))))))))
def ir174 : F := { n := 117, res := [.tmp 2, .tmp 3], body := bd174 }
@[go_sem] theorem n174 : ir174.n = 117 := rfl
@[go_sem] theorem r174 : ir174.res = [.tmp 2, .tmp 3] := rfl
@[go_sem] theorem b174 : ir174.body = bd174 := rfl
def lb175_4 : C :=
 (.seq (.seq (.reg [⟨some 140, none, .mv (.s 16), .none⟩,
 ⟨some 141, none, .mv (.s 7), .none⟩,
 ⟨some 142, none, .lens (.s 141), .none⟩,
 ⟨some 143, none, .bin .lss (.s 140) (.s 142), .none⟩])
 (.cond (.s 143)
 .skip
 (.exit 7 (some [8, 9]))))
 (.seq (.block 8 (.seq (.drw [⟨some 146, none, .mv (.s 0), .none⟩,
 ⟨some 147, none, .mv (.s 9), .none⟩,
 ⟨some 148, none, .mv (.s 16), .none⟩,
 ⟨some 149, none, .bin .sub (.s 147) (.s 148), .none⟩,
 ⟨some 150, none, .sti (.s 146) (.s 149), .none⟩,
 ⟨some 151, none, .mv (.s 7), .none⟩,
 ⟨some 152, none, .mv (.s 8), .none⟩,
 ⟨some 153, none, .mv (.s 16), .none⟩,
 ⟨some 154, none, .bin .sub (.s 152) (.s 153), .none⟩,
 ⟨some 155, none, .sti (.s 151) (.s 154), .none⟩,
 ⟨some 156, none, .bin .neq (.s 150) (.s 155), .none⟩]
 [[], [], [], [1, 2], [0, 3], [], [], [], [6, 7], [5, 8], [4, 9]] [])
 (.cond (.s 156)
 (.exit 6 (some [0, 7, 8, 9, 14, 15]))
 .skip)))
 (.reg [⟨some 144, none, .mv (.s 16), .none⟩,
 ⟨some 145, none, .bin .add (.s 144) (.c (.d (.int .i64 1))), .none⟩,
 ⟨some 16, none, .mv (.s 145), .none⟩])))
def lp175_4 : C := lb175_4
theorem u175_4 (c : Ev.Callee) (l : Ev.Looper) (s : St) : evC c l lp175_4 s = evC c l lb175_4 s := rfl
abbrev st175_4 (m : Nat) (s0 s7 s8 s9 s14 s15 s16 : AV) (h : Heap) : St := ⟨m, [s0, .unk, .unk, .unk, .unk, .unk, .unk, s7, s8, s9, .unk, .unk, .unk, .unk, s14, s15, s16, .unk, .unk, .unk, .unk, .unk, .unk, .unk, .unk, .unk, .unk, .unk, .unk, .unk, .unk, .unk, .unk, .unk, .unk, .unk, .unk, .unk, .unk, .unk, .unk, .unk, .unk, .unk, .unk, .unk, .unk, .unk, .unk, .unk, .unk, .unk, .unk, .unk, .unk, .unk, .unk, .unk, .unk, .unk, .unk, .unk, .unk, .unk, .unk, .unk, .unk, .unk, .unk, .unk, .unk, .unk, .unk, .unk, .unk, .unk, .unk, .unk, .unk, .unk, .unk, .unk, .unk, .unk, .unk, .unk, .unk, .unk, .unk, .unk, .unk, .unk, .unk, .unk, .unk, .unk, .unk, .unk, .unk, .unk, .unk, .unk, .unk, .unk, .unk, .unk, .unk, .unk, .unk, .unk, .unk, .unk, .unk, .unk, .unk, .unk, .unk, .unk, .unk, .unk, .unk, .unk, .unk, .unk, .unk, .unk, .unk, .unk, .unk, .unk, .unk, .unk, .unk, .unk, .unk, .unk, .unk, .unk, .unk, .unk, .unk, .unk, .unk, .unk, .unk, .unk, .unk, .unk, .unk, .unk, .unk, .unk, .unk, .unk, .unk, .unk, .unk, .unk, .unk, .unk, .unk, .unk, .unk, .unk, .unk, .unk, .unk, .unk, .unk, .unk, .unk, .unk, .unk, .unk, .unk, .unk, .unk, .unk, .unk, .unk, .unk, .unk, .unk, .unk, .unk, .unk, .unk], h⟩
def lb175_3 : C :=
 (.seq (.seq (.reg [⟨some 121, none, .mv (.s 9), .none⟩,
 ⟨some 122, none, .mv (.s 0), .none⟩,
 ⟨some 123, none, .lens (.s 122), .none⟩,
 ⟨some 124, none, .bin .lss (.s 121) (.s 123), .none⟩])
 (.cond (.s 124)
 .skip
 (.exit 5 (some []))))
 (.seq (.block 6 (.seq (.reg [⟨some 127, none, .mv (.s 0), .none⟩,
 ⟨some 128, none, .mv (.s 9), .none⟩,
 ⟨some 129, none, .sti (.s 127) (.s 128), .none⟩,
 ⟨some 130, none, .mv (.s 14), .none⟩,
 ⟨some 131, none, .bin .eql (.s 129) (.s 130), .none⟩,
 ⟨some 132, none, .mv (.s 131), .none⟩,
 ⟨some 133, some (132, true), .mv (.s 0), .none⟩,
 ⟨some 134, some (132, true), .mv (.s 9), .none⟩,
 ⟨some 135, some (132, true), .bin .sub (.s 134) (.c (.d (.int .i64 1))), .none⟩,
 ⟨some 136, some (132, true), .sti (.s 133) (.s 135), .none⟩,
 ⟨some 137, some (132, true), .mv (.s 15), .none⟩,
 ⟨some 138, some (132, true), .bin .eql (.s 136) (.s 137), .none⟩,
 ⟨some 139, none, .pick (.s 132) (.s 138) (.c (.d (.bool false))), .none⟩])
 (.cond (.s 139)
 (.seq (.seq (.reg [⟨some 16, none, .mv (.c (.d (.int .i64 2))), .none⟩])
 (.block 7 (.loop [0, 7, 8, 9, 14, 15, 16] lp175_4)))
 (.seq (.reg [⟨some 157, none, .mv (.s 9), .none⟩,
 ⟨some 158, none, .mv (.s 8), .none⟩,
 ⟨some 159, none, .bin .sub (.s 157) (.s 158), .none⟩,
 ⟨some 4, none, .mv (.s 159), .none⟩])
 (.ret (some [4]))))
 .skip)))
 (.reg [⟨some 125, none, .mv (.s 9), .none⟩,
 ⟨some 126, none, .bin .add (.s 125) (.c (.d (.int .i64 1))), .none⟩,
 ⟨some 9, none, .mv (.s 126), .none⟩])))
def lp175_3 : C := lb175_3
theorem u175_3 (c : Ev.Callee) (l : Ev.Looper) (s : St) : evC c l lp175_3 s = evC c l lb175_3 s := rfl
abbrev st175_3 (m : Nat) (s0 s7 s8 s9 s14 s15 : AV) (h : Heap) : St := ⟨m, [s0, .unk, .unk, .unk, .unk, .unk, .unk, s7, s8, s9, .unk, .unk, .unk, .unk, s14, s15, .unk, .unk, .unk, .unk, .unk, .unk, .unk, .unk, .unk, .unk, .unk, .unk, .unk, .unk, .unk, .unk, .unk, .unk, .unk, .unk, .unk, .unk, .unk, .unk, .unk, .unk, .unk, .unk, .unk, .unk, .unk, .unk, .unk, .unk, .unk, .unk, .unk, .unk, .unk, .unk, .unk, .unk, .unk, .unk, .unk, .unk, .unk, .unk, .unk, .unk, .unk, .unk, .unk, .unk, .unk, .unk, .unk, .unk, .unk, .unk, .unk, .unk, .unk, .unk, .unk, .unk, .unk, .unk, .unk, .unk, .unk, .unk, .unk, .unk, .unk, .unk, .unk, .unk, .unk, .unk, .unk, .unk, .unk, .unk, .unk, .unk, .unk, .unk, .unk, .unk, .unk, .unk, .unk, .unk, .unk, .unk, .unk, .unk, .unk, .unk, .unk, .unk, .unk, .unk, .unk, .unk, .unk, .unk, .unk, .unk, .unk, .unk, .unk, .unk, .unk, .unk, .unk, .unk, .unk, .unk, .unk, .unk, .unk, .unk, .unk, .unk, .unk, .unk, .unk, .unk, .unk, .unk, .unk, .unk, .unk, .unk, .unk, .unk, .unk, .unk, .unk, .unk, .unk, .unk, .unk, .unk, .unk, .unk, .unk, .unk, .unk, .unk, .unk, .unk, .unk, .unk, .unk, .unk, .unk, .unk, .unk, .unk, .unk, .unk, .unk, .unk, .unk, .unk, .unk, .unk, .unk], h⟩
def lb175_2 : C :=
 (.seq (.seq (.reg [⟨some 48, none, .mv (.s 12), .none⟩,
 ⟨some 49, none, .mv (.s 7), .none⟩,
 ⟨some 50, none, .lens (.s 49), .none⟩,
 ⟨some 51, none, .bin .lss (.s 48) (.s 50), .none⟩])
 (.cond (.s 51)
 .skip
 (.exit 3 (some [8, 9]))))
 (.seq (.block 4 (.seq (.drw [⟨some 54, none, .mv (.s 0), .none⟩,
 ⟨some 55, none, .mv (.s 9), .none⟩,
 ⟨some 56, none, .mv (.s 12), .none⟩,
 ⟨some 57, none, .bin .sub (.s 55) (.s 56), .none⟩,
 ⟨some 58, none, .sti (.s 54) (.s 57), .none⟩,
 ⟨some 59, none, .mv (.s 7), .none⟩,
 ⟨some 60, none, .mv (.s 8), .none⟩,
 ⟨some 61, none, .mv (.s 12), .none⟩,
 ⟨some 62, none, .bin .sub (.s 60) (.s 61), .none⟩,
 ⟨some 63, none, .sti (.s 59) (.s 62), .none⟩,
 ⟨some 64, none, .bin .neq (.s 58) (.s 63), .none⟩]
 [[], [], [], [1, 2], [0, 3], [], [], [], [6, 7], [5, 8], [4, 9]] [])
 (.cond (.s 64)
 .bad
 .skip)))
 (.reg [⟨some 52, none, .mv (.s 12), .none⟩,
 ⟨some 53, none, .bin .add (.s 52) (.c (.d (.int .i64 1))), .none⟩,
 ⟨some 12, none, .mv (.s 53), .none⟩])))
def lp175_2 : C := lb175_2
theorem u175_2 (c : Ev.Callee) (l : Ev.Looper) (s : St) : evC c l lp175_2 s = evC c l lb175_2 s := rfl
abbrev st175_2 (m : Nat) (s0 s7 s8 s9 s12 : AV) (h : Heap) : St := ⟨m, [s0, .unk, .unk, .unk, .unk, .unk, .unk, s7, s8, s9, .unk, .unk, s12, .unk, .unk, .unk, .unk, .unk, .unk, .unk, .unk, .unk, .unk, .unk, .unk, .unk, .unk, .unk, .unk, .unk, .unk, .unk, .unk, .unk, .unk, .unk, .unk, .unk, .unk, .unk, .unk, .unk, .unk, .unk, .unk, .unk, .unk, .unk, .unk, .unk, .unk, .unk, .unk, .unk, .unk, .unk, .unk, .unk, .unk, .unk, .unk, .unk, .unk, .unk, .unk, .unk, .unk, .unk, .unk, .unk, .unk, .unk, .unk, .unk, .unk, .unk, .unk, .unk, .unk, .unk, .unk, .unk, .unk, .unk, .unk, .unk, .unk, .unk, .unk, .unk, .unk, .unk, .unk, .unk, .unk, .unk, .unk, .unk, .unk, .unk, .unk, .unk, .unk, .unk, .unk, .unk, .unk, .unk, .unk, .unk, .unk, .unk, .unk, .unk, .unk, .unk, .unk, .unk, .unk, .unk, .unk, .unk, .unk, .unk, .unk, .unk, .unk, .unk, .unk, .unk, .unk, .unk, .unk, .unk, .unk, .unk, .unk, .unk, .unk, .unk, .unk, .unk, .unk, .unk, .unk, .unk, .unk, .unk, .unk, .unk, .unk, .unk, .unk, .unk, .unk, .unk, .unk, .unk, .unk, .unk, .unk, .unk, .unk, .unk, .unk, .unk, .unk, .unk, .unk, .unk, .unk, .unk, .unk, .unk, .unk, .unk, .unk, .unk, .unk, .unk, .unk, .unk, .unk, .unk, .unk, .unk, .unk], h⟩
def lb175_1 : C :=
 (.seq (.seq (.reg [⟨some 23, none, .mv (.s 9), .none⟩,
 ⟨some 24, none, .mv (.s 0), .none⟩,
 ⟨some 25, none, .lens (.s 24), .none⟩,
 ⟨some 26, none, .bin .lss (.s 23) (.s 25), .none⟩])
 (.cond (.s 26)
 .skip
 (.exit 1 (some []))))
 (.block 2 (.scp (.seq (.seq (.drw [⟨some 27, none, .mv (.s 0), .none⟩,
 ⟨some 28, none, .mv (.s 9), .none⟩,
 ⟨some 29, none, .sti (.s 27) (.s 28), .none⟩,
 ⟨some 30, none, .mv (.s 7), .none⟩,
 ⟨some 31, none, .mv (.s 8), .none⟩,
 ⟨some 32, none, .sti (.s 30) (.s 31), .none⟩,
 ⟨some 33, none, .bin .neq (.s 29) (.s 32), .none⟩]
 [[], [], [0, 1], [], [], [3, 4], [2, 5]] [])
 (.cond (.s 33)
 (.seq (.drw [⟨some 34, none, .mv (.s 0), .none⟩,
 ⟨some 35, none, .mv (.s 9), .none⟩,
 ⟨some 36, none, .bin .add (.s 35) (.c (.d (.int .i64 1))), .none⟩,
 ⟨some 37, none, .ssl (.s 34) (some (.s 36)) none, .none⟩,
 ⟨some 38, none, .mv (.s 7), .none⟩,
 ⟨some 39, none, .mv (.s 8), .none⟩,
 ⟨some 40, none, .sti (.s 38) (.s 39), .none⟩,
 ⟨some 41, none, .call 129 [.s 37, .s 40] 2, .none⟩,
 ⟨some 11, none, .mv (.s 41), .none⟩]
 [[], [], [1], [0, 2], [], [], [4, 5], [3, 6], [7, 7, 0, 1, 2, 3, 4, 5, 6, 7]] [])
 (.seq (.seq (.reg [⟨some 42, none, .mv (.s 11), .none⟩,
 ⟨some 43, none, .bin .lss (.s 42) (.c (.d (.int .i64 0))), .none⟩])
 (.cond (.s 43)
 (.seq (.reg [⟨some 4, none, .mv (.c (.d (.int .i64 (-1)))), .none⟩])
 (.ret (some [4])))
 .skip))
 (.reg [⟨some 44, none, .mv (.s 9), .none⟩,
 ⟨some 45, none, .mv (.s 11), .none⟩,
 ⟨some 46, none, .bin .add (.s 45) (.c (.d (.int .i64 1))), .none⟩,
 ⟨some 47, none, .bin .add (.s 44) (.s 46), .none⟩,
 ⟨some 9, none, .mv (.s 47), .none⟩])))
 .skip))
 (.ann [0, 7, 8, 9] (.seq (.seq (.reg [⟨some 12, none, .mv (.c (.d (.int .i64 1))), .none⟩])
 (.block 3 (.loop [0, 7, 8, 9, 12] lp175_2)))
 (.seq (.seq (.reg [⟨some 65, none, .mv (.s 9), .none⟩,
 ⟨some 66, none, .mv (.s 8), .none⟩,
 ⟨some 67, none, .bin .sub (.s 65) (.s 66), .none⟩,
 ⟨some 4, none, .mv (.s 67), .none⟩])
 (.ret (some [4])))
 (.seq .skip
 (.seq (.reg [⟨some 68, none, .mv (.s 10), .none⟩,
 ⟨some 69, none, .bin .add (.s 68) (.c (.d (.int .i64 1))), .none⟩,
 ⟨some 10, none, .mv (.s 69), .none⟩])
 (.seq (.reg [⟨some 70, none, .mv (.s 9), .none⟩,
 ⟨some 71, none, .bin .add (.s 70) (.c (.d (.int .i64 1))), .none⟩,
 ⟨some 9, none, .mv (.s 71), .none⟩])
 (.seq (.reg [⟨some 72, none, .mv (.c (.d (.bool true))), .none⟩,
 ⟨some 73, some (72, true), .mv (.s 10), .none⟩,
 ⟨some 74, some (72, true), .mv (.s 9), .none⟩,
 ⟨some 75, some (72, true), .call 162 [.s 74] 2, .none⟩,
 ⟨some 76, some (72, true), .bin .gtr (.s 73) (.s 75), .none⟩,
 ⟨some 77, none, .pick (.s 72) (.s 76) (.c (.d (.bool false))), .none⟩,
 ⟨some 78, none, .mv (.s 77), .none⟩,
 ⟨some 79, some (78, true), .mv (.s 9), .none⟩,
 ⟨some 80, some (78, true), .mv (.s 0), .none⟩,
 ⟨some 81, some (78, true), .lens (.s 80), .none⟩,
 ⟨some 82, some (78, true), .bin .lss (.s 79) (.s 81), .none⟩,
 ⟨some 83, none, .pick (.s 78) (.s 82) (.c (.d (.bool false))), .none⟩,
 ⟨some 84, none, .mv (.s 83), .none⟩,
 ⟨some 85, some (84, false), .mv (.c (.d (.bool false))), .none⟩,
 ⟨some 86, some (85, true), .mv (.s 10), .none⟩,
 ⟨some 87, some (85, true), .mv (.s 9), .none⟩,
 ⟨some 88, some (85, true), .bin .shr (.s 87) (.c (.d (.int .u64 4))), .none⟩,
 ⟨some 89, some (85, true), .bin .add (.c (.d (.int .i64 4))) (.s 88), .none⟩,
 ⟨some 90, some (85, true), .bin .geq (.s 86) (.s 89), .none⟩,
 ⟨some 91, some (84, false), .pick (.s 85) (.s 90) (.c (.d (.bool false))), .none⟩,
 ⟨some 92, some (84, false), .mv (.s 91), .none⟩,
 ⟨some 93, some (92, true), .mv (.s 9), .none⟩,
 ⟨some 94, some (92, true), .mv (.s 0), .none⟩,
 ⟨some 95, some (92, true), .lens (.s 94), .none⟩,
 ⟨some 96, some (92, true), .bin .lss (.s 93) (.s 95), .none⟩,
 ⟨some 97, some (84, false), .pick (.s 92) (.s 96) (.c (.d (.bool false))), .none⟩,
 ⟨some 98, none, .pick (.s 84) (.c (.d (.bool true))) (.s 97), .none⟩])
 (.cond (.s 98)
 .bad
 .skip))))))))))))
def lp175_1 : C := lb175_1
theorem u175_1 (c : Ev.Callee) (l : Ev.Looper) (s : St) : evC c l lp175_1 s = evC c l lb175_1 s := rfl
abbrev st175_1 (m : Nat) (s0 s7 s8 s9 : AV) (h : Heap) : St := ⟨m, [s0, .unk, .unk, .unk, .unk, .unk, .unk, s7, s8, s9, .unk, .unk, .unk, .unk, .unk, .unk, .unk, .unk, .unk, .unk, .unk, .unk, .unk, .unk, .unk, .unk, .unk, .unk, .unk, .unk, .unk, .unk, .unk, .unk, .unk, .unk, .unk, .unk, .unk, .unk, .unk, .unk, .unk, .unk, .unk, .unk, .unk, .unk, .unk, .unk, .unk, .unk, .unk, .unk, .unk, .unk, .unk, .unk, .unk, .unk, .unk, .unk, .unk, .unk, .unk, .unk, .unk, .unk, .unk, .unk, .unk, .unk, .unk, .unk, .unk, .unk, .unk, .unk, .unk, .unk, .unk, .unk, .unk, .unk, .unk, .unk, .unk, .unk, .unk, .unk, .unk, .unk, .unk, .unk, .unk, .unk, .unk, .unk, .unk, .unk, .unk, .unk, .unk, .unk, .unk, .unk, .unk, .unk, .unk, .unk, .unk, .unk, .unk, .unk, .unk, .unk, .unk, .unk, .unk, .unk, .unk, .unk, .unk, .unk, .unk, .unk, .unk, .unk, .unk, .unk, .unk, .unk, .unk, .unk, .unk, .unk, .unk, .unk, .unk, .unk, .unk, .unk, .unk, .unk, .unk, .unk, .unk, .unk, .unk, .unk, .unk, .unk, .unk, .unk, .unk, .unk, .unk, .unk, .unk, .unk, .unk, .unk, .unk, .unk, .unk, .unk, .unk, .unk, .unk, .unk, .unk, .unk, .unk, .unk, .unk, .unk, .unk, .unk, .unk, .unk, .unk, .unk, .unk, .unk, .unk, .unk, .unk], h⟩
def lb175_0 : C :=
 (.seq (.reg [⟨some 176, none, .bad, .none⟩,
 ⟨some 177, none, .ext (.s 176) 0, .none⟩])
 (.seq (.cond (.s 177)
 .skip
 (.exit 9 (some [])))
 (.block 10 (.seq (.reg [⟨some 178, none, .ext (.s 176) 1, .none⟩,
 ⟨some 179, none, .ext (.s 176) 2, .none⟩,
 ⟨some 5, none, .mv (.s 178), .none⟩,
 ⟨some 6, none, .mv (.s 179), .none⟩])
 (.seq (.reg [⟨some 180, none, .mv (.s 6), .none⟩,
 ⟨some 181, none, .bin .eql (.s 180) (.c (.d (.int .i32 65533))), .none⟩])
 (.cond (.s 181)
 (.seq (.reg [⟨some 182, none, .mv (.s 5), .none⟩,
 ⟨some 4, none, .mv (.s 182), .none⟩])
 (.ret (some [4])))
 .skip))))))
def lp175_0 : C := lb175_0
theorem u175_0 (c : Ev.Callee) (l : Ev.Looper) (s : St) : evC c l lp175_0 s = evC c l lb175_0 s := rfl
abbrev st175_0 (m : Nat) (h : Heap) : St := ⟨m, [.unk, .unk, .unk, .unk, .unk, .unk, .unk, .unk, .unk, .unk, .unk, .unk, .unk, .unk, .unk, .unk, .unk, .unk, .unk, .unk, .unk, .unk, .unk, .unk, .unk, .unk, .unk, .unk, .unk, .unk, .unk, .unk, .unk, .unk, .unk, .unk, .unk, .unk, .unk, .unk, .unk, .unk, .unk, .unk, .unk, .unk, .unk, .unk, .unk, .unk, .unk, .unk, .unk, .unk, .unk, .unk, .unk, .unk, .unk, .unk, .unk, .unk, .unk, .unk, .unk, .unk, .unk, .unk, .unk, .unk, .unk, .unk, .unk, .unk, .unk, .unk, .unk, .unk, .unk, .unk, .unk, .unk, .unk, .unk, .unk, .unk, .unk, .unk, .unk, .unk, .unk, .unk, .unk, .unk, .unk, .unk, .unk, .unk, .unk, .unk, .unk, .unk, .unk, .unk, .unk, .unk, .unk, .unk, .unk, .unk, .unk, .unk, .unk, .unk, .unk, .unk, .unk, .unk, .unk, .unk, .unk, .unk, .unk, .unk, .unk, .unk, .unk, .unk, .unk, .unk, .unk, .unk, .unk, .unk, .unk, .unk, .unk, .unk, .unk, .unk, .unk, .unk, .unk, .unk, .unk, .unk, .unk, .unk, .unk, .unk, .unk, .unk, .unk, .unk, .unk, .unk, .unk, .unk, .unk, .unk, .unk, .unk, .unk, .unk, .unk, .unk, .unk, .unk, .unk, .unk, .unk, .unk, .unk, .unk, .unk, .unk, .unk, .unk, .unk, .unk, .unk, .unk, .unk, .unk, .unk, .unk, .unk], h⟩
@[go_sem] theorem ks175_0 (v0 v1 v2 v3 v4 v5 v6 v7 v8 v9 v10 v11 v12 v13 v14 v15 v16 v17 v18 v19 v20 v21 v22 v23 v24 v25 v26 v27 v28 v29 v30 v31 v32 v33 v34 v35 v36 v37 v38 v39 v40 v41 v42 v43 v44 v45 v46 v47 v48 v49 v50 v51 v52 v53 v54 v55 v56 v57 v58 v59 v60 v61 v62 v63 v64 v65 v66 v67 v68 v69 v70 v71 v72 v73 v74 v75 v76 v77 v78 v79 v80 v81 v82 v83 v84 v85 v86 v87 v88 v89 v90 v91 v92 v93 v94 v95 v96 v97 v98 v99 v100 v101 v102 v103 v104 v105 v106 v107 v108 v109 v110 v111 v112 v113 v114 v115 v116 v117 v118 v119 v120 v121 v122 v123 v124 v125 v126 v127 v128 v129 v130 v131 v132 v133 v134 v135 v136 v137 v138 v139 v140 v141 v142 v143 v144 v145 v146 v147 v148 v149 v150 v151 v152 v153 v154 v155 v156 v157 v158 v159 v160 v161 v162 v163 v164 v165 v166 v167 v168 v169 v170 v171 v172 v173 v174 v175 v176 v177 v178 v179 v180 v181 v182 v183 v184 v185 v186 : AV) : keepS [] [v0, v1, v2, v3, v4, v5, v6, v7, v8, v9, v10, v11, v12, v13, v14, v15, v16, v17, v18, v19, v20, v21, v22, v23, v24, v25, v26, v27, v28, v29, v30, v31, v32, v33, v34, v35, v36, v37, v38, v39, v40, v41, v42, v43, v44, v45, v46, v47, v48, v49, v50, v51, v52, v53, v54, v55, v56, v57, v58, v59, v60, v61, v62, v63, v64, v65, v66, v67, v68, v69, v70, v71, v72, v73, v74, v75, v76, v77, v78, v79, v80, v81, v82, v83, v84, v85, v86, v87, v88, v89, v90, v91, v92, v93, v94, v95, v96, v97, v98, v99, v100, v101, v102, v103, v104, v105, v106, v107, v108, v109, v110, v111, v112, v113, v114, v115, v116, v117, v118, v119, v120, v121, v122, v123, v124, v125, v126, v127, v128, v129, v130, v131, v132, v133, v134, v135, v136, v137, v138, v139, v140, v141, v142, v143, v144, v145, v146, v147, v148, v149, v150, v151, v152, v153, v154, v155, v156, v157, v158, v159, v160, v161, v162, v163, v164, v165, v166, v167, v168, v169, v170, v171, v172, v173, v174, v175, v176, v177, v178, v179, v180, v181, v182, v183, v184, v185, v186] 0 = [.unk, .unk, .unk, .unk, .unk, .unk, .unk, .unk, .unk, .unk, .unk, .unk, .unk, .unk, .unk, .unk, .unk, .unk, .unk, .unk, .unk, .unk, .unk, .unk, .unk, .unk, .unk, .unk, .unk, .unk, .unk, .unk, .unk, .unk, .unk, .unk, .unk, .unk, .unk, .unk, .unk, .unk, .unk, .unk, .unk, .unk, .unk, .unk, .unk, .unk, .unk, .unk, .unk, .unk, .unk, .unk, .unk, .unk, .unk, .unk, .unk, .unk, .unk, .unk, .unk, .unk, .unk, .unk, .unk, .unk, .unk, .unk, .unk, .unk, .unk, .unk, .unk, .unk, .unk, .unk, .unk, .unk, .unk, .unk, .unk, .unk, .unk, .unk, .unk, .unk, .unk, .unk, .unk, .unk, .unk, .unk, .unk, .unk, .unk, .unk, .unk, .unk, .unk, .unk, .unk, .unk, .unk, .unk, .unk, .unk, .unk, .unk, .unk, .unk, .unk, .unk, .unk, .unk, .unk, .unk, .unk, .unk, .unk, .unk, .unk, .unk, .unk, .unk, .unk, .unk, .unk, .unk, .unk, .unk, .unk, .unk, .unk, .unk, .unk, .unk, .unk, .unk, .unk, .unk, .unk, .unk, .unk, .unk, .unk, .unk, .unk, .unk, .unk, .unk, .unk, .unk, .unk, .unk, .unk, .unk, .unk, .unk, .unk, .unk, .unk, .unk, .unk, .unk, .unk, .unk, .unk, .unk, .unk, .unk, .unk, .unk, .unk, .unk, .unk, .unk, .unk, .unk, .unk, .unk, .unk, .unk, .unk] := rfl
@[go_sem] theorem ks175_1 (v0 v1 v2 v3 v4 v5 v6 v7 v8 v9 v10 v11 v12 v13 v14 v15 v16 v17 v18 v19 v20 v21 v22 v23 v24 v25 v26 v27 v28 v29 v30 v31 v32 v33 v34 v35 v36 v37 v38 v39 v40 v41 v42 v43 v44 v45 v46 v47 v48 v49 v50 v51 v52 v53 v54 v55 v56 v57 v58 v59 v60 v61 v62 v63 v64 v65 v66 v67 v68 v69 v70 v71 v72 v73 v74 v75 v76 v77 v78 v79 v80 v81 v82 v83 v84 v85 v86 v87 v88 v89 v90 v91 v92 v93 v94 v95 v96 v97 v98 v99 v100 v101 v102 v103 v104 v105 v106 v107 v108 v109 v110 v111 v112 v113 v114 v115 v116 v117 v118 v119 v120 v121 v122 v123 v124 v125 v126 v127 v128 v129 v130 v131 v132 v133 v134 v135 v136 v137 v138 v139 v140 v141 v142 v143 v144 v145 v146 v147 v148 v149 v150 v151 v152 v153 v154 v155 v156 v157 v158 v159 v160 v161 v162 v163 v164 v165 v166 v167 v168 v169 v170 v171 v172 v173 v174 v175 v176 v177 v178 v179 v180 v181 v182 v183 v184 v185 v186 : AV) : keepS [4] [v0, v1, v2, v3, v4, v5, v6, v7, v8, v9, v10, v11, v12, v13, v14, v15, v16, v17, v18, v19, v20, v21, v22, v23, v24, v25, v26, v27, v28, v29, v30, v31, v32, v33, v34, v35, v36, v37, v38, v39, v40, v41, v42, v43, v44, v45, v46, v47, v48, v49, v50, v51, v52, v53, v54, v55, v56, v57, v58, v59, v60, v61, v62, v63, v64, v65, v66, v67, v68, v69, v70, v71, v72, v73, v74, v75, v76, v77, v78, v79, v80, v81, v82, v83, v84, v85, v86, v87, v88, v89, v90, v91, v92, v93, v94, v95, v96, v97, v98, v99, v100, v101, v102, v103, v104, v105, v106, v107, v108, v109, v110, v111, v112, v113, v114, v115, v116, v117, v118, v119, v120, v121, v122, v123, v124, v125, v126, v127, v128, v129, v130, v131, v132, v133, v134, v135, v136, v137, v138, v139, v140, v141, v142, v143, v144, v145, v146, v147, v148, v149, v150, v151, v152, v153, v154, v155, v156, v157, v158, v159, v160, v161, v162, v163, v164, v165, v166, v167, v168, v169, v170, v171, v172, v173, v174, v175, v176, v177, v178, v179, v180, v181, v182, v183, v184, v185, v186] 0 = [.unk, .unk, .unk, .unk, v4, .unk, .unk, .unk, .unk, .unk, .unk, .unk, .unk, .unk, .unk, .unk, .unk, .unk, .unk, .unk, .unk, .unk, .unk, .unk, .unk, .unk, .unk, .unk, .unk, .unk, .unk, .unk, .unk, .unk, .unk, .unk, .unk, .unk, .unk, .unk, .unk, .unk, .unk, .unk, .unk, .unk, .unk, .unk, .unk, .unk, .unk, .unk, .unk, .unk, .unk, .unk, .unk, .unk, .unk, .unk, .unk, .unk, .unk, .unk, .unk, .unk, .unk, .unk, .unk, .unk, .unk, .unk, .unk, .unk, .unk, .unk, .unk, .unk, .unk, .unk, .unk, .unk, .unk, .unk, .unk, .unk, .unk, .unk, .unk, .unk, .unk, .unk, .unk, .unk, .unk, .unk, .unk, .unk, .unk, .unk, .unk, .unk, .unk, .unk, .unk, .unk, .unk, .unk, .unk, .unk, .unk, .unk, .unk, .unk, .unk, .unk, .unk, .unk, .unk, .unk, .unk, .unk, .unk, .unk, .unk, .unk, .unk, .unk, .unk, .unk, .unk, .unk, .unk, .unk, .unk, .unk, .unk, .unk, .unk, .unk, .unk, .unk, .unk, .unk, .unk, .unk, .unk, .unk, .unk, .unk, .unk, .unk, .unk, .unk, .unk, .unk, .unk, .unk, .unk, .unk, .unk, .unk, .unk, .unk, .unk, .unk, .unk, .unk, .unk, .unk, .unk, .unk, .unk, .unk, .unk, .unk, .unk, .unk, .unk, .unk, .unk, .unk, .unk, .unk, .unk, .unk, .unk] := rfl
@[go_sem] theorem ks175_2 (v0 v1 v2 v3 v4 v5 v6 v7 v8 v9 v10 v11 v12 v13 v14 v15 v16 v17 v18 v19 v20 v21 v22 v23 v24 v25 v26 v27 v28 v29 v30 v31 v32 v33 v34 v35 v36 v37 v38 v39 v40 v41 v42 v43 v44 v45 v46 v47 v48 v49 v50 v51 v52 v53 v54 v55 v56 v57 v58 v59 v60 v61 v62 v63 v64 v65 v66 v67 v68 v69 v70 v71 v72 v73 v74 v75 v76 v77 v78 v79 v80 v81 v82 v83 v84 v85 v86 v87 v88 v89 v90 v91 v92 v93 v94 v95 v96 v97 v98 v99 v100 v101 v102 v103 v104 v105 v106 v107 v108 v109 v110 v111 v112 v113 v114 v115 v116 v117 v118 v119 v120 v121 v122 v123 v124 v125 v126 v127 v128 v129 v130 v131 v132 v133 v134 v135 v136 v137 v138 v139 v140 v141 v142 v143 v144 v145 v146 v147 v148 v149 v150 v151 v152 v153 v154 v155 v156 v157 v158 v159 v160 v161 v162 v163 v164 v165 v166 v167 v168 v169 v170 v171 v172 v173 v174 v175 v176 v177 v178 v179 v180 v181 v182 v183 v184 v185 v186 : AV) : keepS [0, 7, 8, 9] [v0, v1, v2, v3, v4, v5, v6, v7, v8, v9, v10, v11, v12, v13, v14, v15, v16, v17, v18, v19, v20, v21, v22, v23, v24, v25, v26, v27, v28, v29, v30, v31, v32, v33, v34, v35, v36, v37, v38, v39, v40, v41, v42, v43, v44, v45, v46, v47, v48, v49, v50, v51, v52, v53, v54, v55, v56, v57, v58, v59, v60, v61, v62, v63, v64, v65, v66, v67, v68, v69, v70, v71, v72, v73, v74, v75, v76, v77, v78, v79, v80, v81, v82, v83, v84, v85, v86, v87, v88, v89, v90, v91, v92, v93, v94, v95, v96, v97, v98, v99, v100, v101, v102, v103, v104, v105, v106, v107, v108, v109, v110, v111, v112, v113, v114, v115, v116, v117, v118, v119, v120, v121, v122, v123, v124, v125, v126, v127, v128, v129, v130, v131, v132, v133, v134, v135, v136, v137, v138, v139, v140, v141, v142, v143, v144, v145, v146, v147, v148, v149, v150, v151, v152, v153, v154, v155, v156, v157, v158, v159, v160, v161, v162, v163, v164, v165, v166, v167, v168, v169, v170, v171, v172, v173, v174, v175, v176, v177, v178, v179, v180, v181, v182, v183, v184, v185, v186] 0 = [v0, .unk, .unk, .unk, .unk, .unk, .unk, v7, v8, v9, .unk, .unk, .unk, .unk, .unk, .unk, .unk, .unk, .unk, .unk, .unk, .unk, .unk, .unk, .unk, .unk, .unk, .unk, .unk, .unk, .unk, .unk, .unk, .unk, .unk, .unk, .unk, .unk, .unk, .unk, .unk, .unk, .unk, .unk, .unk, .unk, .unk, .unk, .unk, .unk, .unk, .unk, .unk, .unk, .unk, .unk, .unk, .unk, .unk, .unk, .unk, .unk, .unk, .unk, .unk, .unk, .unk, .unk, .unk, .unk, .unk, .unk, .unk, .unk, .unk, .unk, .unk, .unk, .unk, .unk, .unk, .unk, .unk, .unk, .unk, .unk, .unk, .unk, .unk, .unk, .unk, .unk, .unk, .unk, .unk, .unk, .unk, .unk, .unk, .unk, .unk, .unk, .unk, .unk, .unk, .unk, .unk, .unk, .unk, .unk, .unk, .unk, .unk, .unk, .unk, .unk, .unk, .unk, .unk, .unk, .unk, .unk, .unk, .unk, .unk, .unk, .unk, .unk, .unk, .unk, .unk, .unk, .unk, .unk, .unk, .unk, .unk, .unk, .unk, .unk, .unk, .unk, .unk, .unk, .unk, .unk, .unk, .unk, .unk, .unk, .unk, .unk, .unk, .unk, .unk, .unk, .unk, .unk, .unk, .unk, .unk, .unk, .unk, .unk, .unk, .unk, .unk, .unk, .unk, .unk, .unk, .unk, .unk, .unk, .unk, .unk, .unk, .unk, .unk, .unk, .unk, .unk, .unk, .unk, .unk, .unk, .unk] := rfl
@[go_sem] theorem ks175_3 (v0 v1 v2 v3 v4 v5 v6 v7 v8 v9 v10 v11 v12 v13 v14 v15 v16 v17 v18 v19 v20 v21 v22 v23 v24 v25 v26 v27 v28 v29 v30 v31 v32 v33 v34 v35 v36 v37 v38 v39 v40 v41 v42 v43 v44 v45 v46 v47 v48 v49 v50 v51 v52 v53 v54 v55 v56 v57 v58 v59 v60 v61 v62 v63 v64 v65 v66 v67 v68 v69 v70 v71 v72 v73 v74 v75 v76 v77 v78 v79 v80 v81 v82 v83 v84 v85 v86 v87 v88 v89 v90 v91 v92 v93 v94 v95 v96 v97 v98 v99 v100 v101 v102 v103 v104 v105 v106 v107 v108 v109 v110 v111 v112 v113 v114 v115 v116 v117 v118 v119 v120 v121 v122 v123 v124 v125 v126 v127 v128 v129 v130 v131 v132 v133 v134 v135 v136 v137 v138 v139 v140 v141 v142 v143 v144 v145 v146 v147 v148 v149 v150 v151 v152 v153 v154 v155 v156 v157 v158 v159 v160 v161 v162 v163 v164 v165 v166 v167 v168 v169 v170 v171 v172 v173 v174 v175 v176 v177 v178 v179 v180 v181 v182 v183 v184 v185 v186 : AV) : keepS [0, 7, 8, 9, 12] [v0, v1, v2, v3, v4, v5, v6, v7, v8, v9, v10, v11, v12, v13, v14, v15, v16, v17, v18, v19, v20, v21, v22, v23, v24, v25, v26, v27, v28, v29, v30, v31, v32, v33, v34, v35, v36, v37, v38, v39, v40, v41, v42, v43, v44, v45, v46, v47, v48, v49, v50, v51, v52, v53, v54, v55, v56, v57, v58, v59, v60, v61, v62, v63, v64, v65, v66, v67, v68, v69, v70, v71, v72, v73, v74, v75, v76, v77, v78, v79, v80, v81, v82, v83, v84, v85, v86, v87, v88, v89, v90, v91, v92, v93, v94, v95, v96, v97, v98, v99, v100, v101, v102, v103, v104, v105, v106, v107, v108, v109, v110, v111, v112, v113, v114, v115, v116, v117, v118, v119, v120, v121, v122, v123, v124, v125, v126, v127, v128, v129, v130, v131, v132, v133, v134, v135, v136, v137, v138, v139, v140, v141, v142, v143, v144, v145, v146, v147, v148, v149, v150, v151, v152, v153, v154, v155, v156, v157, v158, v159, v160, v161, v162, v163, v164, v165, v166, v167, v168, v169, v170, v171, v172, v173, v174, v175, v176, v177, v178, v179, v180, v181, v182, v183, v184, v185, v186] 0 = [v0, .unk, .unk, .unk, .unk, .unk, .unk, v7, v8, v9, .unk, .unk, v12, .unk, .unk, .unk, .unk, .unk, .unk, .unk, .unk, .unk, .unk, .unk, .unk, .unk, .unk, .unk, .unk, .unk, .unk, .unk, .unk, .unk, .unk, .unk, .unk, .unk, .unk, .unk, .unk, .unk, .unk, .unk, .unk, .unk, .unk, .unk, .unk, .unk, .unk, .unk, .unk, .unk, .unk, .unk, .unk, .unk, .unk, .unk, .unk, .unk, .unk, .unk, .unk, .unk, .unk, .unk, .unk, .unk, .unk, .unk, .unk, .unk, .unk, .unk, .unk, .unk, .unk, .unk, .unk, .unk, .unk, .unk, .unk, .unk, .unk, .unk, .unk, .unk, .unk, .unk, .unk, .unk, .unk, .unk, .unk, .unk, .unk, .unk, .unk, .unk, .unk, .unk, .unk, .unk, .unk, .unk, .unk, .unk, .unk, .unk, .unk, .unk, .unk, .unk, .unk, .unk, .unk, .unk, .unk, .unk, .unk, .unk, .unk, .unk, .unk, .unk, .unk, .unk, .unk, .unk, .unk, .unk, .unk, .unk, .unk, .unk, .unk, .unk, .unk, .unk, .unk, .unk, .unk, .unk, .unk, .unk, .unk, .unk, .unk, .unk, .unk, .unk, .unk, .unk, .unk, .unk, .unk, .unk, .unk, .unk, .unk, .unk, .unk, .unk, .unk, .unk, .unk, .unk, .unk, .unk, .unk, .unk, .unk, .unk, .unk, .unk, .unk, .unk, .unk, .unk, .unk, .unk, .unk, .unk, .unk] := rfl
@[go_sem] theorem ks175_4 (v0 v1 v2 v3 v4 v5 v6 v7 v8 v9 v10 v11 v12 v13 v14 v15 v16 v17 v18 v19 v20 v21 v22 v23 v24 v25 v26 v27 v28 v29 v30 v31 v32 v33 v34 v35 v36 v37 v38 v39 v40 v41 v42 v43 v44 v45 v46 v47 v48 v49 v50 v51 v52 v53 v54 v55 v56 v57 v58 v59 v60 v61 v62 v63 v64 v65 v66 v67 v68 v69 v70 v71 v72 v73 v74 v75 v76 v77 v78 v79 v80 v81 v82 v83 v84 v85 v86 v87 v88 v89 v90 v91 v92 v93 v94 v95 v96 v97 v98 v99 v100 v101 v102 v103 v104 v105 v106 v107 v108 v109 v110 v111 v112 v113 v114 v115 v116 v117 v118 v119 v120 v121 v122 v123 v124 v125 v126 v127 v128 v129 v130 v131 v132 v133 v134 v135 v136 v137 v138 v139 v140 v141 v142 v143 v144 v145 v146 v147 v148 v149 v150 v151 v152 v153 v154 v155 v156 v157 v158 v159 v160 v161 v162 v163 v164 v165 v166 v167 v168 v169 v170 v171 v172 v173 v174 v175 v176 v177 v178 v179 v180 v181 v182 v183 v184 v185 v186 : AV) : keepS [8, 9] [v0, v1, v2, v3, v4, v5, v6, v7, v8, v9, v10, v11, v12, v13, v14, v15, v16, v17, v18, v19, v20, v21, v22, v23, v24, v25, v26, v27, v28, v29, v30, v31, v32, v33, v34, v35, v36, v37, v38, v39, v40, v41, v42, v43, v44, v45, v46, v47, v48, v49, v50, v51, v52, v53, v54, v55, v56, v57, v58, v59, v60, v61, v62, v63, v64, v65, v66, v67, v68, v69, v70, v71, v72, v73, v74, v75, v76, v77, v78, v79, v80, v81, v82, v83, v84, v85, v86, v87, v88, v89, v90, v91, v92, v93, v94, v95, v96, v97, v98, v99, v100, v101, v102, v103, v104, v105, v106, v107, v108, v109, v110, v111, v112, v113, v114, v115, v116, v117, v118, v119, v120, v121, v122, v123, v124, v125, v126, v127, v128, v129, v130, v131, v132, v133, v134, v135, v136, v137, v138, v139, v140, v141, v142, v143, v144, v145, v146, v147, v148, v149, v150, v151, v152, v153, v154, v155, v156, v157, v158, v159, v160, v161, v162, v163, v164, v165, v166, v167, v168, v169, v170, v171, v172, v173, v174, v175, v176, v177, v178, v179, v180, v181, v182, v183, v184, v185, v186] 0 = [.unk, .unk, .unk, .unk, .unk, .unk, .unk, .unk, v8, v9, .unk, .unk, .unk, .unk, .unk, .unk, .unk, .unk, .unk, .unk, .unk, .unk, .unk, .unk, .unk, .unk, .unk, .unk, .unk, .unk, .unk, .unk, .unk, .unk, .unk, .unk, .unk, .unk, .unk, .unk, .unk, .unk, .unk, .unk, .unk, .unk, .unk, .unk, .unk, .unk, .unk, .unk, .unk, .unk, .unk, .unk, .unk, .unk, .unk, .unk, .unk, .unk, .unk, .unk, .unk, .unk, .unk, .unk, .unk, .unk, .unk, .unk, .unk, .unk, .unk, .unk, .unk, .unk, .unk, .unk, .unk, .unk, .unk, .unk, .unk, .unk, .unk, .unk, .unk, .unk, .unk, .unk, .unk, .unk, .unk, .unk, .unk, .unk, .unk, .unk, .unk, .unk, .unk, .unk, .unk, .unk, .unk, .unk, .unk, .unk, .unk, .unk, .unk, .unk, .unk, .unk, .unk, .unk, .unk, .unk, .unk, .unk, .unk, .unk, .unk, .unk, .unk, .unk, .unk, .unk, .unk, .unk, .unk, .unk, .unk, .unk, .unk, .unk, .unk, .unk, .unk, .unk, .unk, .unk, .unk, .unk, .unk, .unk, .unk, .unk, .unk, .unk, .unk, .unk, .unk, .unk, .unk, .unk, .unk, .unk, .unk, .unk, .unk, .unk, .unk, .unk, .unk, .unk, .unk, .unk, .unk, .unk, .unk, .unk, .unk, .unk, .unk, .unk, .unk, .unk, .unk, .unk, .unk, .unk, .unk, .unk, .unk] := rfl
@[go_sem] theorem ks175_5 (v0 v1 v2 v3 v4 v5 v6 v7 v8 v9 v10 v11 v12 v13 v14 v15 v16 v17 v18 v19 v20 v21 v22 v23 v24 v25 v26 v27 v28 v29 v30 v31 v32 v33 v34 v35 v36 v37 v38 v39 v40 v41 v42 v43 v44 v45 v46 v47 v48 v49 v50 v51 v52 v53 v54 v55 v56 v57 v58 v59 v60 v61 v62 v63 v64 v65 v66 v67 v68 v69 v70 v71 v72 v73 v74 v75 v76 v77 v78 v79 v80 v81 v82 v83 v84 v85 v86 v87 v88 v89 v90 v91 v92 v93 v94 v95 v96 v97 v98 v99 v100 v101 v102 v103 v104 v105 v106 v107 v108 v109 v110 v111 v112 v113 v114 v115 v116 v117 v118 v119 v120 v121 v122 v123 v124 v125 v126 v127 v128 v129 v130 v131 v132 v133 v134 v135 v136 v137 v138 v139 v140 v141 v142 v143 v144 v145 v146 v147 v148 v149 v150 v151 v152 v153 v154 v155 v156 v157 v158 v159 v160 v161 v162 v163 v164 v165 v166 v167 v168 v169 v170 v171 v172 v173 v174 v175 v176 v177 v178 v179 v180 v181 v182 v183 v184 v185 v186 : AV) : keepS [0, 7, 8, 9, 14, 15] [v0, v1, v2, v3, v4, v5, v6, v7, v8, v9, v10, v11, v12, v13, v14, v15, v16, v17, v18, v19, v20, v21, v22, v23, v24, v25, v26, v27, v28, v29, v30, v31, v32, v33, v34, v35, v36, v37, v38, v39, v40, v41, v42, v43, v44, v45, v46, v47, v48, v49, v50, v51, v52, v53, v54, v55, v56, v57, v58, v59, v60, v61, v62, v63, v64, v65, v66, v67, v68, v69, v70, v71, v72, v73, v74, v75, v76, v77, v78, v79, v80, v81, v82, v83, v84, v85, v86, v87, v88, v89, v90, v91, v92, v93, v94, v95, v96, v97, v98, v99, v100, v101, v102, v103, v104, v105, v106, v107, v108, v109, v110, v111, v112, v113, v114, v115, v116, v117, v118, v119, v120, v121, v122, v123, v124, v125, v126, v127, v128, v129, v130, v131, v132, v133, v134, v135, v136, v137, v138, v139, v140, v141, v142, v143, v144, v145, v146, v147, v148, v149, v150, v151, v152, v153, v154, v155, v156, v157, v158, v159, v160, v161, v162, v163, v164, v165, v166, v167, v168, v169, v170, v171, v172, v173, v174, v175, v176, v177, v178, v179, v180, v181, v182, v183, v184, v185, v186] 0 = [v0, .unk, .unk, .unk, .unk, .unk, .unk, v7, v8, v9, .unk, .unk, .unk, .unk, v14, v15, .unk, .unk, .unk, .unk, .unk, .unk, .unk, .unk, .unk, .unk, .unk, .unk, .unk, .unk, .unk, .unk, .unk, .unk, .unk, .unk, .unk, .unk, .unk, .unk, .unk, .unk, .unk, .unk, .unk, .unk, .unk, .unk, .unk, .unk, .unk, .unk, .unk, .unk, .unk, .unk, .unk, .unk, .unk, .unk, .unk, .unk, .unk, .unk, .unk, .unk, .unk, .unk, .unk, .unk, .unk, .unk, .unk, .unk, .unk, .unk, .unk, .unk, .unk, .unk, .unk, .unk, .unk, .unk, .unk, .unk, .unk, .unk, .unk, .unk, .unk, .unk, .unk, .unk, .unk, .unk, .unk, .unk, .unk, .unk, .unk, .unk, .unk, .unk, .unk, .unk, .unk, .unk, .unk, .unk, .unk, .unk, .unk, .unk, .unk, .unk, .unk, .unk, .unk, .unk, .unk, .unk, .unk, .unk, .unk, .unk, .unk, .unk, .unk, .unk, .unk, .unk, .unk, .unk, .unk, .unk, .unk, .unk, .unk, .unk, .unk, .unk, .unk, .unk, .unk, .unk, .unk, .unk, .unk, .unk, .unk, .unk, .unk, .unk, .unk, .unk, .unk, .unk, .unk, .unk, .unk, .unk, .unk, .unk, .unk, .unk, .unk, .unk, .unk, .unk, .unk, .unk, .unk, .unk, .unk, .unk, .unk, .unk, .unk, .unk, .unk, .unk, .unk, .unk, .unk, .unk, .unk] := rfl
@[go_sem] theorem ks175_6 (v0 v1 v2 v3 v4 v5 v6 v7 v8 v9 v10 v11 v12 v13 v14 v15 v16 v17 v18 v19 v20 v21 v22 v23 v24 v25 v26 v27 v28 v29 v30 v31 v32 v33 v34 v35 v36 v37 v38 v39 v40 v41 v42 v43 v44 v45 v46 v47 v48 v49 v50 v51 v52 v53 v54 v55 v56 v57 v58 v59 v60 v61 v62 v63 v64 v65 v66 v67 v68 v69 v70 v71 v72 v73 v74 v75 v76 v77 v78 v79 v80 v81 v82 v83 v84 v85 v86 v87 v88 v89 v90 v91 v92 v93 v94 v95 v96 v97 v98 v99 v100 v101 v102 v103 v104 v105 v106 v107 v108 v109 v110 v111 v112 v113 v114 v115 v116 v117 v118 v119 v120 v121 v122 v123 v124 v125 v126 v127 v128 v129 v130 v131 v132 v133 v134 v135 v136 v137 v138 v139 v140 v141 v142 v143 v144 v145 v146 v147 v148 v149 v150 v151 v152 v153 v154 v155 v156 v157 v158 v159 v160 v161 v162 v163 v164 v165 v166 v167 v168 v169 v170 v171 v172 v173 v174 v175 v176 v177 v178 v179 v180 v181 v182 v183 v184 v185 v186 : AV) : keepS [0, 7, 8, 9, 14, 15, 16] [v0, v1, v2, v3, v4, v5, v6, v7, v8, v9, v10, v11, v12, v13, v14, v15, v16, v17, v18, v19, v20, v21, v22, v23, v24, v25, v26, v27, v28, v29, v30, v31, v32, v33, v34, v35, v36, v37, v38, v39, v40, v41, v42, v43, v44, v45, v46, v47, v48, v49, v50, v51, v52, v53, v54, v55, v56, v57, v58, v59, v60, v61, v62, v63, v64, v65, v66, v67, v68, v69, v70, v71, v72, v73, v74, v75, v76, v77, v78, v79, v80, v81, v82, v83, v84, v85, v86, v87, v88, v89, v90, v91, v92, v93, v94, v95, v96, v97, v98, v99, v100, v101, v102, v103, v104, v105, v106, v107, v108, v109, v110, v111, v112, v113, v114, v115, v116, v117, v118, v119, v120, v121, v122, v123, v124, v125, v126, v127, v128, v129, v130, v131, v132, v133, v134, v135, v136, v137, v138, v139, v140, v141, v142, v143, v144, v145, v146, v147, v148, v149, v150, v151, v152, v153, v154, v155, v156, v157, v158, v159, v160, v161, v162, v163, v164, v165, v166, v167, v168, v169, v170, v171, v172, v173, v174, v175, v176, v177, v178, v179, v180, v181, v182, v183, v184, v185, v186] 0 = [v0, .unk, .unk, .unk, .unk, .unk, .unk, v7, v8, v9, .unk, .unk, .unk, .unk, v14, v15, v16, .unk, .unk, .unk, .unk, .unk, .unk, .unk, .unk, .unk, .unk, .unk, .unk, .unk, .unk, .unk, .unk, .unk, .unk, .unk, .unk, .unk, .unk, .unk, .unk, .unk, .unk, .unk, .unk, .unk, .unk, .unk, .unk, .unk, .unk, .unk, .unk, .unk, .unk, .unk, .unk, .unk, .unk, .unk, .unk, .unk, .unk, .unk, .unk, .unk, .unk, .unk, .unk, .unk, .unk, .unk, .unk, .unk, .unk, .unk, .unk, .unk, .unk, .unk, .unk, .unk, .unk, .unk, .unk, .unk, .unk, .unk, .unk, .unk, .unk, .unk, .unk, .unk, .unk, .unk, .unk, .unk, .unk, .unk, .unk, .unk, .unk, .unk, .unk, .unk, .unk, .unk, .unk, .unk, .unk, .unk, .unk, .unk, .unk, .unk, .unk, .unk, .unk, .unk, .unk, .unk, .unk, .unk, .unk, .unk, .unk, .unk, .unk, .unk, .unk, .unk, .unk, .unk, .unk, .unk, .unk, .unk, .unk, .unk, .unk, .unk, .unk, .unk, .unk, .unk, .unk, .unk, .unk, .unk, .unk, .unk, .unk, .unk, .unk, .unk, .unk, .unk, .unk, .unk, .unk, .unk, .unk, .unk, .unk, .unk, .unk, .unk, .unk, .unk, .unk, .unk, .unk, .unk, .unk, .unk, .unk, .unk, .unk, .unk, .unk, .unk, .unk, .unk, .unk, .unk, .unk] := rfl
/-- strings.IndexRune -/
def bd175 : C :=
 (.seq (.reg [⟨some 4, none, .mv (.c (.d (.int .i64 0))), .none⟩])
 (.block 0 (.seq (.reg [⟨some 161, none, .mv (.s 1), .none⟩,
 ⟨some 162, none, .bin .leq (.c (.d (.int .i32 0))) (.s 161), .none⟩,
 ⟨some 163, none, .mv (.s 162), .none⟩,
 ⟨some 164, some (163, true), .mv (.s 1), .none⟩,
 ⟨some 165, some (163, true), .bin .lss (.s 164) (.c (.d (.int .i32 128))), .none⟩,
 ⟨some 166, none, .pick (.s 163) (.s 165) (.c (.d (.bool false))), .none⟩,
 ⟨some 160, none, .mv (.s 166), .none⟩])
 (.cond (.s 160)
 (.seq (.reg [⟨some 167, none, .mv (.s 0), .none⟩,
 ⟨some 168, none, .mv (.s 1), .none⟩,
 ⟨some 169, none, .cvi .u8 (.s 168), .none⟩,
 ⟨some 170, none, .call 129 [.s 167, .s 169] 2, .none⟩,
 ⟨some 4, none, .mv (.s 170), .none⟩])
 (.ret none))
 (.seq (.reg [⟨some 172, none, .mv (.s 1), .none⟩,
 ⟨some 173, none, .bin .eql (.s 172) (.c (.d (.int .i32 65533))), .none⟩,
 ⟨some 171, none, .mv (.s 173), .none⟩])
 (.cond (.s 171)
 (.seq (.seq (.reg [⟨some 174, none, .mv (.s 0), .none⟩,
 ⟨some 175, none, .bad, .none⟩])
 (.block 9 (.loop [] lp175_0)))
 (.seq (.reg [⟨some 4, none, .mv (.c (.d (.int .i64 (-1)))), .none⟩])
 (.ret none)))
 (.seq (.reg [⟨some 184, none, .mv (.s 1), .none⟩,
 ⟨some 185, none, .call 176 [.s 184] 2, .none⟩,
 ⟨some 186, none, .un .not (.s 185), .none⟩,
 ⟨some 183, none, .mv (.s 186), .none⟩])
 (.cond (.s 183)
 (.seq (.reg [⟨some 4, none, .mv (.c (.d (.int .i64 (-1)))), .none⟩])
 (.ret none))
 (.scp (.seq (.reg [⟨some 17, none, .mv (.s 1), .none⟩,
 ⟨some 18, none, .bad, .none⟩,
 ⟨some 7, none, .mv (.s 18), .none⟩])
 (.seq (.reg [⟨some 19, none, .mv (.s 7), .none⟩,
 ⟨some 20, none, .lens (.s 19), .none⟩,
 ⟨some 21, none, .bin .sub (.s 20) (.c (.d (.int .i64 1))), .none⟩,
 ⟨some 8, none, .mv (.s 21), .none⟩])
 (.seq (.reg [⟨some 22, none, .mv (.s 8), .none⟩,
 ⟨some 9, none, .mv (.s 22), .none⟩])
 (.seq (.reg [⟨some 10, none, .mv (.c (.d (.int .i64 0))), .none⟩])
 (.seq (.block 1 (.loop [0, 7, 8, 9] lp175_1))
 (.seq (.seq (.reg [⟨some 4, none, .mv (.c (.d (.int .i64 (-1)))), .none⟩])
 (.ret none))
 (.seq .skip
 (.seq (.cond (.c (.d (.bool true)))
 (.seq (.reg [⟨some 99, none, .mv (.s 0), .none⟩,
 ⟨some 100, none, .mv (.s 9), .none⟩,
 ⟨some 101, none, .mv (.s 8), .none⟩,
 ⟨some 102, none, .bin .sub (.s 100) (.s 101), .none⟩,
 ⟨some 103, none, .ssl (.s 99) (some (.s 102)) none, .none⟩,
 ⟨some 104, none, .mv (.s 1), .none⟩,
 ⟨some 105, none, .bad, .none⟩,
 ⟨some 106, none, .bad, .none⟩,
 ⟨some 13, none, .mv (.s 106), .none⟩])
 (.seq (.reg [⟨some 107, none, .mv (.s 13), .none⟩,
 ⟨some 108, none, .bin .geq (.s 107) (.c (.d (.int .i64 0))), .none⟩])
 (.cond (.s 108)
 (.seq (.reg [⟨some 109, none, .mv (.s 9), .none⟩,
 ⟨some 110, none, .mv (.s 13), .none⟩,
 ⟨some 111, none, .bin .add (.s 109) (.s 110), .none⟩,
 ⟨some 112, none, .mv (.s 8), .none⟩,
 ⟨some 113, none, .bin .sub (.s 111) (.s 112), .none⟩,
 ⟨some 4, none, .mv (.s 113), .none⟩])
 (.ret none))
 .skip)))
 (.scp (.seq (.reg [⟨some 114, none, .mv (.s 7), .none⟩,
 ⟨some 115, none, .mv (.s 8), .none⟩,
 ⟨some 116, none, .sti (.s 114) (.s 115), .none⟩,
 ⟨some 14, none, .mv (.s 116), .none⟩])
 (.seq (.reg [⟨some 117, none, .mv (.s 7), .none⟩,
 ⟨some 118, none, .mv (.s 8), .none⟩,
 ⟨some 119, none, .bin .sub (.s 118) (.c (.d (.int .i64 1))), .none⟩,
 ⟨some 120, none, .sti (.s 117) (.s 119), .none⟩,
 ⟨some 15, none, .mv (.s 120), .none⟩])
 (.seq .skip
 (.block 5 (.loop [0, 7, 8, 9, 14, 15] lp175_3)))))))
 (.ann [] (.seq (.reg [⟨some 4, none, .mv (.c (.d (.int .i64 (-1)))), .none⟩])
 (.ret none))))))))))))))))))))
def ir175 : F := { n := 187, res := [.tmp 4], body := bd175 }
@[go_sem] theorem n175 : ir175.n = 187 := rfl
@[go_sem] theorem r175 : ir175.res = [.tmp 4] := rfl
@[go_sem] theorem b175 : ir175.body = bd175 := rfl
/-- unicode/utf8.ValidRune -/
def bd176 : C :=
 (.seq (.reg [⟨some 2, none, .mv (.c (.d (.bool false))), .none⟩])
 (.seq (.block 0 (.seq (.reg [⟨some 4, none, .mv (.s 0), .none⟩,
 ⟨some 5, none, .bin .leq (.c (.d (.int .i32 0))) (.s 4), .none⟩,
 ⟨some 6, none, .mv (.s 5), .none⟩,
 ⟨some 7, some (6, true), .mv (.s 0), .none⟩,
 ⟨some 8, some (6, true), .bin .lss (.s 7) (.c (.d (.int .i32 55296))), .none⟩,
 ⟨some 9, none, .pick (.s 6) (.s 8) (.c (.d (.bool false))), .none⟩,
 ⟨some 3, none, .mv (.s 9), .none⟩])
 (.cond (.s 3)
 (.seq (.reg [⟨some 2, none, .mv (.c (.d (.bool true))), .none⟩])
 (.ret none))
 (.seq (.reg [⟨some 11, none, .mv (.s 0), .none⟩,
 ⟨some 12, none, .bin .lss (.c (.d (.int .i32 57343))) (.s 11), .none⟩,
 ⟨some 13, none, .mv (.s 12), .none⟩,
 ⟨some 14, some (13, true), .mv (.s 0), .none⟩,
 ⟨some 15, some (13, true), .bin .leq (.s 14) (.c (.d (.int .i32 1114111))), .none⟩,
 ⟨some 16, none, .pick (.s 13) (.s 15) (.c (.d (.bool false))), .none⟩,
 ⟨some 10, none, .mv (.s 16), .none⟩])
 (.cond (.s 10)
 (.seq (.reg [⟨some 2, none, .mv (.c (.d (.bool true))), .none⟩])
 (.ret none))
 .skip)))))
 (.seq (.reg [⟨some 2, none, .mv (.c (.d (.bool false))), .none⟩])
 (.ret none))))
def ir176 : F := { n := 17, res := [.tmp 2], body := bd176 }
@[go_sem] theorem n176 : ir176.n = 17 := rfl
@[go_sem] theorem r176 : ir176.res = [.tmp 2] := rfl
@[go_sem] theorem b176 : ir176.body = bd176 := rfl

def irf : FuncId → Option F
 | 7 => some ir7
 | 8 => some ir8
 | 26 => some ir26
 | 27 => some ir27
 | 28 => some ir28
 | 29 => some ir29
 | 30 => some ir30
 | 31 => some ir31
 | 39 => some ir39
 | 41 => some ir41
 | 45 => some ir45
 | 51 => some ir51
 | 52 => some ir52
 | 53 => some ir53
 | 54 => some ir54
 | 55 => some ir55
 | 56 => some ir56
 | 57 => some ir57
 | 58 => some ir58
 | 59 => some ir59
 | 60 => some ir60
 | 61 => some ir61
 | 62 => some ir62
 | 63 => some ir63
 | 64 => some ir64
 | 75 => some ir75
 | 76 => some ir76
 | 77 => some ir77
 | 78 => some ir78
 | 79 => some ir79
 | 80 => some ir80
 | 81 => some ir81
 | 82 => some ir82
 | 83 => some ir83
 | 84 => some ir84
 | 85 => some ir85
 | 87 => some ir87
 | 89 => some ir89
 | 90 => some ir90
 | 91 => some ir91
 | 92 => some ir92
 | 93 => some ir93
 | 106 => some ir106
 | 107 => some ir107
 | 109 => some ir109
 | 110 => some ir110
 | 111 => some ir111
 | 112 => some ir112
 | 113 => some ir113
 | 114 => some ir114
 | 115 => some ir115
 | 116 => some ir116
 | 117 => some ir117
 | 118 => some ir118
 | 121 => some ir121
 | 130 => some ir130
 | 131 => some ir131
 | 132 => some ir132
 | 133 => some ir133
 | 134 => some ir134
 | 135 => some ir135
 | 148 => some ir148
 | 149 => some ir149
 | 150 => some ir150
 | 158 => some ir158
 | 162 => some ir162
 | 164 => some ir164
 | 167 => some ir167
 | 168 => some ir168
 | 169 => some ir169
 | 170 => some ir170
 | 171 => some ir171
 | 172 => some ir172
 | 173 => some ir173
 | 174 => some ir174
 | 175 => some ir175
 | 176 => some ir176
 | _ => none
def ir : IR := ⟨irf, natOr (natSF spanE spanS 88 89) (natOr (natSC 86 2 16) (natOr (natIB 129) (natNo)))⟩
theorem nat_eq : ir.nat = natOr (natSF spanE spanS 88 89) (natOr (natSC 86 2 16) (natOr (natIB 129) (natNo))) := rfl
theorem c7 : cF Tryd.prog 7 = some ir7.strip := by kernel_rfl
theorem k7 : ir7.body.okD = true := by kernel_rfl
theorem c8 : cF Tryd.prog 8 = some ir8.strip := by kernel_rfl
theorem k8 : ir8.body.okD = true := by kernel_rfl
theorem c26 : cF Tryd.prog 26 = some ir26.strip := by kernel_rfl
theorem k26 : ir26.body.okD = true := by kernel_rfl
theorem c27 : cF Tryd.prog 27 = some ir27.strip := by kernel_rfl
theorem k27 : ir27.body.okD = true := by kernel_rfl
theorem c28 : cF Tryd.prog 28 = some ir28.strip := by kernel_rfl
theorem k28 : ir28.body.okD = true := by kernel_rfl
theorem c29 : cF Tryd.prog 29 = some ir29.strip := by kernel_rfl
theorem k29 : ir29.body.okD = true := by kernel_rfl
theorem c30 : cF Tryd.prog 30 = some ir30.strip := by kernel_rfl
theorem k30 : ir30.body.okD = true := by kernel_rfl
theorem c31 : cF Tryd.prog 31 = some ir31.strip := by kernel_rfl
theorem k31 : ir31.body.okD = true := by kernel_rfl
theorem c39 : cF Tryd.prog 39 = some ir39.strip := by kernel_rfl
theorem k39 : ir39.body.okD = true := by kernel_rfl
theorem c41 : cF Tryd.prog 41 = some ir41.strip := by kernel_rfl
theorem k41 : ir41.body.okD = true := by kernel_rfl
theorem c45 : cF Tryd.prog 45 = some ir45.strip := by kernel_rfl
theorem k45 : ir45.body.okD = true := by kernel_rfl
theorem c51 : cF Tryd.prog 51 = some ir51.strip := by kernel_rfl
theorem k51 : ir51.body.okD = true := by kernel_rfl
theorem c52 : cF Tryd.prog 52 = some ir52.strip := by kernel_rfl
theorem k52 : ir52.body.okD = true := by kernel_rfl
theorem c53 : cF Tryd.prog 53 = some ir53.strip := by kernel_rfl
theorem k53 : ir53.body.okD = true := by kernel_rfl
theorem c54 : cF Tryd.prog 54 = some ir54.strip := by kernel_rfl
theorem k54 : ir54.body.okD = true := by kernel_rfl
theorem c55 : cF Tryd.prog 55 = some ir55.strip := by kernel_rfl
theorem k55 : ir55.body.okD = true := by kernel_rfl
theorem c56 : cF Tryd.prog 56 = some ir56.strip := by kernel_rfl
theorem k56 : ir56.body.okD = true := by kernel_rfl
theorem c57 : cF Tryd.prog 57 = some ir57.strip := by kernel_rfl
theorem k57 : ir57.body.okD = true := by kernel_rfl
theorem c58 : cF Tryd.prog 58 = some ir58.strip := by kernel_rfl
theorem k58 : ir58.body.okD = true := by kernel_rfl
theorem c59 : cF Tryd.prog 59 = some ir59.strip := by kernel_rfl
theorem k59 : ir59.body.okD = true := by kernel_rfl
theorem c60 : cF Tryd.prog 60 = some ir60.strip := by kernel_rfl
theorem k60 : ir60.body.okD = true := by kernel_rfl
theorem c61 : cF Tryd.prog 61 = some ir61.strip := by kernel_rfl
theorem k61 : ir61.body.okD = true := by kernel_rfl
theorem c62 : cF Tryd.prog 62 = some ir62.strip := by kernel_rfl
theorem k62 : ir62.body.okD = true := by kernel_rfl
theorem c63 : cF Tryd.prog 63 = some ir63.strip := by kernel_rfl
theorem k63 : ir63.body.okD = true := by kernel_rfl
theorem c64 : cF Tryd.prog 64 = some ir64.strip := by kernel_rfl
theorem k64 : ir64.body.okD = true := by kernel_rfl
theorem c75 : cF Tryd.prog 75 = some ir75.strip := by kernel_rfl
theorem k75 : ir75.body.okD = true := by kernel_rfl
theorem c76 : cF Tryd.prog 76 = some ir76.strip := by kernel_rfl
theorem k76 : ir76.body.okD = true := by kernel_rfl
theorem c77 : cF Tryd.prog 77 = some ir77.strip := by kernel_rfl
theorem k77 : ir77.body.okD = true := by kernel_rfl
theorem c78 : cF Tryd.prog 78 = some ir78.strip := by kernel_rfl
theorem k78 : ir78.body.okD = true := by kernel_rfl
theorem c79 : cF Tryd.prog 79 = some ir79.strip := by kernel_rfl
theorem k79 : ir79.body.okD = true := by kernel_rfl
theorem c80 : cF Tryd.prog 80 = some ir80.strip := by kernel_rfl
theorem k80 : ir80.body.okD = true := by kernel_rfl
theorem c81 : cF Tryd.prog 81 = some ir81.strip := by kernel_rfl
theorem k81 : ir81.body.okD = true := by kernel_rfl
theorem c82 : cF Tryd.prog 82 = some ir82.strip := by kernel_rfl
theorem k82 : ir82.body.okD = true := by kernel_rfl
theorem c83 : cF Tryd.prog 83 = some ir83.strip := by kernel_rfl
theorem k83 : ir83.body.okD = true := by kernel_rfl
theorem c84 : cF Tryd.prog 84 = some ir84.strip := by kernel_rfl
theorem k84 : ir84.body.okD = true := by kernel_rfl
theorem c85 : cF Tryd.prog 85 = some ir85.strip := by kernel_rfl
theorem k85 : ir85.body.okD = true := by kernel_rfl
theorem c87 : cF Tryd.prog 87 = some ir87.strip := by kernel_rfl
theorem k87 : ir87.body.okD = true := by kernel_rfl
theorem c89 : cF Tryd.prog 89 = some ir89.strip := by kernel_rfl
theorem k89 : ir89.body.okD = true := by kernel_rfl
theorem c90 : cF Tryd.prog 90 = some ir90.strip := by kernel_rfl
theorem k90 : ir90.body.okD = true := by kernel_rfl
theorem c91 : cF Tryd.prog 91 = some ir91.strip := by kernel_rfl
theorem k91 : ir91.body.okD = true := by kernel_rfl
theorem c92 : cF Tryd.prog 92 = some ir92.strip := by kernel_rfl
theorem k92 : ir92.body.okD = true := by kernel_rfl
theorem c93 : cF Tryd.prog 93 = some ir93.strip := by kernel_rfl
theorem k93 : ir93.body.okD = true := by kernel_rfl
theorem c106 : cF Tryd.prog 106 = some ir106.strip := by kernel_rfl
theorem k106 : ir106.body.okD = true := by kernel_rfl
theorem c107 : cF Tryd.prog 107 = some ir107.strip := by kernel_rfl
theorem k107 : ir107.body.okD = true := by kernel_rfl
theorem c109 : cF Tryd.prog 109 = some ir109.strip := by kernel_rfl
theorem k109 : ir109.body.okD = true := by kernel_rfl
theorem c110 : cF Tryd.prog 110 = some ir110.strip := by kernel_rfl
theorem k110 : ir110.body.okD = true := by kernel_rfl
theorem c111 : cF Tryd.prog 111 = some ir111.strip := by kernel_rfl
theorem k111 : ir111.body.okD = true := by kernel_rfl
theorem c112 : cF Tryd.prog 112 = some ir112.strip := by kernel_rfl
theorem k112 : ir112.body.okD = true := by kernel_rfl
theorem c113 : cF Tryd.prog 113 = some ir113.strip := by kernel_rfl
theorem k113 : ir113.body.okD = true := by kernel_rfl
theorem c114 : cF Tryd.prog 114 = some ir114.strip := by kernel_rfl
theorem k114 : ir114.body.okD = true := by kernel_rfl
theorem c115 : cF Tryd.prog 115 = some ir115.strip := by kernel_rfl
theorem k115 : ir115.body.okD = true := by kernel_rfl
theorem c116 : cF Tryd.prog 116 = some ir116.strip := by kernel_rfl
theorem k116 : ir116.body.okD = true := by kernel_rfl
theorem c117 : cF Tryd.prog 117 = some ir117.strip := by kernel_rfl
theorem k117 : ir117.body.okD = true := by kernel_rfl
theorem c118 : cF Tryd.prog 118 = some ir118.strip := by kernel_rfl
theorem k118 : ir118.body.okD = true := by kernel_rfl
theorem c121 : cF Tryd.prog 121 = some ir121.strip := by kernel_rfl
theorem k121 : ir121.body.okD = true := by kernel_rfl
theorem c130 : cF Tryd.prog 130 = some ir130.strip := by kernel_rfl
theorem k130 : ir130.body.okD = true := by kernel_rfl
theorem c131 : cF Tryd.prog 131 = some ir131.strip := by kernel_rfl
theorem k131 : ir131.body.okD = true := by kernel_rfl
theorem c132 : cF Tryd.prog 132 = some ir132.strip := by kernel_rfl
theorem k132 : ir132.body.okD = true := by kernel_rfl
theorem c133 : cF Tryd.prog 133 = some ir133.strip := by kernel_rfl
theorem k133 : ir133.body.okD = true := by kernel_rfl
theorem c134 : cF Tryd.prog 134 = some ir134.strip := by kernel_rfl
theorem k134 : ir134.body.okD = true := by kernel_rfl
theorem c135 : cF Tryd.prog 135 = some ir135.strip := by kernel_rfl
theorem k135 : ir135.body.okD = true := by kernel_rfl
theorem c148 : cF Tryd.prog 148 = some ir148.strip := by kernel_rfl
theorem k148 : ir148.body.okD = true := by kernel_rfl
theorem c149 : cF Tryd.prog 149 = some ir149.strip := by kernel_rfl
theorem k149 : ir149.body.okD = true := by kernel_rfl
theorem c150 : cF Tryd.prog 150 = some ir150.strip := by kernel_rfl
theorem k150 : ir150.body.okD = true := by kernel_rfl
theorem c158 : cF Tryd.prog 158 = some ir158.strip := by kernel_rfl
theorem k158 : ir158.body.okD = true := by kernel_rfl
theorem c162 : cF Tryd.prog 162 = some ir162.strip := by kernel_rfl
theorem k162 : ir162.body.okD = true := by kernel_rfl
theorem c164 : cF Tryd.prog 164 = some ir164.strip := by kernel_rfl
theorem k164 : ir164.body.okD = true := by kernel_rfl
theorem c167 : cF Tryd.prog 167 = some ir167.strip := by kernel_rfl
theorem k167 : ir167.body.okD = true := by kernel_rfl
theorem c168 : cF Tryd.prog 168 = some ir168.strip := by kernel_rfl
theorem k168 : ir168.body.okD = true := by kernel_rfl
theorem c169 : cF Tryd.prog 169 = some ir169.strip := by kernel_rfl
theorem k169 : ir169.body.okD = true := by kernel_rfl
theorem c170 : cF Tryd.prog 170 = some ir170.strip := by kernel_rfl
theorem k170 : ir170.body.okD = true := by kernel_rfl
theorem c171 : cF Tryd.prog 171 = some ir171.strip := by kernel_rfl
theorem k171 : ir171.body.okD = true := by kernel_rfl
theorem c172 : cF Tryd.prog 172 = some ir172.strip := by kernel_rfl
theorem k172 : ir172.body.okD = true := by kernel_rfl
theorem c173 : cF Tryd.prog 173 = some ir173.strip := by kernel_rfl
theorem k173 : ir173.body.okD = true := by kernel_rfl
theorem c174 : cF Tryd.prog 174 = some ir174.strip := by kernel_rfl
theorem k174 : ir174.body.okD = true := by kernel_rfl
theorem c175 : cF Tryd.prog 175 = some ir175.strip := by kernel_rfl
theorem k175 : ir175.body.okD = true := by kernel_rfl
theorem c176 : cF Tryd.prog 176 = some ir176.strip := by kernel_rfl
theorem k176 : ir176.body.okD = true := by kernel_rfl
theorem tab : Tab Tryd.prog ir := by
 refine ⟨by kernel_rfl, fun f fn h => ?_, natOr_snd (Tryd.sortN) (natOr_snd (Tryd.cloneSN) (natOr_snd (Tryd.ixbN) (natNo_snd)))⟩
 change irf f = some fn at h
 unfold irf at h
 split at h
 · cases h; exact ⟨c7, k7⟩
 · cases h; exact ⟨c8, k8⟩
 · cases h; exact ⟨c26, k26⟩
 · cases h; exact ⟨c27, k27⟩
 · cases h; exact ⟨c28, k28⟩
 · cases h; exact ⟨c29, k29⟩
 · cases h; exact ⟨c30, k30⟩
 · cases h; exact ⟨c31, k31⟩
 · cases h; exact ⟨c39, k39⟩
 · cases h; exact ⟨c41, k41⟩
 · cases h; exact ⟨c45, k45⟩
 · cases h; exact ⟨c51, k51⟩
 · cases h; exact ⟨c52, k52⟩
 · cases h; exact ⟨c53, k53⟩
 · cases h; exact ⟨c54, k54⟩
 · cases h; exact ⟨c55, k55⟩
 · cases h; exact ⟨c56, k56⟩
 · cases h; exact ⟨c57, k57⟩
 · cases h; exact ⟨c58, k58⟩
 · cases h; exact ⟨c59, k59⟩
 · cases h; exact ⟨c60, k60⟩
 · cases h; exact ⟨c61, k61⟩
 · cases h; exact ⟨c62, k62⟩
 · cases h; exact ⟨c63, k63⟩
 · cases h; exact ⟨c64, k64⟩
 · cases h; exact ⟨c75, k75⟩
 · cases h; exact ⟨c76, k76⟩
 · cases h; exact ⟨c77, k77⟩
 · cases h; exact ⟨c78, k78⟩
 · cases h; exact ⟨c79, k79⟩
 · cases h; exact ⟨c80, k80⟩
 · cases h; exact ⟨c81, k81⟩
 · cases h; exact ⟨c82, k82⟩
 · cases h; exact ⟨c83, k83⟩
 · cases h; exact ⟨c84, k84⟩
 · cases h; exact ⟨c85, k85⟩
 · cases h; exact ⟨c87, k87⟩
 · cases h; exact ⟨c89, k89⟩
 · cases h; exact ⟨c90, k90⟩
 · cases h; exact ⟨c91, k91⟩
 · cases h; exact ⟨c92, k92⟩
 · cases h; exact ⟨c93, k93⟩
 · cases h; exact ⟨c106, k106⟩
 · cases h; exact ⟨c107, k107⟩
 · cases h; exact ⟨c109, k109⟩
 · cases h; exact ⟨c110, k110⟩
 · cases h; exact ⟨c111, k111⟩
 · cases h; exact ⟨c112, k112⟩
 · cases h; exact ⟨c113, k113⟩
 · cases h; exact ⟨c114, k114⟩
 · cases h; exact ⟨c115, k115⟩
 · cases h; exact ⟨c116, k116⟩
 · cases h; exact ⟨c117, k117⟩
 · cases h; exact ⟨c118, k118⟩
 · cases h; exact ⟨c121, k121⟩
 · cases h; exact ⟨c130, k130⟩
 · cases h; exact ⟨c131, k131⟩
 · cases h; exact ⟨c132, k132⟩
 · cases h; exact ⟨c133, k133⟩
 · cases h; exact ⟨c134, k134⟩
 · cases h; exact ⟨c135, k135⟩
 · cases h; exact ⟨c148, k148⟩
 · cases h; exact ⟨c149, k149⟩
 · cases h; exact ⟨c150, k150⟩
 · cases h; exact ⟨c158, k158⟩
 · cases h; exact ⟨c162, k162⟩
 · cases h; exact ⟨c164, k164⟩
 · cases h; exact ⟨c167, k167⟩
 · cases h; exact ⟨c168, k168⟩
 · cases h; exact ⟨c169, k169⟩
 · cases h; exact ⟨c170, k170⟩
 · cases h; exact ⟨c171, k171⟩
 · cases h; exact ⟨c172, k172⟩
 · cases h; exact ⟨c173, k173⟩
 · cases h; exact ⟨c174, k174⟩
 · cases h; exact ⟨c175, k175⟩
 · cases h; exact ⟨c176, k176⟩
 · cases h
end Go.Proofs.YtpibecljdooilaaDoor.Ir
