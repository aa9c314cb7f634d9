/- The texts of the functions in the small language. Printed by a program of my own (irgen.py). -/
import Derived.Test.YtefcgdcmhhgfgaaEvSim
import Derived.Test.YtefcgdcmhhgfgaaProg
namespace Go.Proofs.Ytefcgdcmhhgfgaa.Ir
open Go Go.Ev

def lb3_2 : C :=
  (.seq (.reg [⟨some 60, none, .bin .lss (.s 59) (.c (.d (.int .i64 16))), .none⟩])
  (.seq (.cond (.s 60)
    .skip
    (.exit 4 (some [1, 2, 3, 9, 10, 11])))
  (.seq (.block 5 (.seq (.reg [⟨some 61, none, .mv (.s 59), .none⟩,
        ⟨some 15, none, .mv (.s 61), .none⟩])
    (.seq (.drw [⟨some 62, none, .ld (.s 9) 17 true, .none⟩,
        ⟨some 63, none, .mv (.s 15), .none⟩,
        ⟨some 64, none, .call 15 [.s 62, .s 63] 2, .none⟩,
        ⟨some 65, none, .mv (.s 15), .none⟩,
        ⟨some 66, none, .ia (.s 10) (.s 65) 16 1, .none⟩,
        ⟨some 67, none, .ld (.s 66) 1 false, .none⟩,
        ⟨some 68, none, .bin .neq (.s 64) (.s 67), .none⟩]
       [[], [], [0, 1], [], [3], [4], [2, 5]])
    (.cond (.s 68)
     (.seq (.reg [⟨some 8, none, .mv (.c (.d (.bool false))), .none⟩])
     (.ret (some [8])))
     .skip))))
  (.reg [⟨some 69, none, .bin .add (.s 59) (.c (.d (.int .i64 1))), .none⟩,
     ⟨some 59, none, .mv (.s 69), .none⟩]))))
def lp3_2 : C := lb3_2
theorem u3_2 (c : Ev.Callee) (l : Ev.Looper) (s : St) : evC c l lp3_2 s = evC c l lb3_2 s := rfl
abbrev st3_2 (m : Nat) (s1 s2 s3 s9 s10 s11 s59 : AV) (h : Heap) : St := ⟨m, [.unk, s1, s2, s3, .unk, .unk, .unk, .unk, .unk, s9, s10, s11, .unk, .unk, .unk, .unk, .unk, .unk, .unk, .unk, .unk, .unk, .unk, .unk, .unk, .unk, .unk, .unk, .unk, .unk, .unk, .unk, .unk, .unk, .unk, .unk, .unk, .unk, .unk, .unk, .unk, .unk, .unk, .unk, .unk, .unk, .unk, .unk, .unk, .unk, .unk, .unk, .unk, .unk, .unk, .unk, .unk, .unk, .unk, s59, .unk, .unk, .unk, .unk, .unk, .unk, .unk, .unk, .unk, .unk, .unk, .unk, .unk, .unk, .unk, .unk, .unk, .unk, .unk, .unk, .unk, .unk, .unk, .unk, .unk, .unk, .unk, .unk, .unk, .unk, .unk, .unk, .unk, .unk, .unk, .unk, .unk, .unk, .unk, .unk, .unk, .unk, .unk, .unk, .unk, .unk, .unk, .unk, .unk, .unk, .unk, .unk, .unk, .unk, .unk, .unk, .unk], h⟩
def lb3_1 : C :=
  (.seq (.reg [⟨some 49, none, .bin .lss (.s 48) (.c (.d (.int .i64 16))), .none⟩])
  (.seq (.cond (.s 49)
    .skip
    (.exit 2 (some [1, 2, 3, 9, 10, 11, 23, 24, 25])))
  (.seq (.block 3 (.seq (.reg [⟨some 50, none, .mv (.s 48), .none⟩,
        ⟨some 14, none, .mv (.s 50), .none⟩])
    (.reg [⟨some 51, none, .mv (.s 14), .none⟩,
       ⟨some 52, none, .mv (.s 14), .none⟩,
       ⟨some 53, none, .ia (.s 10) (.s 52) 16 1, .none⟩,
       ⟨some 54, none, .ld (.s 53) 1 false, .none⟩,
       ⟨some 55, none, .bin .quo (.s 54) (.c (.d (.int .i64 2))), .none⟩,
       ⟨some 56, none, .ia (.s 10) (.s 51) 16 1, .none⟩,
       ⟨none, none, .st (.s 56) (.s 55) 1, .none⟩])))
  (.reg [⟨some 57, none, .bin .add (.s 48) (.c (.d (.int .i64 1))), .none⟩,
     ⟨some 48, none, .mv (.s 57), .none⟩]))))
def lp3_1 : C := lb3_1
theorem u3_1 (c : Ev.Callee) (l : Ev.Looper) (s : St) : evC c l lp3_1 s = evC c l lb3_1 s := rfl
abbrev st3_1 (m : Nat) (s1 s2 s3 s9 s10 s11 s23 s24 s25 s48 : AV) (h : Heap) : St := ⟨m, [.unk, s1, s2, s3, .unk, .unk, .unk, .unk, .unk, s9, s10, s11, .unk, .unk, .unk, .unk, .unk, .unk, .unk, .unk, .unk, .unk, .unk, s23, s24, s25, .unk, .unk, .unk, .unk, .unk, .unk, .unk, .unk, .unk, .unk, .unk, .unk, .unk, .unk, .unk, .unk, .unk, .unk, .unk, .unk, .unk, .unk, s48, .unk, .unk, .unk, .unk, .unk, .unk, .unk, .unk, .unk, .unk, .unk, .unk, .unk, .unk, .unk, .unk, .unk, .unk, .unk, .unk, .unk, .unk, .unk, .unk, .unk, .unk, .unk, .unk, .unk, .unk, .unk, .unk, .unk, .unk, .unk, .unk, .unk, .unk, .unk, .unk, .unk, .unk, .unk, .unk, .unk, .unk, .unk, .unk, .unk, .unk, .unk, .unk, .unk, .unk, .unk, .unk, .unk, .unk, .unk, .unk, .unk, .unk, .unk, .unk, .unk, .unk, .unk, .unk], h⟩
def lb3_0 : C :=
  (.seq (.reg [⟨some 26, none, .bin .lss (.s 25) (.s 24), .none⟩])
  (.seq (.cond (.s 26)
    .skip
    (.exit 0 (some [1, 2, 3, 9, 10, 11])))
  (.seq (.block 1 (.seq (.reg [⟨some 27, none, .is (.s 23) (.s 25) 1, .none⟩,
        ⟨some 28, none, .ld (.s 27) 1 false, .none⟩,
        ⟨some 13, none, .mv (.s 28), .none⟩])
    (.seq (.reg [⟨some 29, none, .ld (.s 9) 17 true, .none⟩,
        ⟨some 30, none, .mv (.s 13), .none⟩,
        ⟨some 31, none, .call 14 [.s 29, .s 30] 2, .none⟩,
        ⟨none, none, .st (.s 9) (.s 31) 17, .none⟩])
    (.seq (.seq (.reg [⟨some 32, none, .mv (.s 13), .none⟩,
         ⟨some 33, none, .bin .lss (.s 32) (.c (.d (.int .i64 0))), .none⟩,
         ⟨some 34, none, .mv (.s 33), .none⟩,
         ⟨some 35, some (34, false), .mv (.s 13), .none⟩,
         ⟨some 36, some (34, false), .bin .gtr (.s 35) (.c (.d (.int .i64 15))), .none⟩,
         ⟨some 37, none, .pick (.s 34) (.c (.d (.bool true))) (.s 36), .none⟩])
     (.cond (.s 37)
      (.exit 1 none)
      .skip))
    (.seq (.reg [⟨some 38, none, .mv (.s 13), .none⟩,
        ⟨some 39, none, .ia (.s 10) (.s 38) 16 1, .none⟩,
        ⟨some 40, none, .ld (.s 39) 1 false, .none⟩,
        ⟨some 41, none, .bin .add (.s 40) (.c (.d (.int .i64 1))), .none⟩,
        ⟨some 42, none, .ia (.s 10) (.s 38) 16 1, .none⟩,
        ⟨none, none, .st (.s 42) (.s 41) 1, .none⟩])
    (.seq (.reg [⟨some 43, none, .mv (.s 11), .none⟩,
        ⟨some 44, none, .bin .add (.s 43) (.c (.d (.int .i64 1))), .none⟩,
        ⟨some 11, none, .mv (.s 44), .none⟩])
    (.seq (.reg [⟨some 45, none, .mv (.s 11), .none⟩,
        ⟨some 46, none, .bin .rem (.s 45) (.c (.d (.int .i64 32))), .none⟩,
        ⟨some 47, none, .bin .eql (.s 46) (.c (.d (.int .i64 0))), .none⟩])
    (.cond (.s 47)
     (.seq (.reg [⟨some 48, none, .mv (.c (.d (.int .i64 0))), .none⟩])
     (.block 2 (.loop [1, 2, 3, 9, 10, 11, 23, 24, 25, 48] lp3_1)))
     .skip))))))))
  (.reg [⟨some 58, none, .bin .add (.s 25) (.c (.d (.int .i64 1))), .none⟩,
     ⟨some 25, none, .mv (.s 58), .none⟩]))))
def lp3_0 : C := lb3_0
theorem u3_0 (c : Ev.Callee) (l : Ev.Looper) (s : St) : evC c l lp3_0 s = evC c l lb3_0 s := rfl
abbrev st3_0 (m : Nat) (s1 s2 s3 s9 s10 s11 s23 s24 s25 : AV) (h : Heap) : St := ⟨m, [.unk, s1, s2, s3, .unk, .unk, .unk, .unk, .unk, s9, s10, s11, .unk, .unk, .unk, .unk, .unk, .unk, .unk, .unk, .unk, .unk, .unk, s23, s24, s25, .unk, .unk, .unk, .unk, .unk, .unk, .unk, .unk, .unk, .unk, .unk, .unk, .unk, .unk, .unk, .unk, .unk, .unk, .unk, .unk, .unk, .unk, .unk, .unk, .unk, .unk, .unk, .unk, .unk, .unk, .unk, .unk, .unk, .unk, .unk, .unk, .unk, .unk, .unk, .unk, .unk, .unk, .unk, .unk, .unk, .unk, .unk, .unk, .unk, .unk, .unk, .unk, .unk, .unk, .unk, .unk, .unk, .unk, .unk, .unk, .unk, .unk, .unk, .unk, .unk, .unk, .unk, .unk, .unk, .unk, .unk, .unk, .unk, .unk, .unk, .unk, .unk, .unk, .unk, .unk, .unk, .unk, .unk, .unk, .unk, .unk, .unk, .unk, .unk, .unk, .unk], h⟩
@[go_sem] theorem ks3_0 (v0 v1 v2 v3 v4 v5 v6 v7 v8 v9 v10 v11 v12 v13 v14 v15 v16 v17 v18 v19 v20 v21 v22 v23 v24 v25 v26 v27 v28 v29 v30 v31 v32 v33 v34 v35 v36 v37 v38 v39 v40 v41 v42 v43 v44 v45 v46 v47 v48 v49 v50 v51 v52 v53 v54 v55 v56 v57 v58 v59 v60 v61 v62 v63 v64 v65 v66 v67 v68 v69 v70 v71 v72 v73 v74 v75 v76 v77 v78 v79 v80 v81 v82 v83 v84 v85 v86 v87 v88 v89 v90 v91 v92 v93 v94 v95 v96 v97 v98 v99 v100 v101 v102 v103 v104 v105 v106 v107 v108 v109 v110 v111 v112 v113 v114 v115 v116 : AV) : keepS [1, 2, 3, 9, 10, 11, 23, 24, 25] [v0, v1, v2, v3, v4, v5, v6, v7, v8, v9, v10, v11, v12, v13, v14, v15, v16, v17, v18, v19, v20, v21, v22, v23, v24, v25, v26, v27, v28, v29, v30, v31, v32, v33, v34, v35, v36, v37, v38, v39, v40, v41, v42, v43, v44, v45, v46, v47, v48, v49, v50, v51, v52, v53, v54, v55, v56, v57, v58, v59, v60, v61, v62, v63, v64, v65, v66, v67, v68, v69, v70, v71, v72, v73, v74, v75, v76, v77, v78, v79, v80, v81, v82, v83, v84, v85, v86, v87, v88, v89, v90, v91, v92, v93, v94, v95, v96, v97, v98, v99, v100, v101, v102, v103, v104, v105, v106, v107, v108, v109, v110, v111, v112, v113, v114, v115, v116] 0 = [.unk, v1, v2, v3, .unk, .unk, .unk, .unk, .unk, v9, v10, v11, .unk, .unk, .unk, .unk, .unk, .unk, .unk, .unk, .unk, .unk, .unk, v23, v24, v25, .unk, .unk, .unk, .unk, .unk, .unk, .unk, .unk, .unk, .unk, .unk, .unk, .unk, .unk, .unk, .unk, .unk, .unk, .unk, .unk, .unk, .unk, .unk, .unk, .unk, .unk, .unk, .unk, .unk, .unk, .unk, .unk, .unk, .unk, .unk, .unk, .unk, .unk, .unk, .unk, .unk, .unk, .unk, .unk, .unk, .unk, .unk, .unk, .unk, .unk, .unk, .unk, .unk, .unk, .unk, .unk, .unk, .unk, .unk, .unk, .unk, .unk, .unk, .unk, .unk, .unk, .unk, .unk, .unk, .unk, .unk, .unk, .unk, .unk, .unk, .unk, .unk, .unk, .unk, .unk, .unk, .unk, .unk, .unk, .unk, .unk, .unk, .unk, .unk, .unk, .unk] := rfl
@[go_sem] theorem ks3_1 (v0 v1 v2 v3 v4 v5 v6 v7 v8 v9 v10 v11 v12 v13 v14 v15 v16 v17 v18 v19 v20 v21 v22 v23 v24 v25 v26 v27 v28 v29 v30 v31 v32 v33 v34 v35 v36 v37 v38 v39 v40 v41 v42 v43 v44 v45 v46 v47 v48 v49 v50 v51 v52 v53 v54 v55 v56 v57 v58 v59 v60 v61 v62 v63 v64 v65 v66 v67 v68 v69 v70 v71 v72 v73 v74 v75 v76 v77 v78 v79 v80 v81 v82 v83 v84 v85 v86 v87 v88 v89 v90 v91 v92 v93 v94 v95 v96 v97 v98 v99 v100 v101 v102 v103 v104 v105 v106 v107 v108 v109 v110 v111 v112 v113 v114 v115 v116 : AV) : keepS [1, 2, 3, 9, 10, 11] [v0, v1, v2, v3, v4, v5, v6, v7, v8, v9, v10, v11, v12, v13, v14, v15, v16, v17, v18, v19, v20, v21, v22, v23, v24, v25, v26, v27, v28, v29, v30, v31, v32, v33, v34, v35, v36, v37, v38, v39, v40, v41, v42, v43, v44, v45, v46, v47, v48, v49, v50, v51, v52, v53, v54, v55, v56, v57, v58, v59, v60, v61, v62, v63, v64, v65, v66, v67, v68, v69, v70, v71, v72, v73, v74, v75, v76, v77, v78, v79, v80, v81, v82, v83, v84, v85, v86, v87, v88, v89, v90, v91, v92, v93, v94, v95, v96, v97, v98, v99, v100, v101, v102, v103, v104, v105, v106, v107, v108, v109, v110, v111, v112, v113, v114, v115, v116] 0 = [.unk, v1, v2, v3, .unk, .unk, .unk, .unk, .unk, v9, v10, v11, .unk, .unk, .unk, .unk, .unk, .unk, .unk, .unk, .unk, .unk, .unk, .unk, .unk, .unk, .unk, .unk, .unk, .unk, .unk, .unk, .unk, .unk, .unk, .unk, .unk, .unk, .unk, .unk, .unk, .unk, .unk, .unk, .unk, .unk, .unk, .unk, .unk, .unk, .unk, .unk, .unk, .unk, .unk, .unk, .unk, .unk, .unk, .unk, .unk, .unk, .unk, .unk, .unk, .unk, .unk, .unk, .unk, .unk, .unk, .unk, .unk, .unk, .unk, .unk, .unk, .unk, .unk, .unk, .unk, .unk, .unk, .unk, .unk, .unk, .unk, .unk, .unk, .unk, .unk, .unk, .unk, .unk, .unk, .unk, .unk, .unk, .unk, .unk, .unk, .unk, .unk, .unk, .unk, .unk, .unk, .unk, .unk, .unk, .unk, .unk, .unk, .unk, .unk, .unk, .unk] := rfl
@[go_sem] theorem ks3_2 (v0 v1 v2 v3 v4 v5 v6 v7 v8 v9 v10 v11 v12 v13 v14 v15 v16 v17 v18 v19 v20 v21 v22 v23 v24 v25 v26 v27 v28 v29 v30 v31 v32 v33 v34 v35 v36 v37 v38 v39 v40 v41 v42 v43 v44 v45 v46 v47 v48 v49 v50 v51 v52 v53 v54 v55 v56 v57 v58 v59 v60 v61 v62 v63 v64 v65 v66 v67 v68 v69 v70 v71 v72 v73 v74 v75 v76 v77 v78 v79 v80 v81 v82 v83 v84 v85 v86 v87 v88 v89 v90 v91 v92 v93 v94 v95 v96 v97 v98 v99 v100 v101 v102 v103 v104 v105 v106 v107 v108 v109 v110 v111 v112 v113 v114 v115 v116 : AV) : keepS [1, 2, 3, 9, 10, 11, 23, 24, 25, 48] [v0, v1, v2, v3, v4, v5, v6, v7, v8, v9, v10, v11, v12, v13, v14, v15, v16, v17, v18, v19, v20, v21, v22, v23, v24, v25, v26, v27, v28, v29, v30, v31, v32, v33, v34, v35, v36, v37, v38, v39, v40, v41, v42, v43, v44, v45, v46, v47, v48, v49, v50, v51, v52, v53, v54, v55, v56, v57, v58, v59, v60, v61, v62, v63, v64, v65, v66, v67, v68, v69, v70, v71, v72, v73, v74, v75, v76, v77, v78, v79, v80, v81, v82, v83, v84, v85, v86, v87, v88, v89, v90, v91, v92, v93, v94, v95, v96, v97, v98, v99, v100, v101, v102, v103, v104, v105, v106, v107, v108, v109, v110, v111, v112, v113, v114, v115, v116] 0 = [.unk, v1, v2, v3, .unk, .unk, .unk, .unk, .unk, v9, v10, v11, .unk, .unk, .unk, .unk, .unk, .unk, .unk, .unk, .unk, .unk, .unk, v23, v24, v25, .unk, .unk, .unk, .unk, .unk, .unk, .unk, .unk, .unk, .unk, .unk, .unk, .unk, .unk, .unk, .unk, .unk, .unk, .unk, .unk, .unk, .unk, v48, .unk, .unk, .unk, .unk, .unk, .unk, .unk, .unk, .unk, .unk, .unk, .unk, .unk, .unk, .unk, .unk, .unk, .unk, .unk, .unk, .unk, .unk, .unk, .unk, .unk, .unk, .unk, .unk, .unk, .unk, .unk, .unk, .unk, .unk, .unk, .unk, .unk, .unk, .unk, .unk, .unk, .unk, .unk, .unk, .unk, .unk, .unk, .unk, .unk, .unk, .unk, .unk, .unk, .unk, .unk, .unk, .unk, .unk, .unk, .unk, .unk, .unk, .unk, .unk, .unk, .unk, .unk, .unk] := rfl
@[go_sem] theorem ks3_3 (v0 v1 v2 v3 v4 v5 v6 v7 v8 v9 v10 v11 v12 v13 v14 v15 v16 v17 v18 v19 v20 v21 v22 v23 v24 v25 v26 v27 v28 v29 v30 v31 v32 v33 v34 v35 v36 v37 v38 v39 v40 v41 v42 v43 v44 v45 v46 v47 v48 v49 v50 v51 v52 v53 v54 v55 v56 v57 v58 v59 v60 v61 v62 v63 v64 v65 v66 v67 v68 v69 v70 v71 v72 v73 v74 v75 v76 v77 v78 v79 v80 v81 v82 v83 v84 v85 v86 v87 v88 v89 v90 v91 v92 v93 v94 v95 v96 v97 v98 v99 v100 v101 v102 v103 v104 v105 v106 v107 v108 v109 v110 v111 v112 v113 v114 v115 v116 : AV) : keepS [1, 2, 3, 9, 10, 11, 59] [v0, v1, v2, v3, v4, v5, v6, v7, v8, v9, v10, v11, v12, v13, v14, v15, v16, v17, v18, v19, v20, v21, v22, v23, v24, v25, v26, v27, v28, v29, v30, v31, v32, v33, v34, v35, v36, v37, v38, v39, v40, v41, v42, v43, v44, v45, v46, v47, v48, v49, v50, v51, v52, v53, v54, v55, v56, v57, v58, v59, v60, v61, v62, v63, v64, v65, v66, v67, v68, v69, v70, v71, v72, v73, v74, v75, v76, v77, v78, v79, v80, v81, v82, v83, v84, v85, v86, v87, v88, v89, v90, v91, v92, v93, v94, v95, v96, v97, v98, v99, v100, v101, v102, v103, v104, v105, v106, v107, v108, v109, v110, v111, v112, v113, v114, v115, v116] 0 = [.unk, v1, v2, v3, .unk, .unk, .unk, .unk, .unk, v9, v10, v11, .unk, .unk, .unk, .unk, .unk, .unk, .unk, .unk, .unk, .unk, .unk, .unk, .unk, .unk, .unk, .unk, .unk, .unk, .unk, .unk, .unk, .unk, .unk, .unk, .unk, .unk, .unk, .unk, .unk, .unk, .unk, .unk, .unk, .unk, .unk, .unk, .unk, .unk, .unk, .unk, .unk, .unk, .unk, .unk, .unk, .unk, .unk, v59, .unk, .unk, .unk, .unk, .unk, .unk, .unk, .unk, .unk, .unk, .unk, .unk, .unk, .unk, .unk, .unk, .unk, .unk, .unk, .unk, .unk, .unk, .unk, .unk, .unk, .unk, .unk, .unk, .unk, .unk, .unk, .unk, .unk, .unk, .unk, .unk, .unk, .unk, .unk, .unk, .unk, .unk, .unk, .unk, .unk, .unk, .unk, .unk, .unk, .unk, .unk, .unk, .unk, .unk, .unk, .unk, .unk] := rfl
@[go_sem] theorem ks3_4 (v0 v1 v2 v3 v4 v5 v6 v7 v8 v9 v10 v11 v12 v13 v14 v15 v16 v17 v18 v19 v20 v21 v22 v23 v24 v25 v26 v27 v28 v29 v30 v31 v32 v33 v34 v35 v36 v37 v38 v39 v40 v41 v42 v43 v44 v45 v46 v47 v48 v49 v50 v51 v52 v53 v54 v55 v56 v57 v58 v59 v60 v61 v62 v63 v64 v65 v66 v67 v68 v69 v70 v71 v72 v73 v74 v75 v76 v77 v78 v79 v80 v81 v82 v83 v84 v85 v86 v87 v88 v89 v90 v91 v92 v93 v94 v95 v96 v97 v98 v99 v100 v101 v102 v103 v104 v105 v106 v107 v108 v109 v110 v111 v112 v113 v114 v115 v116 : AV) : keepS [8] [v0, v1, v2, v3, v4, v5, v6, v7, v8, v9, v10, v11, v12, v13, v14, v15, v16, v17, v18, v19, v20, v21, v22, v23, v24, v25, v26, v27, v28, v29, v30, v31, v32, v33, v34, v35, v36, v37, v38, v39, v40, v41, v42, v43, v44, v45, v46, v47, v48, v49, v50, v51, v52, v53, v54, v55, v56, v57, v58, v59, v60, v61, v62, v63, v64, v65, v66, v67, v68, v69, v70, v71, v72, v73, v74, v75, v76, v77, v78, v79, v80, v81, v82, v83, v84, v85, v86, v87, v88, v89, v90, v91, v92, v93, v94, v95, v96, v97, v98, v99, v100, v101, v102, v103, v104, v105, v106, v107, v108, v109, v110, v111, v112, v113, v114, v115, v116] 0 = [.unk, .unk, .unk, .unk, .unk, .unk, .unk, .unk, v8, .unk, .unk, .unk, .unk, .unk, .unk, .unk, .unk, .unk, .unk, .unk, .unk, .unk, .unk, .unk, .unk, .unk, .unk, .unk, .unk, .unk, .unk, .unk, .unk, .unk, .unk, .unk, .unk, .unk, .unk, .unk, .unk, .unk, .unk, .unk, .unk, .unk, .unk, .unk, .unk, .unk, .unk, .unk, .unk, .unk, .unk, .unk, .unk, .unk, .unk, .unk, .unk, .unk, .unk, .unk, .unk, .unk, .unk, .unk, .unk, .unk, .unk, .unk, .unk, .unk, .unk, .unk, .unk, .unk, .unk, .unk, .unk, .unk, .unk, .unk, .unk, .unk, .unk, .unk, .unk, .unk, .unk, .unk, .unk, .unk, .unk, .unk, .unk, .unk, .unk, .unk, .unk, .unk, .unk, .unk, .unk, .unk, .unk, .unk, .unk, .unk, .unk, .unk, .unk, .unk, .unk, .unk, .unk] := rfl
/-- spence/spencelaw26.AdmitDoes -/
def bd3 : C :=
  (.seq (.reg [⟨some 8, none, .mv (.c (.d (.bool false))), .none⟩])
  (.seq (.seq (.reg [⟨some 17, none, .call 12 [] 2, .none⟩,
       ⟨some 18, none, .un .not (.s 17), .none⟩])
   (.cond (.s 18)
    (.seq (.reg [⟨some 8, none, .mv (.c (.d (.bool false))), .none⟩])
    (.ret none))
    .skip))
  (.seq (.seq (.reg [⟨some 19, none, .mv (.s 0), .none⟩,
       ⟨some 20, none, .len (.s 19), .none⟩,
       ⟨some 21, none, .bin .gtr (.s 20) (.c (.d (.int .i64 200))), .none⟩])
   (.cond (.s 21)
    (.seq (.reg [⟨some 8, none, .mv (.c (.d (.bool true))), .none⟩])
    (.ret none))
    .skip))
  (.seq (.reg [⟨some 22, none, .call 13 [] 2, .none⟩,
      ⟨some 9, none, .alloc 26 [.int .i64 0, .int .i64 0, .int .i64 0, .int .i64 0, .int .i64 0, .int .i64 0, .int .i64 0, .int .i64 0, .int .i64 0, .int .i64 0, .int .i64 0, .int .i64 0, .int .i64 0, .int .i64 0, .int .i64 0, .int .i64 0, .int .i64 0], .none⟩,
      ⟨none, none, .st (.s 9) (.s 22) 17, .none⟩])
  (.seq (.reg [⟨some 10, none, .alloc 24 [.int .i64 0, .int .i64 0, .int .i64 0, .int .i64 0, .int .i64 0, .int .i64 0, .int .i64 0, .int .i64 0, .int .i64 0, .int .i64 0, .int .i64 0, .int .i64 0, .int .i64 0, .int .i64 0, .int .i64 0, .int .i64 0], .none⟩])
  (.seq (.reg [⟨some 11, none, .mv (.c (.d (.int .i64 0))), .none⟩])
  (.seq (.seq (.reg [⟨some 23, none, .mv (.s 0), .none⟩,
       ⟨some 24, none, .len (.s 23), .none⟩,
       ⟨some 25, none, .mv (.c (.d (.int .i64 0))), .none⟩])
   (.block 0 (.loop [1, 2, 3, 9, 10, 11, 23, 24, 25] lp3_0)))
  (.seq (.seq (.reg [⟨some 59, none, .mv (.c (.d (.int .i64 0))), .none⟩])
   (.block 4 (.loop [1, 2, 3, 9, 10, 11, 59] lp3_2)))
  (.seq (.reg [⟨some 16, none, .mv (.c (.d (.int .i64 0))), .none⟩])
  (.seq (.seq (.reg [⟨some 70, none, .mv (.s 1), .none⟩,
       ⟨some 71, none, .bin .geq (.s 70) (.c (.d (.int .i64 0))), .none⟩,
       ⟨some 72, none, .mv (.s 71), .none⟩,
       ⟨some 73, some (72, true), .mv (.s 1), .none⟩,
       ⟨some 74, some (72, true), .bin .lss (.s 73) (.c (.d (.int .i64 16))), .none⟩,
       ⟨some 75, none, .pick (.s 72) (.s 74) (.c (.d (.bool false))), .none⟩])
   (.cond (.s 75)
    (.reg [⟨some 76, none, .mv (.s 1), .none⟩,
       ⟨some 77, none, .ia (.s 10) (.s 76) 16 1, .none⟩,
       ⟨some 78, none, .ld (.s 77) 1 false, .none⟩,
       ⟨some 16, none, .mv (.s 78), .none⟩])
    .skip))
  (.seq (.reg [⟨some 79, none, .ld (.s 9) 17 true, .none⟩,
      ⟨some 80, none, .mv (.s 1), .none⟩,
      ⟨some 81, none, .call 15 [.s 79, .s 80] 2, .none⟩,
      ⟨some 82, none, .mv (.s 16), .none⟩,
      ⟨some 83, none, .bin .eql (.s 81) (.s 82), .none⟩,
      ⟨some 84, none, .mv (.s 83), .none⟩,
      ⟨some 85, some (84, true), .ld (.s 9) 17 true, .none⟩,
      ⟨some 86, some (84, true), .call 16 [.s 85] 2, .none⟩,
      ⟨some 87, some (84, true), .mv (.s 11), .none⟩,
      ⟨some 88, some (84, true), .bin .eql (.s 86) (.s 87), .none⟩,
      ⟨some 89, none, .pick (.s 84) (.s 88) (.c (.d (.bool false))), .none⟩,
      ⟨some 90, none, .mv (.s 89), .none⟩,
      ⟨some 91, some (90, true), .ld (.s 9) 17 true, .none⟩,
      ⟨some 92, some (90, true), .mv (.s 1), .none⟩,
      ⟨some 93, some (90, true), .mv (.s 2), .none⟩,
      ⟨some 94, some (90, true), .mv (.s 3), .none⟩,
      ⟨some 95, some (90, true), .call 17 [.s 91, .s 92, .s 93, .s 94] 2, .none⟩,
      ⟨some 96, some (90, true), .mv (.s 1), .none⟩,
      ⟨some 97, some (90, true), .bin .geq (.s 96) (.c (.d (.int .i64 0))), .none⟩,
      ⟨some 98, some (90, true), .mv (.s 97), .none⟩,
      ⟨some 99, some (98, true), .mv (.s 1), .none⟩,
      ⟨some 100, some (98, true), .bin .lss (.s 99) (.c (.d (.int .i64 16))), .none⟩,
      ⟨some 101, some (90, true), .pick (.s 98) (.s 100) (.c (.d (.bool false))), .none⟩,
      ⟨some 102, some (90, true), .mv (.s 101), .none⟩,
      ⟨some 103, some (102, true), .mv (.s 2), .none⟩,
      ⟨some 104, some (102, true), .bin .geq (.s 103) (.c (.d (.int .i64 0))), .none⟩,
      ⟨some 105, some (90, true), .pick (.s 102) (.s 104) (.c (.d (.bool false))), .none⟩,
      ⟨some 106, some (90, true), .mv (.s 105), .none⟩,
      ⟨some 107, some (106, true), .mv (.s 2), .none⟩,
      ⟨some 108, some (106, true), .mv (.s 3), .none⟩,
      ⟨some 109, some (106, true), .bin .leq (.s 107) (.s 108), .none⟩,
      ⟨some 110, some (90, true), .pick (.s 106) (.s 109) (.c (.d (.bool false))), .none⟩,
      ⟨some 111, some (90, true), .mv (.s 110), .none⟩,
      ⟨some 112, some (111, true), .mv (.s 16), .none⟩,
      ⟨some 113, some (111, true), .bin .geq (.s 112) (.c (.d (.int .i64 2))), .none⟩,
      ⟨some 114, some (90, true), .pick (.s 111) (.s 113) (.c (.d (.bool false))), .none⟩,
      ⟨some 115, some (90, true), .beq false (.s 95) (.s 114), .none⟩,
      ⟨some 116, none, .pick (.s 90) (.s 115) (.c (.d (.bool false))), .none⟩,
      ⟨some 8, none, .mv (.s 116), .none⟩])
  (.ret none))))))))))))
def ir3 : F := { n := 117, res := [.tmp 8], body := bd3 }
@[go_sem] theorem n3 : ir3.n = 117 := rfl
@[go_sem] theorem r3 : ir3.res = [.tmp 8] := rfl
@[go_sem] theorem b3 : ir3.body = bd3 := rfl
def lb4_0 : C :=
  (.seq (.reg [⟨some 33, none, .bin .lss (.s 32) (.s 31), .none⟩])
  (.seq (.cond (.s 33)
    .skip
    (.exit 0 (some [1, 2, 7, 8])))
  (.seq (.block 1 (.seq (.reg [⟨some 34, none, .is (.s 30) (.s 32) 1, .none⟩,
        ⟨some 35, none, .ld (.s 34) 1 false, .none⟩,
        ⟨some 10, none, .mv (.s 35), .none⟩])
    (.seq (.reg [⟨some 36, none, .ld (.s 7) 17 true, .none⟩,
        ⟨some 37, none, .mv (.s 10), .none⟩,
        ⟨some 38, none, .call 14 [.s 36, .s 37] 2, .none⟩,
        ⟨none, none, .st (.s 7) (.s 38) 17, .none⟩])
    (.seq (.reg [⟨some 39, none, .mv (.s 10), .none⟩,
        ⟨some 40, none, .mv (.s 1), .none⟩,
        ⟨some 41, none, .bin .eql (.s 39) (.s 40), .none⟩])
    (.cond (.s 41)
     (.reg [⟨some 42, none, .mv (.s 8), .none⟩,
        ⟨some 43, none, .bin .add (.s 42) (.c (.d (.int .i64 1))), .none⟩,
        ⟨some 8, none, .mv (.s 43), .none⟩])
     .skip)))))
  (.reg [⟨some 44, none, .bin .add (.s 32) (.c (.d (.int .i64 1))), .none⟩,
     ⟨some 32, none, .mv (.s 44), .none⟩]))))
def lp4_0 : C := lb4_0
theorem u4_0 (c : Ev.Callee) (l : Ev.Looper) (s : St) : evC c l lp4_0 s = evC c l lb4_0 s := rfl
abbrev st4_0 (m : Nat) (s1 s2 s7 s8 s30 s31 s32 : AV) (h : Heap) : St := ⟨m, [.unk, s1, s2, .unk, .unk, .unk, .unk, s7, s8, .unk, .unk, .unk, .unk, .unk, .unk, .unk, .unk, .unk, .unk, .unk, .unk, .unk, .unk, .unk, .unk, .unk, .unk, .unk, .unk, .unk, s30, s31, s32, .unk, .unk, .unk, .unk, .unk, .unk, .unk, .unk, .unk, .unk, .unk, .unk, .unk, .unk, .unk, .unk, .unk, .unk, .unk, .unk, .unk, .unk, .unk, .unk, .unk, .unk, .unk, .unk, .unk, .unk, .unk, .unk, .unk, .unk, .unk, .unk, .unk, .unk, .unk, .unk, .unk, .unk, .unk, .unk, .unk, .unk, .unk, .unk, .unk, .unk, .unk], h⟩
@[go_sem] theorem ks4_0 (v0 v1 v2 v3 v4 v5 v6 v7 v8 v9 v10 v11 v12 v13 v14 v15 v16 v17 v18 v19 v20 v21 v22 v23 v24 v25 v26 v27 v28 v29 v30 v31 v32 v33 v34 v35 v36 v37 v38 v39 v40 v41 v42 v43 v44 v45 v46 v47 v48 v49 v50 v51 v52 v53 v54 v55 v56 v57 v58 v59 v60 v61 v62 v63 v64 v65 v66 v67 v68 v69 v70 v71 v72 v73 v74 v75 v76 v77 v78 v79 v80 v81 v82 v83 : AV) : keepS [1, 2, 7, 8, 30, 31, 32] [v0, v1, v2, v3, v4, v5, v6, v7, v8, v9, v10, v11, v12, v13, v14, v15, v16, v17, v18, v19, v20, v21, v22, v23, v24, v25, v26, v27, v28, v29, v30, v31, v32, v33, v34, v35, v36, v37, v38, v39, v40, v41, v42, v43, v44, v45, v46, v47, v48, v49, v50, v51, v52, v53, v54, v55, v56, v57, v58, v59, v60, v61, v62, v63, v64, v65, v66, v67, v68, v69, v70, v71, v72, v73, v74, v75, v76, v77, v78, v79, v80, v81, v82, v83] 0 = [.unk, v1, v2, .unk, .unk, .unk, .unk, v7, v8, .unk, .unk, .unk, .unk, .unk, .unk, .unk, .unk, .unk, .unk, .unk, .unk, .unk, .unk, .unk, .unk, .unk, .unk, .unk, .unk, .unk, v30, v31, v32, .unk, .unk, .unk, .unk, .unk, .unk, .unk, .unk, .unk, .unk, .unk, .unk, .unk, .unk, .unk, .unk, .unk, .unk, .unk, .unk, .unk, .unk, .unk, .unk, .unk, .unk, .unk, .unk, .unk, .unk, .unk, .unk, .unk, .unk, .unk, .unk, .unk, .unk, .unk, .unk, .unk, .unk, .unk, .unk, .unk, .unk, .unk, .unk, .unk, .unk, .unk] := rfl
@[go_sem] theorem ks4_1 (v0 v1 v2 v3 v4 v5 v6 v7 v8 v9 v10 v11 v12 v13 v14 v15 v16 v17 v18 v19 v20 v21 v22 v23 v24 v25 v26 v27 v28 v29 v30 v31 v32 v33 v34 v35 v36 v37 v38 v39 v40 v41 v42 v43 v44 v45 v46 v47 v48 v49 v50 v51 v52 v53 v54 v55 v56 v57 v58 v59 v60 v61 v62 v63 v64 v65 v66 v67 v68 v69 v70 v71 v72 v73 v74 v75 v76 v77 v78 v79 v80 v81 v82 v83 : AV) : keepS [1, 2, 7, 8] [v0, v1, v2, v3, v4, v5, v6, v7, v8, v9, v10, v11, v12, v13, v14, v15, v16, v17, v18, v19, v20, v21, v22, v23, v24, v25, v26, v27, v28, v29, v30, v31, v32, v33, v34, v35, v36, v37, v38, v39, v40, v41, v42, v43, v44, v45, v46, v47, v48, v49, v50, v51, v52, v53, v54, v55, v56, v57, v58, v59, v60, v61, v62, v63, v64, v65, v66, v67, v68, v69, v70, v71, v72, v73, v74, v75, v76, v77, v78, v79, v80, v81, v82, v83] 0 = [.unk, v1, v2, .unk, .unk, .unk, .unk, v7, v8, .unk, .unk, .unk, .unk, .unk, .unk, .unk, .unk, .unk, .unk, .unk, .unk, .unk, .unk, .unk, .unk, .unk, .unk, .unk, .unk, .unk, .unk, .unk, .unk, .unk, .unk, .unk, .unk, .unk, .unk, .unk, .unk, .unk, .unk, .unk, .unk, .unk, .unk, .unk, .unk, .unk, .unk, .unk, .unk, .unk, .unk, .unk, .unk, .unk, .unk, .unk, .unk, .unk, .unk, .unk, .unk, .unk, .unk, .unk, .unk, .unk, .unk, .unk, .unk, .unk, .unk, .unk, .unk, .unk, .unk, .unk, .unk, .unk, .unk, .unk] := rfl
/-- spence/spencelaw26.AdmitTwice -/
def bd4 : C :=
  (.seq (.reg [⟨some 6, none, .mv (.c (.d (.bool false))), .none⟩])
  (.seq (.seq (.reg [⟨some 12, none, .call 12 [] 2, .none⟩,
       ⟨some 13, none, .un .not (.s 12), .none⟩])
   (.cond (.s 13)
    (.seq (.reg [⟨some 6, none, .mv (.c (.d (.bool false))), .none⟩])
    (.ret none))
    .skip))
  (.seq (.seq (.reg [⟨some 14, none, .mv (.s 0), .none⟩,
       ⟨some 15, none, .len (.s 14), .none⟩,
       ⟨some 16, none, .bin .gtr (.s 15) (.c (.d (.int .i64 200))), .none⟩,
       ⟨some 17, none, .mv (.s 16), .none⟩,
       ⟨some 18, some (17, false), .mv (.s 1), .none⟩,
       ⟨some 19, some (17, false), .bin .lss (.s 18) (.c (.d (.int .i64 0))), .none⟩,
       ⟨some 20, none, .pick (.s 17) (.c (.d (.bool true))) (.s 19), .none⟩,
       ⟨some 21, none, .mv (.s 20), .none⟩,
       ⟨some 22, some (21, false), .mv (.s 1), .none⟩,
       ⟨some 23, some (21, false), .bin .gtr (.s 22) (.c (.d (.int .i64 15))), .none⟩,
       ⟨some 24, none, .pick (.s 21) (.c (.d (.bool true))) (.s 23), .none⟩,
       ⟨some 25, none, .mv (.s 24), .none⟩,
       ⟨some 26, some (25, false), .mv (.s 2), .none⟩,
       ⟨some 27, some (25, false), .bin .lss (.s 26) (.c (.d (.int .i64 0))), .none⟩,
       ⟨some 28, none, .pick (.s 25) (.c (.d (.bool true))) (.s 27), .none⟩])
   (.cond (.s 28)
    (.seq (.reg [⟨some 6, none, .mv (.c (.d (.bool true))), .none⟩])
    (.ret none))
    .skip))
  (.seq (.reg [⟨some 29, none, .call 13 [] 2, .none⟩,
      ⟨some 7, none, .alloc 26 [.int .i64 0, .int .i64 0, .int .i64 0, .int .i64 0, .int .i64 0, .int .i64 0, .int .i64 0, .int .i64 0, .int .i64 0, .int .i64 0, .int .i64 0, .int .i64 0, .int .i64 0, .int .i64 0, .int .i64 0, .int .i64 0, .int .i64 0], .none⟩,
      ⟨none, none, .st (.s 7) (.s 29) 17, .none⟩])
  (.seq (.reg [⟨some 8, none, .mv (.c (.d (.int .i64 0))), .none⟩])
  (.seq (.seq (.reg [⟨some 30, none, .mv (.s 0), .none⟩,
       ⟨some 31, none, .len (.s 30), .none⟩,
       ⟨some 32, none, .mv (.c (.d (.int .i64 0))), .none⟩])
   (.block 0 (.loop [1, 2, 7, 8, 30, 31, 32] lp4_0)))
  (.seq (.seq (.reg [⟨some 45, none, .ld (.s 7) 17 true, .none⟩,
       ⟨some 46, none, .mv (.s 1), .none⟩,
       ⟨some 47, none, .mv (.s 2), .none⟩,
       ⟨some 48, none, .mv (.s 2), .none⟩,
       ⟨some 49, none, .call 17 [.s 45, .s 46, .s 47, .s 48] 2, .none⟩,
       ⟨some 50, none, .mv (.s 49), .none⟩,
       ⟨some 51, some (50, true), .mv (.s 8), .none⟩,
       ⟨some 52, some (50, true), .bin .lss (.s 51) (.c (.d (.int .i64 2))), .none⟩,
       ⟨some 53, none, .pick (.s 50) (.s 52) (.c (.d (.bool false))), .none⟩])
   (.cond (.s 53)
    (.seq (.reg [⟨some 6, none, .mv (.c (.d (.bool false))), .none⟩])
    (.ret none))
    .skip))
  (.seq (.reg [⟨some 54, none, .ld (.s 7) 17 true, .none⟩,
      ⟨some 55, none, .mv (.s 1), .none⟩,
      ⟨some 56, none, .call 14 [.s 54, .s 55] 2, .none⟩,
      ⟨some 57, none, .mv (.s 1), .none⟩,
      ⟨some 58, none, .call 14 [.s 56, .s 57] 2, .none⟩,
      ⟨some 11, none, .alloc 26 [.int .i64 0, .int .i64 0, .int .i64 0, .int .i64 0, .int .i64 0, .int .i64 0, .int .i64 0, .int .i64 0, .int .i64 0, .int .i64 0, .int .i64 0, .int .i64 0, .int .i64 0, .int .i64 0, .int .i64 0, .int .i64 0, .int .i64 0], .none⟩,
      ⟨none, none, .st (.s 11) (.s 58) 17, .none⟩])
  (.seq (.reg [⟨some 59, none, .ld (.s 11) 17 true, .none⟩,
      ⟨some 60, none, .call 16 [.s 59] 2, .none⟩,
      ⟨some 61, none, .bin .rem (.s 60) (.c (.d (.int .i64 32))), .none⟩,
      ⟨some 62, none, .bin .lss (.s 61) (.c (.d (.int .i64 2))), .none⟩,
      ⟨some 63, none, .mv (.s 62), .none⟩,
      ⟨some 64, some (63, true), .ld (.s 11) 17 true, .none⟩,
      ⟨some 65, some (63, true), .call 16 [.s 64] 2, .none⟩,
      ⟨some 66, some (63, true), .bin .geq (.s 65) (.c (.d (.int .i64 32))), .none⟩,
      ⟨some 67, none, .pick (.s 63) (.s 66) (.c (.d (.bool false))), .none⟩,
      ⟨some 68, none, .mv (.s 67), .none⟩,
      ⟨some 69, some (68, false), .ld (.s 11) 17 true, .none⟩,
      ⟨some 70, some (68, false), .mv (.s 1), .none⟩,
      ⟨some 71, some (68, false), .mv (.s 2), .none⟩,
      ⟨some 72, some (68, false), .mv (.s 2), .none⟩,
      ⟨some 73, some (68, false), .call 17 [.s 69, .s 70, .s 71, .s 72] 2, .none⟩,
      ⟨some 74, some (68, false), .mv (.s 73), .none⟩,
      ⟨some 75, some (74, true), .ld (.s 11) 17 true, .none⟩,
      ⟨some 76, some (74, true), .mv (.s 1), .none⟩,
      ⟨some 77, some (74, true), .mv (.s 2), .none⟩,
      ⟨some 78, some (74, true), .mv (.s 2), .none⟩,
      ⟨some 79, some (74, true), .bin .sub (.s 78) (.c (.d (.int .i64 1))), .none⟩,
      ⟨some 80, some (74, true), .call 17 [.s 75, .s 76, .s 77, .s 79] 2, .none⟩,
      ⟨some 81, some (74, true), .un .not (.s 80), .none⟩,
      ⟨some 82, some (68, false), .pick (.s 74) (.s 81) (.c (.d (.bool false))), .none⟩,
      ⟨some 83, none, .pick (.s 68) (.c (.d (.bool true))) (.s 82), .none⟩,
      ⟨some 6, none, .mv (.s 83), .none⟩])
  (.ret none))))))))))
def ir4 : F := { n := 84, res := [.tmp 6], body := bd4 }
@[go_sem] theorem n4 : ir4.n = 84 := rfl
@[go_sem] theorem r4 : ir4.res = [.tmp 6] := rfl
@[go_sem] theorem b4 : ir4.body = bd4 := rfl
/-- spence/spencelaw26.awake -/
def bd12 : C :=
  (.seq (.reg [⟨some 0, none, .mv (.c (.d (.bool false))), .none⟩])
  (.seq (.reg [⟨some 2, none, .call 13 [] 2, .none⟩,
      ⟨some 3, none, .call 14 [.s 2, .c (.d (.int .i64 1))] 2, .none⟩,
      ⟨some 1, none, .alloc 26 [.int .i64 0, .int .i64 0, .int .i64 0, .int .i64 0, .int .i64 0, .int .i64 0, .int .i64 0, .int .i64 0, .int .i64 0, .int .i64 0, .int .i64 0, .int .i64 0, .int .i64 0, .int .i64 0, .int .i64 0, .int .i64 0, .int .i64 0], .none⟩,
      ⟨none, none, .st (.s 1) (.s 3) 17, .none⟩])
  (.seq (.reg [⟨some 4, none, .ld (.s 1) 17 true, .none⟩,
      ⟨some 5, none, .call 17 [.s 4, .c (.d (.int .i64 1)), .c (.d (.int .i64 5)), .c (.d (.int .i64 9))] 2, .none⟩,
      ⟨some 6, none, .un .not (.s 5), .none⟩,
      ⟨some 7, none, .mv (.s 6), .none⟩,
      ⟨some 8, some (7, true), .ld (.s 1) 17 true, .none⟩,
      ⟨some 9, some (7, true), .call 14 [.s 8, .c (.d (.int .i64 1))] 2, .none⟩,
      ⟨some 10, some (7, true), .call 17 [.s 9, .c (.d (.int .i64 1)), .c (.d (.int .i64 5)), .c (.d (.int .i64 9))] 2, .none⟩,
      ⟨some 11, none, .pick (.s 7) (.s 10) (.c (.d (.bool false))), .none⟩,
      ⟨some 0, none, .mv (.s 11), .none⟩])
  (.ret none))))
def ir12 : F := { n := 12, res := [.tmp 0], body := bd12 }
@[go_sem] theorem n12 : ir12.n = 12 := rfl
@[go_sem] theorem r12 : ir12.res = [.tmp 0] := rfl
@[go_sem] theorem b12 : ir12.body = bd12 := rfl
/-- spence/admit.New -/
def bd13 : C :=
  (.seq (.reg [⟨some 0, none, .alloc 26 [.int .i64 0, .int .i64 0, .int .i64 0, .int .i64 0, .int .i64 0, .int .i64 0, .int .i64 0, .int .i64 0, .int .i64 0, .int .i64 0, .int .i64 0, .int .i64 0, .int .i64 0, .int .i64 0, .int .i64 0, .int .i64 0, .int .i64 0], .none⟩])
  (.seq (.reg [⟨some 1, none, .build [.int .i64 0, .int .i64 0, .int .i64 0, .int .i64 0, .int .i64 0, .int .i64 0, .int .i64 0, .int .i64 0, .int .i64 0, .int .i64 0, .int .i64 0, .int .i64 0, .int .i64 0, .int .i64 0, .int .i64 0, .int .i64 0, .int .i64 0] [], .none⟩,
      ⟨none, none, .st (.s 0) (.s 1) 17, .none⟩])
  (.ret none)))
def ir13 : F := { n := 2, res := [.cell 0 17 true], body := bd13 }
@[go_sem] theorem n13 : ir13.n = 2 := rfl
@[go_sem] theorem r13 : ir13.res = [.cell 0 17 true] := rfl
@[go_sem] theorem b13 : ir13.body = bd13 := rfl
def lb14_0 : C :=
  (.seq (.reg [⟨some 26, none, .bin .lss (.s 25) (.c (.d (.int .i64 16))), .none⟩])
  (.seq (.cond (.s 26)
    .skip
    (.exit 0 (some [2, 4])))
  (.seq (.block 1 (.seq (.reg [⟨some 27, none, .mv (.s 25), .none⟩,
        ⟨some 5, none, .mv (.s 27), .none⟩])
    (.reg [⟨some 28, none, .mv (.s 5), .none⟩,
       ⟨some 29, none, .fa (.s 2) 0, .none⟩,
       ⟨some 30, none, .ia (.s 29) (.s 28) 16 1, .none⟩,
       ⟨some 31, none, .ld (.s 30) 1 false, .none⟩,
       ⟨some 32, none, .bin .quo (.s 31) (.c (.d (.int .i64 2))), .none⟩,
       ⟨some 33, none, .fa (.s 2) 0, .none⟩,
       ⟨some 34, none, .ia (.s 33) (.s 28) 16 1, .none⟩,
       ⟨none, none, .st (.s 34) (.s 32) 1, .none⟩])))
  (.reg [⟨some 35, none, .bin .add (.s 25) (.c (.d (.int .i64 1))), .none⟩,
     ⟨some 25, none, .mv (.s 35), .none⟩]))))
def lp14_0 : C := lb14_0
theorem u14_0 (c : Ev.Callee) (l : Ev.Looper) (s : St) : evC c l lp14_0 s = evC c l lb14_0 s := rfl
abbrev st14_0 (m : Nat) (s2 s4 s25 : AV) (h : Heap) : St := ⟨m, [.unk, .unk, s2, .unk, s4, .unk, .unk, .unk, .unk, .unk, .unk, .unk, .unk, .unk, .unk, .unk, .unk, .unk, .unk, .unk, .unk, .unk, .unk, .unk, .unk, s25, .unk, .unk, .unk, .unk, .unk, .unk, .unk, .unk, .unk, .unk, .unk], h⟩
@[go_sem] theorem ks14_0 (v0 v1 v2 v3 v4 v5 v6 v7 v8 v9 v10 v11 v12 v13 v14 v15 v16 v17 v18 v19 v20 v21 v22 v23 v24 v25 v26 v27 v28 v29 v30 v31 v32 v33 v34 v35 v36 : AV) : keepS [2, 4, 25] [v0, v1, v2, v3, v4, v5, v6, v7, v8, v9, v10, v11, v12, v13, v14, v15, v16, v17, v18, v19, v20, v21, v22, v23, v24, v25, v26, v27, v28, v29, v30, v31, v32, v33, v34, v35, v36] 0 = [.unk, .unk, v2, .unk, v4, .unk, .unk, .unk, .unk, .unk, .unk, .unk, .unk, .unk, .unk, .unk, .unk, .unk, .unk, .unk, .unk, .unk, .unk, .unk, .unk, v25, .unk, .unk, .unk, .unk, .unk, .unk, .unk, .unk, .unk, .unk, .unk] := rfl
@[go_sem] theorem ks14_1 (v0 v1 v2 v3 v4 v5 v6 v7 v8 v9 v10 v11 v12 v13 v14 v15 v16 v17 v18 v19 v20 v21 v22 v23 v24 v25 v26 v27 v28 v29 v30 v31 v32 v33 v34 v35 v36 : AV) : keepS [2, 4] [v0, v1, v2, v3, v4, v5, v6, v7, v8, v9, v10, v11, v12, v13, v14, v15, v16, v17, v18, v19, v20, v21, v22, v23, v24, v25, v26, v27, v28, v29, v30, v31, v32, v33, v34, v35, v36] 0 = [.unk, .unk, v2, .unk, v4, .unk, .unk, .unk, .unk, .unk, .unk, .unk, .unk, .unk, .unk, .unk, .unk, .unk, .unk, .unk, .unk, .unk, .unk, .unk, .unk, .unk, .unk, .unk, .unk, .unk, .unk, .unk, .unk, .unk, .unk, .unk, .unk] := rfl
/-- (spence/admit.Door).Note -/
def bd14 : C :=
  (.seq (.reg [⟨some 2, none, .box 26 (.s 0), .none⟩,
      ⟨some 4, none, .alloc 26 [.int .i64 0, .int .i64 0, .int .i64 0, .int .i64 0, .int .i64 0, .int .i64 0, .int .i64 0, .int .i64 0, .int .i64 0, .int .i64 0, .int .i64 0, .int .i64 0, .int .i64 0, .int .i64 0, .int .i64 0, .int .i64 0, .int .i64 0], .none⟩])
  (.seq (.seq (.reg [⟨some 6, none, .mv (.s 1), .none⟩,
       ⟨some 7, none, .call 47 [.s 6] 2, .none⟩,
       ⟨some 8, none, .un .not (.s 7), .none⟩])
   (.cond (.s 8)
    (.seq (.reg [⟨some 9, none, .ld (.s 2) 17 true, .none⟩,
        ⟨none, none, .st (.s 4) (.s 9) 17, .none⟩])
    (.ret none))
    .skip))
  (.seq (.reg [⟨some 10, none, .mv (.s 1), .none⟩,
      ⟨some 11, none, .fa (.s 2) 0, .none⟩,
      ⟨some 12, none, .ia (.s 11) (.s 10) 16 1, .none⟩,
      ⟨some 13, none, .ld (.s 12) 1 false, .none⟩,
      ⟨some 14, none, .bin .add (.s 13) (.c (.d (.int .i64 1))), .none⟩,
      ⟨some 15, none, .fa (.s 2) 0, .none⟩,
      ⟨some 16, none, .ia (.s 15) (.s 10) 16 1, .none⟩,
      ⟨none, none, .st (.s 16) (.s 14) 1, .none⟩])
  (.seq (.reg [⟨some 17, none, .fa (.s 2) 16, .none⟩,
      ⟨some 18, none, .ld (.s 17) 1 false, .none⟩,
      ⟨some 19, none, .bin .add (.s 18) (.c (.d (.int .i64 1))), .none⟩,
      ⟨some 20, none, .fa (.s 2) 16, .none⟩,
      ⟨none, none, .st (.s 20) (.s 19) 1, .none⟩])
  (.seq (.seq (.reg [⟨some 21, none, .fa (.s 2) 16, .none⟩,
       ⟨some 22, none, .ld (.s 21) 1 false, .none⟩,
       ⟨some 23, none, .bin .rem (.s 22) (.c (.d (.int .i64 32))), .none⟩,
       ⟨some 24, none, .bin .eql (.s 23) (.c (.d (.int .i64 0))), .none⟩])
   (.cond (.s 24)
    (.seq (.reg [⟨some 25, none, .mv (.c (.d (.int .i64 0))), .none⟩])
    (.block 0 (.loop [2, 4, 25] lp14_0)))
    .skip))
  (.seq (.reg [⟨some 36, none, .ld (.s 2) 17 true, .none⟩,
      ⟨none, none, .st (.s 4) (.s 36) 17, .none⟩])
  (.ret none)))))))
def ir14 : F := { n := 37, res := [.cell 4 17 true], body := bd14 }
@[go_sem] theorem n14 : ir14.n = 37 := rfl
@[go_sem] theorem r14 : ir14.res = [.cell 4 17 true] := rfl
@[go_sem] theorem b14 : ir14.body = bd14 := rfl
/-- (spence/admit.Door).Seen -/
def bd15 : C :=
  (.seq (.reg [⟨some 2, none, .box 26 (.s 0), .none⟩,
      ⟨some 4, none, .mv (.c (.d (.int .i64 0))), .none⟩])
  (.seq (.seq (.reg [⟨some 5, none, .mv (.s 1), .none⟩,
       ⟨some 6, none, .call 47 [.s 5] 2, .none⟩,
       ⟨some 7, none, .un .not (.s 6), .none⟩])
   (.cond (.s 7)
    (.seq (.reg [⟨some 4, none, .mv (.c (.d (.int .i64 0))), .none⟩])
    (.ret none))
    .skip))
  (.seq (.reg [⟨some 8, none, .mv (.s 1), .none⟩,
      ⟨some 9, none, .fa (.s 2) 0, .none⟩,
      ⟨some 10, none, .ia (.s 9) (.s 8) 16 1, .none⟩,
      ⟨some 11, none, .ld (.s 10) 1 false, .none⟩,
      ⟨some 4, none, .mv (.s 11), .none⟩])
  (.ret none))))
def ir15 : F := { n := 12, res := [.tmp 4], body := bd15 }
@[go_sem] theorem n15 : ir15.n = 12 := rfl
@[go_sem] theorem r15 : ir15.res = [.tmp 4] := rfl
@[go_sem] theorem b15 : ir15.body = bd15 := rfl
/-- (spence/admit.Door).Count -/
def bd16 : C :=
  (.seq (.reg [⟨some 1, none, .box 26 (.s 0), .none⟩,
      ⟨some 2, none, .mv (.c (.d (.int .i64 0))), .none⟩])
  (.seq (.reg [⟨some 3, none, .fa (.s 1) 16, .none⟩,
      ⟨some 4, none, .ld (.s 3) 1 false, .none⟩,
      ⟨some 2, none, .mv (.s 4), .none⟩])
  (.ret none)))
def ir16 : F := { n := 5, res := [.tmp 2], body := bd16 }
@[go_sem] theorem n16 : ir16.n = 5 := rfl
@[go_sem] theorem r16 : ir16.res = [.tmp 2] := rfl
@[go_sem] theorem b16 : ir16.body = bd16 := rfl
/-- spence/admit.Admit -/
def bd17 : C :=
  (.seq (.reg [⟨some 4, none, .box 26 (.s 0), .none⟩,
      ⟨some 8, none, .mv (.c (.d (.bool false))), .none⟩])
  (.seq (.reg [⟨some 9, none, .mv (.s 1), .none⟩,
      ⟨some 10, none, .call 47 [.s 9] 2, .none⟩,
      ⟨some 11, none, .mv (.s 10), .none⟩,
      ⟨some 12, some (11, true), .mv (.s 2), .none⟩,
      ⟨some 13, some (11, true), .bin .geq (.s 12) (.c (.d (.int .i64 0))), .none⟩,
      ⟨some 14, none, .pick (.s 11) (.s 13) (.c (.d (.bool false))), .none⟩,
      ⟨some 15, none, .mv (.s 14), .none⟩,
      ⟨some 16, some (15, true), .mv (.s 2), .none⟩,
      ⟨some 17, some (15, true), .mv (.s 3), .none⟩,
      ⟨some 18, some (15, true), .bin .leq (.s 16) (.s 17), .none⟩,
      ⟨some 19, none, .pick (.s 15) (.s 18) (.c (.d (.bool false))), .none⟩,
      ⟨some 20, none, .mv (.s 19), .none⟩,
      ⟨some 21, some (20, true), .ld (.s 4) 17 true, .none⟩,
      ⟨some 22, some (20, true), .mv (.s 1), .none⟩,
      ⟨some 23, some (20, true), .call 15 [.s 21, .s 22] 2, .none⟩,
      ⟨some 24, some (20, true), .bin .geq (.s 23) (.c (.d (.int .i64 2))), .none⟩,
      ⟨some 25, none, .pick (.s 20) (.s 24) (.c (.d (.bool false))), .none⟩,
      ⟨some 8, none, .mv (.s 25), .none⟩])
  (.ret none)))
def ir17 : F := { n := 26, res := [.tmp 8], body := bd17 }
@[go_sem] theorem n17 : ir17.n = 26 := rfl
@[go_sem] theorem r17 : ir17.res = [.tmp 8] := rfl
@[go_sem] theorem b17 : ir17.body = bd17 := rfl
/-- spence/admit.may -/
def bd47 : C :=
  (.seq (.reg [⟨some 2, none, .mv (.c (.d (.bool false))), .none⟩])
  (.seq (.reg [⟨some 3, none, .mv (.s 0), .none⟩,
      ⟨some 4, none, .bin .geq (.s 3) (.c (.d (.int .i64 0))), .none⟩,
      ⟨some 5, none, .mv (.s 4), .none⟩,
      ⟨some 6, some (5, true), .mv (.s 0), .none⟩,
      ⟨some 7, some (5, true), .bin .lss (.s 6) (.c (.d (.int .i64 16))), .none⟩,
      ⟨some 8, none, .pick (.s 5) (.s 7) (.c (.d (.bool false))), .none⟩,
      ⟨some 2, none, .mv (.s 8), .none⟩])
  (.ret none)))
def ir47 : F := { n := 9, res := [.tmp 2], body := bd47 }
@[go_sem] theorem n47 : ir47.n = 9 := rfl
@[go_sem] theorem r47 : ir47.res = [.tmp 2] := rfl
@[go_sem] theorem b47 : ir47.body = bd47 := rfl

def irf : FuncId → Option F
  | 3 => some ir3
  | 4 => some ir4
  | 12 => some ir12
  | 13 => some ir13
  | 14 => some ir14
  | 15 => some ir15
  | 16 => some ir16
  | 17 => some ir17
  | 47 => some ir47
  | _ => none
def ir : IR := ⟨irf, fun _ _ _ => none⟩
theorem c3 : cF Try.prog 3 = some ir3.strip := by kernel_rfl
theorem k3 : ir3.body.okD = true := by kernel_rfl
theorem c4 : cF Try.prog 4 = some ir4.strip := by kernel_rfl
theorem k4 : ir4.body.okD = true := by kernel_rfl
theorem c12 : cF Try.prog 12 = some ir12.strip := by kernel_rfl
theorem k12 : ir12.body.okD = true := by kernel_rfl
theorem c13 : cF Try.prog 13 = some ir13.strip := by kernel_rfl
theorem k13 : ir13.body.okD = true := by kernel_rfl
theorem c14 : cF Try.prog 14 = some ir14.strip := by kernel_rfl
theorem k14 : ir14.body.okD = true := by kernel_rfl
theorem c15 : cF Try.prog 15 = some ir15.strip := by kernel_rfl
theorem k15 : ir15.body.okD = true := by kernel_rfl
theorem c16 : cF Try.prog 16 = some ir16.strip := by kernel_rfl
theorem k16 : ir16.body.okD = true := by kernel_rfl
theorem c17 : cF Try.prog 17 = some ir17.strip := by kernel_rfl
theorem k17 : ir17.body.okD = true := by kernel_rfl
theorem c47 : cF Try.prog 47 = some ir47.strip := by kernel_rfl
theorem k47 : ir47.body.okD = true := by kernel_rfl
theorem tab : Tab Try.prog ir := by
  refine ⟨by kernel_rfl, fun f fn h => ?_, fun f args H r H2 h => by simp [ir] at h⟩
  change irf f = some fn at h
  unfold irf at h
  split at h
  · cases h; exact ⟨c3, k3⟩
  · cases h; exact ⟨c4, k4⟩
  · cases h; exact ⟨c12, k12⟩
  · cases h; exact ⟨c13, k13⟩
  · cases h; exact ⟨c14, k14⟩
  · cases h; exact ⟨c15, k15⟩
  · cases h; exact ⟨c16, k16⟩
  · cases h; exact ⟨c17, k17⟩
  · cases h; exact ⟨c47, k47⟩
  · cases h
end Go.Proofs.Ytefcgdcmhhgfgaa.Ir
