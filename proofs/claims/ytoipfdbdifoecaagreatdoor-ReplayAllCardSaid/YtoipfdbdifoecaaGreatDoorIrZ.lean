/- The texts of the functions in the small language. Printed by a program of my own (irgen.py). -/
import Derived.Test.YtoipfdbdifoecaaGreatDoorEvSim
import Derived.Test.YtoipfdbdifoecaaGreatDoorProg
import Derived.Test.YtoipfdbdifoecaaGreatDoorEvNatM
import Derived.Test.YtoipfdbdifoecaaGreatDoorEvNatS
import Derived.Test.YtoipfdbdifoecaaGreatDoorShMap
import Derived.Test.YtoipfdbdifoecaaGreatDoorShSort
import Derived.Test.YtoipfdbdifoecaaGreatDoorEvNatB
import Derived.Test.YtoipfdbdifoecaaGreatDoorShBl
namespace Go.Proofs.YtoipfdbdifoecaaGreatDoor.Ir
open Go Go.Ev
set_option maxRecDepth 10000

def lb3_0 : C :=
 (.seq (.reg [⟨some 39, none, .bin .lss (.s 38) (.s 37), .none⟩])
 (.seq (.cond (.s 39)
 .skip
 (.exit 0 (some [0, 2, 4, 7, 8, 9, 10])))
 (.seq (.block 1 (.seq (.reg [⟨some 40, none, .is (.s 36) (.s 38) 6, .none⟩,
 ⟨some 41, none, .ld (.s 40) 6 true, .none⟩,
 ⟨some 12, none, .alloc 28 [.int .i64 0, .int .i64 0, .int .u64 0, .int .i64 0, .int .u8 0, .nils], .cells [(5, 1, false)]⟩,
 ⟨none, none, .st (.s 12) (.s 41) 6, .none⟩])
 (.seq (.seq (.drw [⟨some 42, none, .ld (.s 7) 192 true, .none⟩,
 ⟨some 43, none, .ld (.s 12) 6 true, .none⟩,
 ⟨some 44, none, .call 9 [.s 42, .s 43] 2, .none⟩,
 ⟨some 45, none, .mv (.s 8), .none⟩,
 ⟨some 46, none, .ld (.s 12) 6 true, .none⟩,
 ⟨some 47, none, .call 10 [.s 45, .s 46] 0, .none⟩,
 ⟨some 48, none, .beq true (.s 44) (.s 47), .none⟩]
 [[], [], [0, 1], [], [], [3, 4, 2], [2, 5]] [])
 (.cond (.s 48)
 (.seq (.reg [⟨some 6, none, .mv (.c (.d (.bool false))), .none⟩])
 (.ret (some [6])))
 .skip))
 (.seq (.reg [⟨some 50, none, .ld (.s 12) 6 true, .none⟩,
 ⟨some 51, none, .call 11 [.s 50] 2, .none⟩,
 ⟨some 49, none, .mv (.s 51), .none⟩,
 ⟨some 52, none, .ext (.s 49) 0, .none⟩,
 ⟨some 53, none, .ext (.s 49) 1, .none⟩,
 ⟨some 54, none, .ext (.s 49) 2, .none⟩,
 ⟨some 13, none, .mv (.s 52), .none⟩,
 ⟨some 14, none, .mv (.s 53), .none⟩,
 ⟨some 15, none, .mv (.s 54), .none⟩])
 (.seq (.reg [⟨some 55, none, .mv (.s 15), .none⟩,
 ⟨some 56, none, .mv (.s 55), .none⟩,
 ⟨some 57, some (56, true), .mv (.s 13), .none⟩,
 ⟨some 58, some (56, true), .mv (.s 2), .none⟩,
 ⟨some 59, some (56, true), .bin .eql (.s 57) (.s 58), .none⟩,
 ⟨some 60, none, .pick (.s 56) (.s 59) (.c (.d (.bool false))), .none⟩])
 (.cond (.s 60)
 (.seq (.reg [⟨some 61, none, .mv (.s 9), .none⟩,
 ⟨some 62, none, .ld (.s 12) 6 true, .none⟩,
 ⟨some 63, none, .bsl 28 6 1 [.int .i64 0, .int .i64 0, .int .u64 0, .int .i64 0, .int .u8 0, .nils] [(0, (6, .s 62))], .none⟩,
 ⟨some 64, none, .app 28 6 64 (.s 61) (.s 63), .none⟩,
 ⟨some 9, none, .mv (.s 64), .none⟩])
 (.reg [⟨some 65, none, .mv (.s 10), .none⟩,
 ⟨some 66, none, .mv (.s 14), .none⟩,
 ⟨some 67, none, .mx (.s 65) (.s 66), .none⟩,
 ⟨some 10, none, .mv (.s 67), .none⟩]))
 .skip))))))
 (.reg [⟨some 68, none, .bin .add (.s 38) (.c (.d (.int .i64 1))), .none⟩,
 ⟨some 38, none, .mv (.s 68), .none⟩]))))
def lp3_0 : C := lb3_0
theorem u3_0 (c : Ev.Callee) (l : Ev.Looper) (s : St) : evC c l lp3_0 s = evC c l lb3_0 s := rfl
abbrev st3_0 (m : Nat) (s0 s2 s4 s7 s8 s9 s10 s36 s37 s38 : AV) (h : Heap) : St := ⟨m, [s0, .unk, s2, .unk, s4, .unk, .unk, s7, s8, s9, s10, .unk, .unk, .unk, .unk, .unk, .unk, .unk, .unk, .unk, .unk, .unk, .unk, .unk, .unk, .unk, .unk, .unk, .unk, .unk, .unk, .unk, .unk, .unk, .unk, .unk, s36, s37, s38, .unk, .unk, .unk, .unk, .unk, .unk, .unk, .unk, .unk, .unk, .unk, .unk, .unk, .unk, .unk, .unk, .unk, .unk, .unk, .unk, .unk, .unk, .unk, .unk, .unk, .unk, .unk, .unk, .unk, .unk, .unk, .unk, .unk, .unk, .unk, .unk, .unk, .unk, .unk, .unk, .unk, .unk, .unk, .unk, .unk, .unk, .unk, .unk, .unk, .unk, .unk, .unk, .unk], h⟩
@[go_sem] theorem ks3_0 (v0 v1 v2 v3 v4 v5 v6 v7 v8 v9 v10 v11 v12 v13 v14 v15 v16 v17 v18 v19 v20 v21 v22 v23 v24 v25 v26 v27 v28 v29 v30 v31 v32 v33 v34 v35 v36 v37 v38 v39 v40 v41 v42 v43 v44 v45 v46 v47 v48 v49 v50 v51 v52 v53 v54 v55 v56 v57 v58 v59 v60 v61 v62 v63 v64 v65 v66 v67 v68 v69 v70 v71 v72 v73 v74 v75 v76 v77 v78 v79 v80 v81 v82 v83 v84 v85 v86 v87 v88 v89 v90 v91 : AV) : keepS [0, 2, 4, 7, 8, 9, 10, 36, 37, 38] [v0, v1, v2, v3, v4, v5, v6, v7, v8, v9, v10, v11, v12, v13, v14, v15, v16, v17, v18, v19, v20, v21, v22, v23, v24, v25, v26, v27, v28, v29, v30, v31, v32, v33, v34, v35, v36, v37, v38, v39, v40, v41, v42, v43, v44, v45, v46, v47, v48, v49, v50, v51, v52, v53, v54, v55, v56, v57, v58, v59, v60, v61, v62, v63, v64, v65, v66, v67, v68, v69, v70, v71, v72, v73, v74, v75, v76, v77, v78, v79, v80, v81, v82, v83, v84, v85, v86, v87, v88, v89, v90, v91] 0 = [v0, .unk, v2, .unk, v4, .unk, .unk, v7, v8, v9, v10, .unk, .unk, .unk, .unk, .unk, .unk, .unk, .unk, .unk, .unk, .unk, .unk, .unk, .unk, .unk, .unk, .unk, .unk, .unk, .unk, .unk, .unk, .unk, .unk, .unk, v36, v37, v38, .unk, .unk, .unk, .unk, .unk, .unk, .unk, .unk, .unk, .unk, .unk, .unk, .unk, .unk, .unk, .unk, .unk, .unk, .unk, .unk, .unk, .unk, .unk, .unk, .unk, .unk, .unk, .unk, .unk, .unk, .unk, .unk, .unk, .unk, .unk, .unk, .unk, .unk, .unk, .unk, .unk, .unk, .unk, .unk, .unk, .unk, .unk, .unk, .unk, .unk, .unk, .unk, .unk] := rfl
@[go_sem] theorem ks3_1 (v0 v1 v2 v3 v4 v5 v6 v7 v8 v9 v10 v11 v12 v13 v14 v15 v16 v17 v18 v19 v20 v21 v22 v23 v24 v25 v26 v27 v28 v29 v30 v31 v32 v33 v34 v35 v36 v37 v38 v39 v40 v41 v42 v43 v44 v45 v46 v47 v48 v49 v50 v51 v52 v53 v54 v55 v56 v57 v58 v59 v60 v61 v62 v63 v64 v65 v66 v67 v68 v69 v70 v71 v72 v73 v74 v75 v76 v77 v78 v79 v80 v81 v82 v83 v84 v85 v86 v87 v88 v89 v90 v91 : AV) : keepS [0, 2, 4, 7, 8, 9, 10] [v0, v1, v2, v3, v4, v5, v6, v7, v8, v9, v10, v11, v12, v13, v14, v15, v16, v17, v18, v19, v20, v21, v22, v23, v24, v25, v26, v27, v28, v29, v30, v31, v32, v33, v34, v35, v36, v37, v38, v39, v40, v41, v42, v43, v44, v45, v46, v47, v48, v49, v50, v51, v52, v53, v54, v55, v56, v57, v58, v59, v60, v61, v62, v63, v64, v65, v66, v67, v68, v69, v70, v71, v72, v73, v74, v75, v76, v77, v78, v79, v80, v81, v82, v83, v84, v85, v86, v87, v88, v89, v90, v91] 0 = [v0, .unk, v2, .unk, v4, .unk, .unk, v7, v8, v9, v10, .unk, .unk, .unk, .unk, .unk, .unk, .unk, .unk, .unk, .unk, .unk, .unk, .unk, .unk, .unk, .unk, .unk, .unk, .unk, .unk, .unk, .unk, .unk, .unk, .unk, .unk, .unk, .unk, .unk, .unk, .unk, .unk, .unk, .unk, .unk, .unk, .unk, .unk, .unk, .unk, .unk, .unk, .unk, .unk, .unk, .unk, .unk, .unk, .unk, .unk, .unk, .unk, .unk, .unk, .unk, .unk, .unk, .unk, .unk, .unk, .unk, .unk, .unk, .unk, .unk, .unk, .unk, .unk, .unk, .unk, .unk, .unk, .unk, .unk, .unk, .unk, .unk, .unk, .unk, .unk, .unk] := rfl
@[go_sem] theorem ks3_2 (v0 v1 v2 v3 v4 v5 v6 v7 v8 v9 v10 v11 v12 v13 v14 v15 v16 v17 v18 v19 v20 v21 v22 v23 v24 v25 v26 v27 v28 v29 v30 v31 v32 v33 v34 v35 v36 v37 v38 v39 v40 v41 v42 v43 v44 v45 v46 v47 v48 v49 v50 v51 v52 v53 v54 v55 v56 v57 v58 v59 v60 v61 v62 v63 v64 v65 v66 v67 v68 v69 v70 v71 v72 v73 v74 v75 v76 v77 v78 v79 v80 v81 v82 v83 v84 v85 v86 v87 v88 v89 v90 v91 : AV) : keepS [6] [v0, v1, v2, v3, v4, v5, v6, v7, v8, v9, v10, v11, v12, v13, v14, v15, v16, v17, v18, v19, v20, v21, v22, v23, v24, v25, v26, v27, v28, v29, v30, v31, v32, v33, v34, v35, v36, v37, v38, v39, v40, v41, v42, v43, v44, v45, v46, v47, v48, v49, v50, v51, v52, v53, v54, v55, v56, v57, v58, v59, v60, v61, v62, v63, v64, v65, v66, v67, v68, v69, v70, v71, v72, v73, v74, v75, v76, v77, v78, v79, v80, v81, v82, v83, v84, v85, v86, v87, v88, v89, v90, v91] 0 = [.unk, .unk, .unk, .unk, .unk, .unk, v6, .unk, .unk, .unk, .unk, .unk, .unk, .unk, .unk, .unk, .unk, .unk, .unk, .unk, .unk, .unk, .unk, .unk, .unk, .unk, .unk, .unk, .unk, .unk, .unk, .unk, .unk, .unk, .unk, .unk, .unk, .unk, .unk, .unk, .unk, .unk, .unk, .unk, .unk, .unk, .unk, .unk, .unk, .unk, .unk, .unk, .unk, .unk, .unk, .unk, .unk, .unk, .unk, .unk, .unk, .unk, .unk, .unk, .unk, .unk, .unk, .unk, .unk, .unk, .unk, .unk, .unk, .unk, .unk, .unk, .unk, .unk, .unk, .unk, .unk, .unk, .unk, .unk, .unk, .unk, .unk, .unk, .unk, .unk, .unk, .unk] := rfl
/-- spence/spencelaw20.ReplayAll -/
def bd3 : C :=
 (.seq (.reg [⟨some 4, none, .box 28 (.s 1), .none⟩,
 ⟨some 6, none, .mv (.c (.d (.bool false))), .none⟩])
 (.seq (.seq (.reg [⟨some 17, none, .call 4 [] 2, .none⟩,
 ⟨some 18, none, .un .not (.s 17), .none⟩])
 (.cond (.s 18)
 (.seq (.reg [⟨some 6, none, .mv (.c (.d (.bool false))), .none⟩])
 (.ret none))
 .skip))
 (.seq (.seq (.reg [⟨some 19, none, .mv (.s 0), .none⟩,
 ⟨some 20, none, .call 5 [.s 19] 2, .none⟩,
 ⟨some 21, none, .un .not (.s 20), .none⟩,
 ⟨some 22, none, .mv (.s 21), .none⟩,
 ⟨some 23, some (22, false), .fa (.s 4) 5, .none⟩,
 ⟨some 24, some (22, false), .ld (.s 23) 1 false, .none⟩,
 ⟨some 25, some (22, false), .len (.s 24), .none⟩,
 ⟨some 26, some (22, false), .bin .gtr (.s 25) (.c (.d (.int .i64 200))), .none⟩,
 ⟨some 27, none, .pick (.s 22) (.c (.d (.bool true))) (.s 26), .none⟩])
 (.cond (.s 27)
 (.seq (.reg [⟨some 6, none, .mv (.c (.d (.bool true))), .none⟩])
 (.ret none))
 .skip))
 (.seq (.reg [⟨some 28, none, .mv (.s 0), .none⟩,
 ⟨some 29, none, .call 6 [.s 28] 2, .none⟩,
 ⟨some 30, none, .mv (.s 0), .none⟩,
 ⟨some 31, none, .call 7 [.s 30] 0, .none⟩,
 ⟨some 7, none, .alloc 38 [.bool false, .int .i64 0, .int .i64 0, .str [], .int .i64 0, .int .i64 0, .int .i64 0, .int .i64 0, .nilm, .int .i64 0, .int .i64 0, .int .i64 0, .bool false, .int .i64 0, .int .i64 0, .str [], .int .i64 0, .int .i64 0, .int .i64 0, .int .i64 0, .nilm, .int .i64 0, .int .i64 0, .int .i64 0, .bool false, .int .i64 0, .int .i64 0, .str [], .int .i64 0, .int .i64 0, .int .i64 0, .int .i64 0, .nilm, .int .i64 0, .int .i64 0, .int .i64 0, .bool false, .int .i64 0, .int .i64 0, .str [], .int .i64 0, .int .i64 0, .int .i64 0, .int .i64 0, .nilm, .int .i64 0, .int .i64 0, .int .i64 0, .bool false, .int .i64 0, .int .i64 0, .str [], .int .i64 0, .int .i64 0, .int .i64 0, .int .i64 0, .nilm, .int .i64 0, .int .i64 0, .int .i64 0, .bool false, .int .i64 0, .int .i64 0, .str [], .int .i64 0, .int .i64 0, .int .i64 0, .int .i64 0, .nilm, .int .i64 0, .int .i64 0, .int .i64 0, .bool false, .int .i64 0, .int .i64 0, .str [], .int .i64 0, .int .i64 0, .int .i64 0, .int .i64 0, .nilm, .int .i64 0, .int .i64 0, .int .i64 0, .bool false, .int .i64 0, .int .i64 0, .str [], .int .i64 0, .int .i64 0, .int .i64 0, .int .i64 0, .nilm, .int .i64 0, .int .i64 0, .int .i64 0, .bool false, .int .i64 0, .int .i64 0, .str [], .int .i64 0, .int .i64 0, .int .i64 0, .int .i64 0, .nilm, .int .i64 0, .int .i64 0, .int .i64 0, .bool false, .int .i64 0, .int .i64 0, .str [], .int .i64 0, .int .i64 0, .int .i64 0, .int .i64 0, .nilm, .int .i64 0, .int .i64 0, .int .i64 0, .bool false, .int .i64 0, .int .i64 0, .str [], .int .i64 0, .int .i64 0, .int .i64 0, .int .i64 0, .nilm, .int .i64 0, .int .i64 0, .int .i64 0, .bool false, .int .i64 0, .int .i64 0, .str [], .int .i64 0, .int .i64 0, .int .i64 0, .int .i64 0, .nilm, .int .i64 0, .int .i64 0, .int .i64 0, .bool false, .int .i64 0, .int .i64 0, .str [], .int .i64 0, .int .i64 0, .int .i64 0, .int .i64 0, .nilm, .int .i64 0, .int .i64 0, .int .i64 0, .bool false, .int .i64 0, .int .i64 0, .str [], .int .i64 0, .int .i64 0, .int .i64 0, .int .i64 0, .nilm, .int .i64 0, .int .i64 0, .int .i64 0, .bool false, .int .i64 0, .int .i64 0, .str [], .int .i64 0, .int .i64 0, .int .i64 0, .int .i64 0, .nilm, .int .i64 0, .int .i64 0, .int .i64 0, .bool false, .int .i64 0, .int .i64 0, .str [], .int .i64 0, .int .i64 0, .int .i64 0, .int .i64 0, .nilm, .int .i64 0, .int .i64 0, .int .i64 0], .none⟩,
 ⟨none, none, .st (.s 7) (.s 29) 192, .none⟩,
 ⟨some 8, none, .mv (.s 31), .none⟩])
 (.seq (.seq (.reg [⟨some 32, none, .ld (.s 7) 192 true, .none⟩,
 ⟨some 33, none, .mv (.s 8), .none⟩,
 ⟨some 34, none, .call 8 [.s 32, .s 33] 0, .none⟩,
 ⟨some 35, none, .un .not (.s 34), .none⟩])
 (.cond (.s 35)
 (.seq (.reg [⟨some 6, none, .mv (.c (.d (.bool false))), .none⟩])
 (.ret none))
 .skip))
 (.seq (.reg [⟨some 9, none, .mv (.c (.d .nils)), .one 6 true⟩])
 (.seq (.reg [⟨some 10, none, .mv (.c (.d (.int .i64 0))), .none⟩])
 (.seq (.seq (.reg [⟨some 36, none, .mv (.s 0), .none⟩,
 ⟨some 37, none, .len (.s 36), .none⟩,
 ⟨some 38, none, .mv (.c (.d (.int .i64 0))), .none⟩])
 (.block 0 (.loop [0, 2, 4, 7, 8, 9, 10, 36, 37, 38] lp3_0)))
 (.seq (.reg [⟨some 69, none, .ld (.s 7) 192 true, .none⟩,
 ⟨some 70, none, .ld (.s 4) 6 true, .none⟩,
 ⟨some 71, none, .call 12 [.s 69, .s 70] 2, .none⟩,
 ⟨some 16, none, .alloc 38 [.bool false, .int .i64 0, .int .i64 0, .str [], .int .i64 0, .int .i64 0, .int .i64 0, .int .i64 0, .nilm, .int .i64 0, .int .i64 0, .int .i64 0, .bool false, .int .i64 0, .int .i64 0, .str [], .int .i64 0, .int .i64 0, .int .i64 0, .int .i64 0, .nilm, .int .i64 0, .int .i64 0, .int .i64 0, .bool false, .int .i64 0, .int .i64 0, .str [], .int .i64 0, .int .i64 0, .int .i64 0, .int .i64 0, .nilm, .int .i64 0, .int .i64 0, .int .i64 0, .bool false, .int .i64 0, .int .i64 0, .str [], .int .i64 0, .int .i64 0, .int .i64 0, .int .i64 0, .nilm, .int .i64 0, .int .i64 0, .int .i64 0, .bool false, .int .i64 0, .int .i64 0, .str [], .int .i64 0, .int .i64 0, .int .i64 0, .int .i64 0, .nilm, .int .i64 0, .int .i64 0, .int .i64 0, .bool false, .int .i64 0, .int .i64 0, .str [], .int .i64 0, .int .i64 0, .int .i64 0, .int .i64 0, .nilm, .int .i64 0, .int .i64 0, .int .i64 0, .bool false, .int .i64 0, .int .i64 0, .str [], .int .i64 0, .int .i64 0, .int .i64 0, .int .i64 0, .nilm, .int .i64 0, .int .i64 0, .int .i64 0, .bool false, .int .i64 0, .int .i64 0, .str [], .int .i64 0, .int .i64 0, .int .i64 0, .int .i64 0, .nilm, .int .i64 0, .int .i64 0, .int .i64 0, .bool false, .int .i64 0, .int .i64 0, .str [], .int .i64 0, .int .i64 0, .int .i64 0, .int .i64 0, .nilm, .int .i64 0, .int .i64 0, .int .i64 0, .bool false, .int .i64 0, .int .i64 0, .str [], .int .i64 0, .int .i64 0, .int .i64 0, .int .i64 0, .nilm, .int .i64 0, .int .i64 0, .int .i64 0, .bool false, .int .i64 0, .int .i64 0, .str [], .int .i64 0, .int .i64 0, .int .i64 0, .int .i64 0, .nilm, .int .i64 0, .int .i64 0, .int .i64 0, .bool false, .int .i64 0, .int .i64 0, .str [], .int .i64 0, .int .i64 0, .int .i64 0, .int .i64 0, .nilm, .int .i64 0, .int .i64 0, .int .i64 0, .bool false, .int .i64 0, .int .i64 0, .str [], .int .i64 0, .int .i64 0, .int .i64 0, .int .i64 0, .nilm, .int .i64 0, .int .i64 0, .int .i64 0, .bool false, .int .i64 0, .int .i64 0, .str [], .int .i64 0, .int .i64 0, .int .i64 0, .int .i64 0, .nilm, .int .i64 0, .int .i64 0, .int .i64 0, .bool false, .int .i64 0, .int .i64 0, .str [], .int .i64 0, .int .i64 0, .int .i64 0, .int .i64 0, .nilm, .int .i64 0, .int .i64 0, .int .i64 0, .bool false, .int .i64 0, .int .i64 0, .str [], .int .i64 0, .int .i64 0, .int .i64 0, .int .i64 0, .nilm, .int .i64 0, .int .i64 0, .int .i64 0], .none⟩,
 ⟨none, none, .st (.s 16) (.s 71) 192, .none⟩])
 (.seq (.reg [⟨some 72, none, .mv (.s 8), .none⟩,
 ⟨some 73, none, .ld (.s 4) 6 true, .none⟩,
 ⟨some 74, none, .call 13 [.s 72, .s 73] 0, .none⟩])
 (.seq (.reg [⟨some 75, none, .ld (.s 16) 192 true, .none⟩,
 ⟨some 76, none, .mv (.s 8), .none⟩,
 ⟨some 77, none, .call 8 [.s 75, .s 76] 0, .none⟩,
 ⟨some 78, none, .mv (.s 77), .none⟩,
 ⟨some 79, some (78, true), .mv (.s 0), .none⟩,
 ⟨some 80, some (78, true), .mv (.s 2), .none⟩,
 ⟨some 81, some (78, true), .call 15 [.s 79, .s 80] 2, .none⟩,
 ⟨some 82, some (78, true), .mv (.s 9), .none⟩,
 ⟨some 83, some (78, true), .call 14 [.s 81, .s 82] 0, .none⟩,
 ⟨some 84, none, .pick (.s 78) (.s 83) (.c (.d (.bool false))), .none⟩,
 ⟨some 85, none, .mv (.s 84), .none⟩,
 ⟨some 86, some (85, true), .mv (.s 0), .none⟩,
 ⟨some 87, some (85, true), .mv (.s 2), .none⟩,
 ⟨some 88, some (85, true), .call 16 [.s 86, .s 87] 2, .none⟩,
 ⟨some 89, some (85, true), .mv (.s 10), .none⟩,
 ⟨some 90, some (85, true), .bin .eql (.s 88) (.s 89), .none⟩,
 ⟨some 91, none, .pick (.s 85) (.s 90) (.c (.d (.bool false))), .none⟩,
 ⟨some 6, none, .mv (.s 91), .none⟩])
 (.ret none))))))))))))
def ir3 : F := { n := 92, res := [.tmp 6], body := bd3 }
@[go_sem] theorem n3 : ir3.n = 92 := rfl
@[go_sem] theorem r3 : ir3.res = [.tmp 6] := rfl
@[go_sem] theorem b3 : ir3.body = bd3 := rfl
/-- spence/spencelaw20.awake -/
def bd4 : C :=
 (.seq (.reg [⟨some 0, none, .mv (.c (.d (.bool false))), .none⟩])
 (.seq (.reg [⟨some 6, none, .build [.int .i64 0, .int .i64 0, .str [], .int .i64 0, .int .i64 0] [(0, (1, .c (.d (.int .i64 1)))), (1, (1, .c (.d (.int .i64 1)))), (2, (1, .c (.d (.str [118]))))], .none⟩,
 ⟨some 7, none, .call 17 [.s 6] 2, .none⟩,
 ⟨some 8, none, .build [.int .i64 0, .int .i64 0, .int .u64 0, .int .i64 0, .int .u8 0, .nils] [(4, (1, .c (.d (.int .u8 2)))), (5, (1, .s 7))], .cells [(5, 1, false)]⟩,
 ⟨some 9, none, .build [.int .i64 0, .int .i64 0, .bool false] [(0, (1, .c (.d (.int .i64 1)))), (1, (1, .c (.d (.int .i64 1))))], .none⟩,
 ⟨some 10, none, .call 18 [.s 9] 2, .none⟩,
 ⟨some 11, none, .build [.int .i64 0, .int .i64 0, .int .u64 0, .int .i64 0, .int .u8 0, .nils] [(4, (1, .c (.d (.int .u8 4)))), (5, (1, .s 10))], .cells [(5, 1, false)]⟩,
 ⟨some 12, none, .bsl 28 6 2 [.int .i64 0, .int .i64 0, .int .u64 0, .int .i64 0, .int .u8 0, .nils] [(0, (6, .s 8)), (6, (6, .s 11))], .none⟩,
 ⟨some 1, none, .mv (.s 12), .none⟩])
 (.seq (.reg [⟨some 14, none, .mv (.s 1), .none⟩,
 ⟨some 15, none, .sl (.s 14) none (some (.c (.d (.int .i64 1)))) none 6, .none⟩,
 ⟨some 16, none, .call 6 [.s 15] 0, .none⟩,
 ⟨some 17, none, .call 19 [.s 16, .c (.d (.int .i64 1))] 2, .none⟩,
 ⟨some 13, none, .mv (.s 17), .none⟩,
 ⟨some 18, none, .ext (.s 13) 0, .none⟩,
 ⟨some 19, none, .ext (.s 13) 1, .none⟩,
 ⟨some 2, none, .alloc 32 [.int .i64 0, .int .i64 0, .str [], .int .i64 0, .int .i64 0], .none⟩,
 ⟨none, none, .st (.s 2) (.s 18) 5, .none⟩,
 ⟨some 3, none, .mv (.s 19), .none⟩])
 (.seq (.reg [⟨some 21, none, .mv (.s 1), .none⟩,
 ⟨some 22, none, .call 6 [.s 21] 0, .none⟩,
 ⟨some 23, none, .call 19 [.s 22, .c (.d (.int .i64 1))] 2, .none⟩,
 ⟨some 20, none, .mv (.s 23), .none⟩,
 ⟨some 24, none, .ext (.s 20) 0, .none⟩,
 ⟨some 25, none, .ext (.s 20) 1, .none⟩,
 ⟨some 4, none, .alloc 32 [.int .i64 0, .int .i64 0, .str [], .int .i64 0, .int .i64 0], .none⟩,
 ⟨none, none, .st (.s 4) (.s 24) 5, .none⟩,
 ⟨some 5, none, .mv (.s 25), .none⟩])
 (.seq (.reg [⟨some 26, none, .mv (.s 3), .none⟩,
 ⟨some 27, none, .mv (.s 26), .none⟩,
 ⟨some 28, some (27, true), .mv (.s 5), .none⟩,
 ⟨some 29, some (27, true), .un .not (.s 28), .none⟩,
 ⟨some 30, none, .pick (.s 27) (.s 29) (.c (.d (.bool false))), .none⟩,
 ⟨some 0, none, .mv (.s 30), .none⟩])
 (.ret none))))))
def ir4 : F := { n := 31, res := [.tmp 0], body := bd4 }
@[go_sem] theorem n4 : ir4.n = 31 := rfl
@[go_sem] theorem r4 : ir4.res = [.tmp 0] := rfl
@[go_sem] theorem b4 : ir4.body = bd4 := rfl
def lb5_1 : C :=
 (.seq (.seq (.reg [⟨some 17, none, .mv (.s 5), .none⟩,
 ⟨some 18, none, .mv (.s 3), .none⟩,
 ⟨some 19, none, .bin .lss (.s 17) (.s 18), .none⟩])
 (.cond (.s 19)
 .skip
 (.exit 2 (some [0, 6, 7, 8]))))
 (.seq (.block 3 (.seq (.drw [⟨some 22, none, .mv (.s 0), .none⟩,
 ⟨some 23, none, .mv (.s 5), .none⟩,
 ⟨some 24, none, .is (.s 22) (.s 23) 6, .none⟩,
 ⟨some 25, none, .fa (.s 24) 0, .none⟩,
 ⟨some 26, none, .ld (.s 25) 2 true, .none⟩,
 ⟨some 27, none, .fa (.s 4) 0, .none⟩,
 ⟨some 28, none, .ld (.s 27) 2 true, .none⟩,
 ⟨some 29, none, .eqs false [1, 1] (.s 26) (.s 28), .none⟩]
 [[], [], [0, 1], [2], [3], [], [5], [4, 6]] [])
 (.cond (.s 29)
 (.seq (.reg [⟨some 2, none, .mv (.c (.d (.bool false))), .none⟩])
 (.ret (some [2])))
 .skip)))
 (.reg [⟨some 20, none, .mv (.s 5), .none⟩,
 ⟨some 21, none, .bin .add (.s 20) (.c (.d (.int .i64 1))), .none⟩,
 ⟨some 5, none, .mv (.s 21), .none⟩])))
def lp5_1 : C := lb5_1
theorem u5_1 (c : Ev.Callee) (l : Ev.Looper) (s : St) : evC c l lp5_1 s = evC c l lb5_1 s := rfl
abbrev st5_1 (m : Nat) (s0 s3 s4 s5 s6 s7 s8 : AV) (h : Heap) : St := ⟨m, [s0, .unk, .unk, s3, s4, s5, s6, s7, s8, .unk, .unk, .unk, .unk, .unk, .unk, .unk, .unk, .unk, .unk, .unk, .unk, .unk, .unk, .unk, .unk, .unk, .unk, .unk, .unk, .unk, .unk, .unk, .unk, .unk], h⟩
def lb5_0 : C :=
 (.seq (.reg [⟨some 9, none, .bin .lss (.s 8) (.s 7), .none⟩])
 (.seq (.cond (.s 9)
 .skip
 (.exit 0 (some [0])))
 (.seq (.block 1 (.seq (.reg [⟨some 10, none, .mv (.s 8), .none⟩,
 ⟨some 11, none, .is (.s 6) (.s 8) 6, .none⟩,
 ⟨some 12, none, .ld (.s 11) 6 true, .none⟩,
 ⟨some 4, none, .alloc 28 [.int .i64 0, .int .i64 0, .int .u64 0, .int .i64 0, .int .u8 0, .nils], .cells [(5, 1, false)]⟩,
 ⟨some 3, none, .mv (.s 10), .none⟩,
 ⟨none, none, .st (.s 4) (.s 12) 6, .none⟩])
 (.seq (.seq (.reg [⟨some 13, none, .fa (.s 4) 5, .none⟩,
 ⟨some 14, none, .ld (.s 13) 1 false, .none⟩,
 ⟨some 15, none, .len (.s 14), .none⟩,
 ⟨some 16, none, .bin .gtr (.s 15) (.c (.d (.int .i64 200))), .none⟩])
 (.cond (.s 16)
 (.seq (.reg [⟨some 2, none, .mv (.c (.d (.bool false))), .none⟩])
 (.ret (some [2])))
 .skip))
 (.seq (.reg [⟨some 5, none, .mv (.c (.d (.int .i64 0))), .none⟩])
 (.block 2 (.loop [0, 3, 4, 5, 6, 7, 8] lp5_1))))))
 (.reg [⟨some 30, none, .bin .add (.s 8) (.c (.d (.int .i64 1))), .none⟩,
 ⟨some 8, none, .mv (.s 30), .none⟩]))))
def lp5_0 : C := lb5_0
theorem u5_0 (c : Ev.Callee) (l : Ev.Looper) (s : St) : evC c l lp5_0 s = evC c l lb5_0 s := rfl
abbrev st5_0 (m : Nat) (s0 s6 s7 s8 : AV) (h : Heap) : St := ⟨m, [s0, .unk, .unk, .unk, .unk, .unk, s6, s7, s8, .unk, .unk, .unk, .unk, .unk, .unk, .unk, .unk, .unk, .unk, .unk, .unk, .unk, .unk, .unk, .unk, .unk, .unk, .unk, .unk, .unk, .unk, .unk, .unk, .unk], h⟩
@[go_sem] theorem ks5_0 (v0 v1 v2 v3 v4 v5 v6 v7 v8 v9 v10 v11 v12 v13 v14 v15 v16 v17 v18 v19 v20 v21 v22 v23 v24 v25 v26 v27 v28 v29 v30 v31 v32 v33 : AV) : keepS [0, 6, 7, 8] [v0, v1, v2, v3, v4, v5, v6, v7, v8, v9, v10, v11, v12, v13, v14, v15, v16, v17, v18, v19, v20, v21, v22, v23, v24, v25, v26, v27, v28, v29, v30, v31, v32, v33] 0 = [v0, .unk, .unk, .unk, .unk, .unk, v6, v7, v8, .unk, .unk, .unk, .unk, .unk, .unk, .unk, .unk, .unk, .unk, .unk, .unk, .unk, .unk, .unk, .unk, .unk, .unk, .unk, .unk, .unk, .unk, .unk, .unk, .unk] := rfl
@[go_sem] theorem ks5_1 (v0 v1 v2 v3 v4 v5 v6 v7 v8 v9 v10 v11 v12 v13 v14 v15 v16 v17 v18 v19 v20 v21 v22 v23 v24 v25 v26 v27 v28 v29 v30 v31 v32 v33 : AV) : keepS [0] [v0, v1, v2, v3, v4, v5, v6, v7, v8, v9, v10, v11, v12, v13, v14, v15, v16, v17, v18, v19, v20, v21, v22, v23, v24, v25, v26, v27, v28, v29, v30, v31, v32, v33] 0 = [v0, .unk, .unk, .unk, .unk, .unk, .unk, .unk, .unk, .unk, .unk, .unk, .unk, .unk, .unk, .unk, .unk, .unk, .unk, .unk, .unk, .unk, .unk, .unk, .unk, .unk, .unk, .unk, .unk, .unk, .unk, .unk, .unk, .unk] := rfl
@[go_sem] theorem ks5_2 (v0 v1 v2 v3 v4 v5 v6 v7 v8 v9 v10 v11 v12 v13 v14 v15 v16 v17 v18 v19 v20 v21 v22 v23 v24 v25 v26 v27 v28 v29 v30 v31 v32 v33 : AV) : keepS [2] [v0, v1, v2, v3, v4, v5, v6, v7, v8, v9, v10, v11, v12, v13, v14, v15, v16, v17, v18, v19, v20, v21, v22, v23, v24, v25, v26, v27, v28, v29, v30, v31, v32, v33] 0 = [.unk, .unk, v2, .unk, .unk, .unk, .unk, .unk, .unk, .unk, .unk, .unk, .unk, .unk, .unk, .unk, .unk, .unk, .unk, .unk, .unk, .unk, .unk, .unk, .unk, .unk, .unk, .unk, .unk, .unk, .unk, .unk, .unk, .unk] := rfl
@[go_sem] theorem ks5_3 (v0 v1 v2 v3 v4 v5 v6 v7 v8 v9 v10 v11 v12 v13 v14 v15 v16 v17 v18 v19 v20 v21 v22 v23 v24 v25 v26 v27 v28 v29 v30 v31 v32 v33 : AV) : keepS [0, 3, 4, 5, 6, 7, 8] [v0, v1, v2, v3, v4, v5, v6, v7, v8, v9, v10, v11, v12, v13, v14, v15, v16, v17, v18, v19, v20, v21, v22, v23, v24, v25, v26, v27, v28, v29, v30, v31, v32, v33] 0 = [v0, .unk, .unk, v3, v4, v5, v6, v7, v8, .unk, .unk, .unk, .unk, .unk, .unk, .unk, .unk, .unk, .unk, .unk, .unk, .unk, .unk, .unk, .unk, .unk, .unk, .unk, .unk, .unk, .unk, .unk, .unk, .unk] := rfl
/-- spence/spencelaw20.Few -/
def bd5 : C :=
 (.seq (.reg [⟨some 2, none, .mv (.c (.d (.bool false))), .none⟩])
 (.seq (.seq (.reg [⟨some 6, none, .mv (.s 0), .none⟩,
 ⟨some 7, none, .len (.s 6), .none⟩,
 ⟨some 8, none, .mv (.c (.d (.int .i64 0))), .none⟩])
 (.block 0 (.loop [0, 6, 7, 8] lp5_0)))
 (.seq (.reg [⟨some 31, none, .mv (.s 0), .none⟩,
 ⟨some 32, none, .len (.s 31), .none⟩,
 ⟨some 33, none, .bin .leq (.s 32) (.c (.d (.int .i64 40))), .none⟩,
 ⟨some 2, none, .mv (.s 33), .none⟩])
 (.ret none))))
def ir5 : F := { n := 34, res := [.tmp 2], body := bd5 }
@[go_sem] theorem n5 : ir5.n = 34 := rfl
@[go_sem] theorem r5 : ir5.res = [.tmp 2] := rfl
@[go_sem] theorem b5 : ir5.body = bd5 := rfl
def lb6_1 : C :=
 (.seq (.reg [⟨some 18, none, .bin .lss (.s 17) (.s 16), .none⟩])
 (.seq (.cond (.s 18)
 .skip
 (.exit 2 (some [0, 2, 3, 9, 10, 11])))
 (.seq (.block 3 (.seq (.reg [⟨some 19, none, .is (.s 15) (.s 17) 6, .none⟩,
 ⟨some 20, none, .ld (.s 19) 6 true, .none⟩,
 ⟨some 7, none, .alloc 28 [.int .i64 0, .int .i64 0, .int .u64 0, .int .i64 0, .int .u8 0, .nils], .cells [(5, 1, false)]⟩,
 ⟨none, none, .st (.s 7) (.s 20) 6, .none⟩])
 (.seq (.reg [⟨some 21, none, .fa (.s 7) 4, .none⟩,
 ⟨some 22, none, .ld (.s 21) 1 false, .none⟩,
 ⟨some 23, none, .bin .eql (.s 22) (.c (.d (.int .u8 3))), .none⟩,
 ⟨some 24, none, .mv (.s 5), .none⟩,
 ⟨some 25, none, .beq false (.s 23) (.s 24), .none⟩])
 (.cond (.s 25)
 (.reg [⟨some 26, none, .ld (.s 3) 192 true, .none⟩,
 ⟨some 27, none, .ld (.s 7) 6 true, .none⟩,
 ⟨some 28, none, .call 12 [.s 26, .s 27] 2, .none⟩,
 ⟨none, none, .st (.s 3) (.s 28) 192, .none⟩])
 .skip))))
 (.reg [⟨some 29, none, .bin .add (.s 17) (.c (.d (.int .i64 1))), .none⟩,
 ⟨some 17, none, .mv (.s 29), .none⟩]))))
def lp6_1 : C := lb6_1
theorem u6_1 (c : Ev.Callee) (l : Ev.Looper) (s : St) : evC c l lp6_1 s = evC c l lb6_1 s := rfl
abbrev st6_1 (m : Nat) (s0 s2 s3 s5 s9 s10 s11 s15 s16 s17 : AV) (h : Heap) : St := ⟨m, [s0, .unk, s2, s3, .unk, s5, .unk, .unk, .unk, s9, s10, s11, .unk, .unk, .unk, s15, s16, s17, .unk, .unk, .unk, .unk, .unk, .unk, .unk, .unk, .unk, .unk, .unk, .unk, .unk, .unk], h⟩
def lb6_0 : C :=
 (.seq (.reg [⟨some 12, none, .bin .lss (.s 11) (.s 10), .none⟩])
 (.seq (.cond (.s 12)
 .skip
 (.exit 0 (some [2, 3])))
 (.seq (.block 1 (.seq (.reg [⟨some 13, none, .is (.s 9) (.s 11) 1, .none⟩,
 ⟨some 14, none, .ld (.s 13) 1 false, .none⟩,
 ⟨some 5, none, .mv (.s 14), .none⟩])
 (.seq (.reg [⟨some 15, none, .mv (.s 0), .none⟩,
 ⟨some 16, none, .len (.s 15), .none⟩,
 ⟨some 17, none, .mv (.c (.d (.int .i64 0))), .none⟩])
 (.block 2 (.loop [0, 2, 3, 5, 9, 10, 11, 15, 16, 17] lp6_1)))))
 (.reg [⟨some 30, none, .bin .add (.s 11) (.c (.d (.int .i64 1))), .none⟩,
 ⟨some 11, none, .mv (.s 30), .none⟩]))))
def lp6_0 : C := lb6_0
theorem u6_0 (c : Ev.Callee) (l : Ev.Looper) (s : St) : evC c l lp6_0 s = evC c l lb6_0 s := rfl
abbrev st6_0 (m : Nat) (s0 s2 s3 s9 s10 s11 : AV) (h : Heap) : St := ⟨m, [s0, .unk, s2, s3, .unk, .unk, .unk, .unk, .unk, s9, s10, s11, .unk, .unk, .unk, .unk, .unk, .unk, .unk, .unk, .unk, .unk, .unk, .unk, .unk, .unk, .unk, .unk, .unk, .unk, .unk, .unk], h⟩
@[go_sem] theorem ks6_0 (v0 v1 v2 v3 v4 v5 v6 v7 v8 v9 v10 v11 v12 v13 v14 v15 v16 v17 v18 v19 v20 v21 v22 v23 v24 v25 v26 v27 v28 v29 v30 v31 : AV) : keepS [0, 2, 3, 9, 10, 11] [v0, v1, v2, v3, v4, v5, v6, v7, v8, v9, v10, v11, v12, v13, v14, v15, v16, v17, v18, v19, v20, v21, v22, v23, v24, v25, v26, v27, v28, v29, v30, v31] 0 = [v0, .unk, v2, v3, .unk, .unk, .unk, .unk, .unk, v9, v10, v11, .unk, .unk, .unk, .unk, .unk, .unk, .unk, .unk, .unk, .unk, .unk, .unk, .unk, .unk, .unk, .unk, .unk, .unk, .unk, .unk] := rfl
@[go_sem] theorem ks6_1 (v0 v1 v2 v3 v4 v5 v6 v7 v8 v9 v10 v11 v12 v13 v14 v15 v16 v17 v18 v19 v20 v21 v22 v23 v24 v25 v26 v27 v28 v29 v30 v31 : AV) : keepS [2, 3] [v0, v1, v2, v3, v4, v5, v6, v7, v8, v9, v10, v11, v12, v13, v14, v15, v16, v17, v18, v19, v20, v21, v22, v23, v24, v25, v26, v27, v28, v29, v30, v31] 0 = [.unk, .unk, v2, v3, .unk, .unk, .unk, .unk, .unk, .unk, .unk, .unk, .unk, .unk, .unk, .unk, .unk, .unk, .unk, .unk, .unk, .unk, .unk, .unk, .unk, .unk, .unk, .unk, .unk, .unk, .unk, .unk] := rfl
@[go_sem] theorem ks6_2 (v0 v1 v2 v3 v4 v5 v6 v7 v8 v9 v10 v11 v12 v13 v14 v15 v16 v17 v18 v19 v20 v21 v22 v23 v24 v25 v26 v27 v28 v29 v30 v31 : AV) : keepS [0, 2, 3, 5, 9, 10, 11, 15, 16, 17] [v0, v1, v2, v3, v4, v5, v6, v7, v8, v9, v10, v11, v12, v13, v14, v15, v16, v17, v18, v19, v20, v21, v22, v23, v24, v25, v26, v27, v28, v29, v30, v31] 0 = [v0, .unk, v2, v3, .unk, v5, .unk, .unk, .unk, v9, v10, v11, .unk, .unk, .unk, v15, v16, v17, .unk, .unk, .unk, .unk, .unk, .unk, .unk, .unk, .unk, .unk, .unk, .unk, .unk, .unk] := rfl
/-- spence/replay.All -/
def bd6 : C :=
 (.seq (.reg [⟨some 2, none, .alloc 38 [.bool false, .int .i64 0, .int .i64 0, .str [], .int .i64 0, .int .i64 0, .int .i64 0, .int .i64 0, .nilm, .int .i64 0, .int .i64 0, .int .i64 0, .bool false, .int .i64 0, .int .i64 0, .str [], .int .i64 0, .int .i64 0, .int .i64 0, .int .i64 0, .nilm, .int .i64 0, .int .i64 0, .int .i64 0, .bool false, .int .i64 0, .int .i64 0, .str [], .int .i64 0, .int .i64 0, .int .i64 0, .int .i64 0, .nilm, .int .i64 0, .int .i64 0, .int .i64 0, .bool false, .int .i64 0, .int .i64 0, .str [], .int .i64 0, .int .i64 0, .int .i64 0, .int .i64 0, .nilm, .int .i64 0, .int .i64 0, .int .i64 0, .bool false, .int .i64 0, .int .i64 0, .str [], .int .i64 0, .int .i64 0, .int .i64 0, .int .i64 0, .nilm, .int .i64 0, .int .i64 0, .int .i64 0, .bool false, .int .i64 0, .int .i64 0, .str [], .int .i64 0, .int .i64 0, .int .i64 0, .int .i64 0, .nilm, .int .i64 0, .int .i64 0, .int .i64 0, .bool false, .int .i64 0, .int .i64 0, .str [], .int .i64 0, .int .i64 0, .int .i64 0, .int .i64 0, .nilm, .int .i64 0, .int .i64 0, .int .i64 0, .bool false, .int .i64 0, .int .i64 0, .str [], .int .i64 0, .int .i64 0, .int .i64 0, .int .i64 0, .nilm, .int .i64 0, .int .i64 0, .int .i64 0, .bool false, .int .i64 0, .int .i64 0, .str [], .int .i64 0, .int .i64 0, .int .i64 0, .int .i64 0, .nilm, .int .i64 0, .int .i64 0, .int .i64 0, .bool false, .int .i64 0, .int .i64 0, .str [], .int .i64 0, .int .i64 0, .int .i64 0, .int .i64 0, .nilm, .int .i64 0, .int .i64 0, .int .i64 0, .bool false, .int .i64 0, .int .i64 0, .str [], .int .i64 0, .int .i64 0, .int .i64 0, .int .i64 0, .nilm, .int .i64 0, .int .i64 0, .int .i64 0, .bool false, .int .i64 0, .int .i64 0, .str [], .int .i64 0, .int .i64 0, .int .i64 0, .int .i64 0, .nilm, .int .i64 0, .int .i64 0, .int .i64 0, .bool false, .int .i64 0, .int .i64 0, .str [], .int .i64 0, .int .i64 0, .int .i64 0, .int .i64 0, .nilm, .int .i64 0, .int .i64 0, .int .i64 0, .bool false, .int .i64 0, .int .i64 0, .str [], .int .i64 0, .int .i64 0, .int .i64 0, .int .i64 0, .nilm, .int .i64 0, .int .i64 0, .int .i64 0, .bool false, .int .i64 0, .int .i64 0, .str [], .int .i64 0, .int .i64 0, .int .i64 0, .int .i64 0, .nilm, .int .i64 0, .int .i64 0, .int .i64 0, .bool false, .int .i64 0, .int .i64 0, .str [], .int .i64 0, .int .i64 0, .int .i64 0, .int .i64 0, .nilm, .int .i64 0, .int .i64 0, .int .i64 0], .none⟩])
 (.seq (.reg [⟨some 8, none, .call 20 [] 2, .none⟩,
 ⟨some 3, none, .alloc 38 [.bool false, .int .i64 0, .int .i64 0, .str [], .int .i64 0, .int .i64 0, .int .i64 0, .int .i64 0, .nilm, .int .i64 0, .int .i64 0, .int .i64 0, .bool false, .int .i64 0, .int .i64 0, .str [], .int .i64 0, .int .i64 0, .int .i64 0, .int .i64 0, .nilm, .int .i64 0, .int .i64 0, .int .i64 0, .bool false, .int .i64 0, .int .i64 0, .str [], .int .i64 0, .int .i64 0, .int .i64 0, .int .i64 0, .nilm, .int .i64 0, .int .i64 0, .int .i64 0, .bool false, .int .i64 0, .int .i64 0, .str [], .int .i64 0, .int .i64 0, .int .i64 0, .int .i64 0, .nilm, .int .i64 0, .int .i64 0, .int .i64 0, .bool false, .int .i64 0, .int .i64 0, .str [], .int .i64 0, .int .i64 0, .int .i64 0, .int .i64 0, .nilm, .int .i64 0, .int .i64 0, .int .i64 0, .bool false, .int .i64 0, .int .i64 0, .str [], .int .i64 0, .int .i64 0, .int .i64 0, .int .i64 0, .nilm, .int .i64 0, .int .i64 0, .int .i64 0, .bool false, .int .i64 0, .int .i64 0, .str [], .int .i64 0, .int .i64 0, .int .i64 0, .int .i64 0, .nilm, .int .i64 0, .int .i64 0, .int .i64 0, .bool false, .int .i64 0, .int .i64 0, .str [], .int .i64 0, .int .i64 0, .int .i64 0, .int .i64 0, .nilm, .int .i64 0, .int .i64 0, .int .i64 0, .bool false, .int .i64 0, .int .i64 0, .str [], .int .i64 0, .int .i64 0, .int .i64 0, .int .i64 0, .nilm, .int .i64 0, .int .i64 0, .int .i64 0, .bool false, .int .i64 0, .int .i64 0, .str [], .int .i64 0, .int .i64 0, .int .i64 0, .int .i64 0, .nilm, .int .i64 0, .int .i64 0, .int .i64 0, .bool false, .int .i64 0, .int .i64 0, .str [], .int .i64 0, .int .i64 0, .int .i64 0, .int .i64 0, .nilm, .int .i64 0, .int .i64 0, .int .i64 0, .bool false, .int .i64 0, .int .i64 0, .str [], .int .i64 0, .int .i64 0, .int .i64 0, .int .i64 0, .nilm, .int .i64 0, .int .i64 0, .int .i64 0, .bool false, .int .i64 0, .int .i64 0, .str [], .int .i64 0, .int .i64 0, .int .i64 0, .int .i64 0, .nilm, .int .i64 0, .int .i64 0, .int .i64 0, .bool false, .int .i64 0, .int .i64 0, .str [], .int .i64 0, .int .i64 0, .int .i64 0, .int .i64 0, .nilm, .int .i64 0, .int .i64 0, .int .i64 0, .bool false, .int .i64 0, .int .i64 0, .str [], .int .i64 0, .int .i64 0, .int .i64 0, .int .i64 0, .nilm, .int .i64 0, .int .i64 0, .int .i64 0, .bool false, .int .i64 0, .int .i64 0, .str [], .int .i64 0, .int .i64 0, .int .i64 0, .int .i64 0, .nilm, .int .i64 0, .int .i64 0, .int .i64 0], .none⟩,
 ⟨none, none, .st (.s 3) (.s 8) 192, .none⟩])
 (.seq (.seq (.reg [⟨some 9, none, .bsl 4 1 2 [.bool false] [(0, (1, .c (.d (.bool false)))), (1, (1, .c (.d (.bool true))))], .none⟩,
 ⟨some 10, none, .len (.s 9), .none⟩,
 ⟨some 11, none, .mv (.c (.d (.int .i64 0))), .none⟩])
 (.block 0 (.loop [0, 2, 3, 9, 10, 11] lp6_0)))
 (.seq (.reg [⟨some 31, none, .ld (.s 3) 192 true, .none⟩,
 ⟨none, none, .st (.s 2) (.s 31) 192, .none⟩])
 (.ret none)))))
def ir6 : F := { n := 32, res := [.cell 2 192 true], body := bd6 }
@[go_sem] theorem n6 : ir6.n = 32 := rfl
@[go_sem] theorem r6 : ir6.res = [.cell 2 192 true] := rfl
@[go_sem] theorem b6 : ir6.body = bd6 := rfl
def lb7_1 : C :=
 (.seq (.reg [⟨some 26, none, .bin .lss (.s 25) (.s 24), .none⟩])
 (.seq (.cond (.s 26)
 .skip
 (.exit 2 (some [3])))
 (.seq (.block 3 (.seq (.reg [⟨some 27, none, .is (.s 23) (.s 25) 6, .none⟩,
 ⟨some 28, none, .ld (.s 27) 6 true, .none⟩,
 ⟨some 7, none, .alloc 28 [.int .i64 0, .int .i64 0, .int .u64 0, .int .i64 0, .int .u8 0, .nils], .cells [(5, 1, false)]⟩,
 ⟨none, none, .st (.s 7) (.s 28) 6, .none⟩])
 (.seq (.reg [⟨some 29, none, .fa (.s 7) 4, .none⟩,
 ⟨some 30, none, .ld (.s 29) 1 false, .none⟩,
 ⟨some 31, none, .bin .eql (.s 30) (.c (.d (.int .u8 3))), .none⟩])
 (.cond (.s 31)
 (.reg [⟨some 32, none, .mv (.s 3), .none⟩,
 ⟨some 33, none, .ld (.s 7) 6 true, .none⟩,
 ⟨some 34, none, .call 13 [.s 32, .s 33] 0, .none⟩])
 .skip))))
 (.reg [⟨some 35, none, .bin .add (.s 25) (.c (.d (.int .i64 1))), .none⟩,
 ⟨some 25, none, .mv (.s 35), .none⟩]))))
def lp7_1 : C := lb7_1
theorem u7_1 (c : Ev.Callee) (l : Ev.Looper) (s : St) : evC c l lp7_1 s = evC c l lb7_1 s := rfl
abbrev st7_1 (m : Nat) (s3 s23 s24 s25 : AV) (h : Heap) : St := ⟨m, [.unk, .unk, .unk, s3, .unk, .unk, .unk, .unk, .unk, .unk, .unk, .unk, .unk, .unk, .unk, .unk, .unk, .unk, .unk, .unk, .unk, .unk, .unk, s23, s24, s25, .unk, .unk, .unk, .unk, .unk, .unk, .unk, .unk, .unk, .unk, .unk], h⟩
def lb7_0 : C :=
 (.seq (.reg [⟨some 13, none, .bin .lss (.s 12) (.s 11), .none⟩])
 (.seq (.cond (.s 13)
 .skip
 (.exit 0 (some [0, 3])))
 (.seq (.block 1 (.seq (.reg [⟨some 14, none, .is (.s 10) (.s 12) 6, .none⟩,
 ⟨some 15, none, .ld (.s 14) 6 true, .none⟩,
 ⟨some 5, none, .alloc 28 [.int .i64 0, .int .i64 0, .int .u64 0, .int .i64 0, .int .u8 0, .nils], .cells [(5, 1, false)]⟩,
 ⟨none, none, .st (.s 5) (.s 15) 6, .none⟩])
 (.seq (.reg [⟨some 16, none, .fa (.s 5) 4, .none⟩,
 ⟨some 17, none, .ld (.s 16) 1 false, .none⟩,
 ⟨some 18, none, .bin .neq (.s 17) (.c (.d (.int .u8 3))), .none⟩])
 (.cond (.s 18)
 (.reg [⟨some 19, none, .mv (.s 3), .none⟩,
 ⟨some 20, none, .ld (.s 5) 6 true, .none⟩,
 ⟨some 21, none, .call 13 [.s 19, .s 20] 0, .none⟩])
 .skip))))
 (.reg [⟨some 22, none, .bin .add (.s 12) (.c (.d (.int .i64 1))), .none⟩,
 ⟨some 12, none, .mv (.s 22), .none⟩]))))
def lp7_0 : C := lb7_0
theorem u7_0 (c : Ev.Callee) (l : Ev.Looper) (s : St) : evC c l lp7_0 s = evC c l lb7_0 s := rfl
abbrev st7_0 (m : Nat) (s0 s3 s10 s11 s12 : AV) (h : Heap) : St := ⟨m, [s0, .unk, .unk, s3, .unk, .unk, .unk, .unk, .unk, .unk, s10, s11, s12, .unk, .unk, .unk, .unk, .unk, .unk, .unk, .unk, .unk, .unk, .unk, .unk, .unk, .unk, .unk, .unk, .unk, .unk, .unk, .unk, .unk, .unk, .unk, .unk], h⟩
@[go_sem] theorem ks7_0 (v0 v1 v2 v3 v4 v5 v6 v7 v8 v9 v10 v11 v12 v13 v14 v15 v16 v17 v18 v19 v20 v21 v22 v23 v24 v25 v26 v27 v28 v29 v30 v31 v32 v33 v34 v35 v36 : AV) : keepS [0, 3, 10, 11, 12] [v0, v1, v2, v3, v4, v5, v6, v7, v8, v9, v10, v11, v12, v13, v14, v15, v16, v17, v18, v19, v20, v21, v22, v23, v24, v25, v26, v27, v28, v29, v30, v31, v32, v33, v34, v35, v36] 0 = [v0, .unk, .unk, v3, .unk, .unk, .unk, .unk, .unk, .unk, v10, v11, v12, .unk, .unk, .unk, .unk, .unk, .unk, .unk, .unk, .unk, .unk, .unk, .unk, .unk, .unk, .unk, .unk, .unk, .unk, .unk, .unk, .unk, .unk, .unk, .unk] := rfl
@[go_sem] theorem ks7_1 (v0 v1 v2 v3 v4 v5 v6 v7 v8 v9 v10 v11 v12 v13 v14 v15 v16 v17 v18 v19 v20 v21 v22 v23 v24 v25 v26 v27 v28 v29 v30 v31 v32 v33 v34 v35 v36 : AV) : keepS [0, 3] [v0, v1, v2, v3, v4, v5, v6, v7, v8, v9, v10, v11, v12, v13, v14, v15, v16, v17, v18, v19, v20, v21, v22, v23, v24, v25, v26, v27, v28, v29, v30, v31, v32, v33, v34, v35, v36] 0 = [v0, .unk, .unk, v3, .unk, .unk, .unk, .unk, .unk, .unk, .unk, .unk, .unk, .unk, .unk, .unk, .unk, .unk, .unk, .unk, .unk, .unk, .unk, .unk, .unk, .unk, .unk, .unk, .unk, .unk, .unk, .unk, .unk, .unk, .unk, .unk, .unk] := rfl
@[go_sem] theorem ks7_2 (v0 v1 v2 v3 v4 v5 v6 v7 v8 v9 v10 v11 v12 v13 v14 v15 v16 v17 v18 v19 v20 v21 v22 v23 v24 v25 v26 v27 v28 v29 v30 v31 v32 v33 v34 v35 v36 : AV) : keepS [3, 23, 24, 25] [v0, v1, v2, v3, v4, v5, v6, v7, v8, v9, v10, v11, v12, v13, v14, v15, v16, v17, v18, v19, v20, v21, v22, v23, v24, v25, v26, v27, v28, v29, v30, v31, v32, v33, v34, v35, v36] 0 = [.unk, .unk, .unk, v3, .unk, .unk, .unk, .unk, .unk, .unk, .unk, .unk, .unk, .unk, .unk, .unk, .unk, .unk, .unk, .unk, .unk, .unk, .unk, v23, v24, v25, .unk, .unk, .unk, .unk, .unk, .unk, .unk, .unk, .unk, .unk, .unk] := rfl
@[go_sem] theorem ks7_3 (v0 v1 v2 v3 v4 v5 v6 v7 v8 v9 v10 v11 v12 v13 v14 v15 v16 v17 v18 v19 v20 v21 v22 v23 v24 v25 v26 v27 v28 v29 v30 v31 v32 v33 v34 v35 v36 : AV) : keepS [3] [v0, v1, v2, v3, v4, v5, v6, v7, v8, v9, v10, v11, v12, v13, v14, v15, v16, v17, v18, v19, v20, v21, v22, v23, v24, v25, v26, v27, v28, v29, v30, v31, v32, v33, v34, v35, v36] 0 = [.unk, .unk, .unk, v3, .unk, .unk, .unk, .unk, .unk, .unk, .unk, .unk, .unk, .unk, .unk, .unk, .unk, .unk, .unk, .unk, .unk, .unk, .unk, .unk, .unk, .unk, .unk, .unk, .unk, .unk, .unk, .unk, .unk, .unk, .unk, .unk, .unk] := rfl
/-- spence/spenceref17.All -/
def bd7 : C :=
 (.seq (.reg [⟨some 2, none, .mv (.c (.d .nilp)), .none⟩])
 (.seq (.reg [⟨some 8, none, .build [.bool false, .int .i64 0, .int .i64 0, .str [], .int .i64 0, .int .i64 0, .int .i64 0, .int .i64 0, .nils, .int .i64 0, .int .i64 0, .int .i64 0, .bool false, .int .i64 0, .int .i64 0, .str [], .int .i64 0, .int .i64 0, .int .i64 0, .int .i64 0, .nils, .int .i64 0, .int .i64 0, .int .i64 0, .bool false, .int .i64 0, .int .i64 0, .str [], .int .i64 0, .int .i64 0, .int .i64 0, .int .i64 0, .nils, .int .i64 0, .int .i64 0, .int .i64 0, .bool false, .int .i64 0, .int .i64 0, .str [], .int .i64 0, .int .i64 0, .int .i64 0, .int .i64 0, .nils, .int .i64 0, .int .i64 0, .int .i64 0, .bool false, .int .i64 0, .int .i64 0, .str [], .int .i64 0, .int .i64 0, .int .i64 0, .int .i64 0, .nils, .int .i64 0, .int .i64 0, .int .i64 0, .bool false, .int .i64 0, .int .i64 0, .str [], .int .i64 0, .int .i64 0, .int .i64 0, .int .i64 0, .nils, .int .i64 0, .int .i64 0, .int .i64 0, .bool false, .int .i64 0, .int .i64 0, .str [], .int .i64 0, .int .i64 0, .int .i64 0, .int .i64 0, .nils, .int .i64 0, .int .i64 0, .int .i64 0, .bool false, .int .i64 0, .int .i64 0, .str [], .int .i64 0, .int .i64 0, .int .i64 0, .int .i64 0, .nils, .int .i64 0, .int .i64 0, .int .i64 0, .bool false, .int .i64 0, .int .i64 0, .str [], .int .i64 0, .int .i64 0, .int .i64 0, .int .i64 0, .nils, .int .i64 0, .int .i64 0, .int .i64 0, .bool false, .int .i64 0, .int .i64 0, .str [], .int .i64 0, .int .i64 0, .int .i64 0, .int .i64 0, .nils, .int .i64 0, .int .i64 0, .int .i64 0, .bool false, .int .i64 0, .int .i64 0, .str [], .int .i64 0, .int .i64 0, .int .i64 0, .int .i64 0, .nils, .int .i64 0, .int .i64 0, .int .i64 0, .bool false, .int .i64 0, .int .i64 0, .str [], .int .i64 0, .int .i64 0, .int .i64 0, .int .i64 0, .nils, .int .i64 0, .int .i64 0, .int .i64 0, .bool false, .int .i64 0, .int .i64 0, .str [], .int .i64 0, .int .i64 0, .int .i64 0, .int .i64 0, .nils, .int .i64 0, .int .i64 0, .int .i64 0, .bool false, .int .i64 0, .int .i64 0, .str [], .int .i64 0, .int .i64 0, .int .i64 0, .int .i64 0, .nils, .int .i64 0, .int .i64 0, .int .i64 0, .bool false, .int .i64 0, .int .i64 0, .str [], .int .i64 0, .int .i64 0, .int .i64 0, .int .i64 0, .nils, .int .i64 0, .int .i64 0, .int .i64 0, .bool false, .int .i64 0, .int .i64 0, .str [], .int .i64 0, .int .i64 0, .int .i64 0, .int .i64 0, .nils, .int .i64 0, .int .i64 0, .int .i64 0] [], .cells [(8, 3, false), (20, 3, false), (32, 3, false), (44, 3, false), (56, 3, false), (68, 3, false), (80, 3, false), (92, 3, false), (104, 3, false), (116, 3, false), (128, 3, false), (140, 3, false), (152, 3, false), (164, 3, false), (176, 3, false), (188, 3, false)]⟩,
 ⟨some 9, none, .box 66 (.s 8), .none⟩,
 ⟨some 3, none, .mv (.s 9), .none⟩])
 (.seq (.seq (.reg [⟨some 10, none, .mv (.s 0), .none⟩,
 ⟨some 11, none, .len (.s 10), .none⟩,
 ⟨some 12, none, .mv (.c (.d (.int .i64 0))), .none⟩])
 (.block 0 (.loop [0, 3, 10, 11, 12] lp7_0)))
 (.seq (.seq (.reg [⟨some 23, none, .mv (.s 0), .none⟩,
 ⟨some 24, none, .len (.s 23), .none⟩,
 ⟨some 25, none, .mv (.c (.d (.int .i64 0))), .none⟩])
 (.block 2 (.loop [3, 23, 24, 25] lp7_1)))
 (.seq (.reg [⟨some 36, none, .mv (.s 3), .none⟩,
 ⟨some 2, none, .mv (.s 36), .none⟩])
 (.ret none))))))
def ir7 : F := { n := 37, res := [.tmp 2], body := bd7 }
@[go_sem] theorem n7 : ir7.n = 37 := rfl
@[go_sem] theorem r7 : ir7.res = [.tmp 2] := rfl
@[go_sem] theorem b7 : ir7.body = bd7 := rfl
def lb8_1 : C :=
 (.seq (.reg [⟨some 134, none, .bin .lss (.s 133) (.s 132), .none⟩])
 (.seq (.cond (.s 134)
 .skip
 (.exit 2 (some [1, 2, 5, 6, 15])))
 (.seq (.block 3 (.seq (.reg [⟨some 135, none, .mv (.s 133), .none⟩,
 ⟨some 136, none, .is (.s 131) (.s 133) 3, .none⟩,
 ⟨some 137, none, .ld (.s 136) 3 true, .none⟩,
 ⟨some 18, none, .alloc 74 [.int .i64 0, .int .i64 0, .int .i64 0], .none⟩,
 ⟨some 17, none, .mv (.s 135), .none⟩,
 ⟨none, none, .st (.s 18) (.s 137) 3, .none⟩])
 (.seq (.reg [⟨some 138, none, .mv (.s 15), .none⟩,
 ⟨some 139, none, .fa (.s 18) 0, .none⟩,
 ⟨some 140, none, .ld (.s 139) 1 false, .none⟩,
 ⟨some 141, none, .bsl 3 1 1 [.int .i64 0] [(0, (1, .s 140))], .none⟩,
 ⟨some 142, none, .app 3 1 8 (.s 138) (.s 141), .none⟩,
 ⟨some 15, none, .mv (.s 142), .none⟩])
 (.seq (.reg [⟨some 144, none, .ld (.s 2) 192 true, .none⟩,
 ⟨some 145, none, .mv (.s 6), .none⟩,
 ⟨some 146, none, .fa (.s 18) 0, .none⟩,
 ⟨some 147, none, .ld (.s 146) 1 false, .none⟩,
 ⟨some 148, none, .call 26 [.s 144, .s 145, .s 147] 2, .none⟩,
 ⟨some 143, none, .mv (.s 148), .none⟩,
 ⟨some 149, none, .ext (.s 143) 0, .none⟩,
 ⟨some 150, none, .ext (.s 143) 1, .none⟩,
 ⟨some 19, none, .alloc 24 [.int .i64 0, .int .i64 0], .none⟩,
 ⟨none, none, .st (.s 19) (.s 149) 2, .none⟩,
 ⟨some 20, none, .mv (.s 150), .none⟩])
 (.seq (.drw [⟨some 151, none, .mv (.s 20), .none⟩,
 ⟨some 152, none, .un .not (.s 151), .none⟩,
 ⟨some 153, none, .mv (.s 152), .none⟩,
 ⟨some 154, some (153, false), .ld (.s 19) 2 true, .none⟩,
 ⟨some 155, some (153, false), .fa (.s 18) 1, .none⟩,
 ⟨some 156, some (153, false), .ld (.s 155) 2 true, .none⟩,
 ⟨some 157, some (153, false), .eqs true [1, 1] (.s 154) (.s 156), .none⟩,
 ⟨some 158, none, .pick (.s 153) (.c (.d (.bool true))) (.s 157), .none⟩,
 ⟨some 159, none, .mv (.s 158), .none⟩,
 ⟨some 160, some (159, false), .mv (.s 16), .none⟩,
 ⟨some 161, some (159, false), .mv (.s 17), .none⟩,
 ⟨some 162, some (159, false), .is (.s 160) (.s 161) 2, .none⟩,
 ⟨some 163, some (159, false), .ld (.s 162) 2 true, .none⟩,
 ⟨some 164, some (159, false), .fa (.s 18) 1, .none⟩,
 ⟨some 165, some (159, false), .ld (.s 164) 2 true, .none⟩,
 ⟨some 166, some (159, false), .eqs true [1, 1] (.s 163) (.s 165), .none⟩,
 ⟨some 167, none, .pick (.s 159) (.c (.d (.bool true))) (.s 166), .none⟩]
 [[], [0], [1], [2], [2], [4, 2], [3, 5, 2], [2, 6], [7, 2], [8], [8], [9, 10, 8], [11, 8], [8], [13, 8], [12, 14, 8], [8, 15]] [])
 (.cond (.s 167)
 (.seq (.reg [⟨some 4, none, .mv (.c (.d (.bool false))), .none⟩])
 (.ret (some [4])))
 .skip))))))
 (.reg [⟨some 168, none, .bin .add (.s 133) (.c (.d (.int .i64 1))), .none⟩,
 ⟨some 133, none, .mv (.s 168), .none⟩]))))
def lp8_1 : C := lb8_1
theorem u8_1 (c : Ev.Callee) (l : Ev.Looper) (s : St) : evC c l lp8_1 s = evC c l lb8_1 s := rfl
abbrev st8_1 (m : Nat) (s1 s2 s5 s6 s15 s16 s131 s132 s133 : AV) (h : Heap) : St := ⟨m, [.unk, s1, s2, .unk, .unk, s5, s6, .unk, .unk, .unk, .unk, .unk, .unk, .unk, .unk, s15, s16, .unk, .unk, .unk, .unk, .unk, .unk, .unk, .unk, .unk, .unk, .unk, .unk, .unk, .unk, .unk, .unk, .unk, .unk, .unk, .unk, .unk, .unk, .unk, .unk, .unk, .unk, .unk, .unk, .unk, .unk, .unk, .unk, .unk, .unk, .unk, .unk, .unk, .unk, .unk, .unk, .unk, .unk, .unk, .unk, .unk, .unk, .unk, .unk, .unk, .unk, .unk, .unk, .unk, .unk, .unk, .unk, .unk, .unk, .unk, .unk, .unk, .unk, .unk, .unk, .unk, .unk, .unk, .unk, .unk, .unk, .unk, .unk, .unk, .unk, .unk, .unk, .unk, .unk, .unk, .unk, .unk, .unk, .unk, .unk, .unk, .unk, .unk, .unk, .unk, .unk, .unk, .unk, .unk, .unk, .unk, .unk, .unk, .unk, .unk, .unk, .unk, .unk, .unk, .unk, .unk, .unk, .unk, .unk, .unk, .unk, .unk, .unk, .unk, .unk, s131, s132, s133, .unk, .unk, .unk, .unk, .unk, .unk, .unk, .unk, .unk, .unk, .unk, .unk, .unk, .unk, .unk, .unk, .unk, .unk, .unk, .unk, .unk, .unk, .unk, .unk, .unk, .unk, .unk, .unk, .unk, .unk, .unk, .unk, .unk, .unk, .unk, .unk, .unk, .unk, .unk, .unk, .unk, .unk, .unk, .unk, .unk, .unk], h⟩
def lb8_0 : C :=
 (.seq (.seq (.reg [⟨some 21, none, .mv (.s 6), .none⟩,
 ⟨some 22, none, .bin .leq (.s 21) (.c (.d (.int .i64 16))), .none⟩])
 (.cond (.s 22)
 .skip
 (.exit 0 (some [2, 5]))))
 (.seq (.block 1 (.seq (.reg [⟨some 7, none, .alloc 63 [.bool false, .int .i64 0, .int .i64 0, .str [], .int .i64 0, .int .i64 0, .int .i64 0, .int .i64 0, .nils, .int .i64 0, .int .i64 0, .int .i64 0], .cells [(8, 3, false)]⟩])
 (.seq (.seq (.reg [⟨some 25, none, .mv (.s 6), .none⟩,
 ⟨some 26, none, .bin .geq (.s 25) (.c (.d (.int .i64 0))), .none⟩,
 ⟨some 27, none, .mv (.s 26), .none⟩,
 ⟨some 28, some (27, true), .mv (.s 6), .none⟩,
 ⟨some 29, some (27, true), .bin .lss (.s 28) (.c (.d (.int .i64 16))), .none⟩,
 ⟨some 30, none, .pick (.s 27) (.s 29) (.c (.d (.bool false))), .none⟩])
 (.cond (.s 30)
 (.reg [⟨some 31, none, .mv (.s 1), .none⟩,
 ⟨some 32, none, .mv (.s 6), .none⟩,
 ⟨some 33, none, .nc (.s 31), .none⟩,
 ⟨some 34, none, .fa (.s 33) 0, .none⟩,
 ⟨some 35, none, .ia (.s 34) (.s 32) 16 12, .none⟩,
 ⟨some 36, none, .ld (.s 35) 12 true, .none⟩,
 ⟨none, none, .st (.s 7) (.s 36) 12, .none⟩])
 .skip))
 (.ann [1, 2, 5, 6, 7] (.seq (.seq (.reg [⟨some 37, none, .fa (.s 7) 0, .none⟩,
 ⟨some 38, none, .ld (.s 37) 1 false, .none⟩])
 (.cond (.s 38)
 (.reg [⟨some 39, none, .mv (.s 5), .none⟩,
 ⟨some 40, none, .mv (.s 6), .none⟩,
 ⟨some 41, none, .bsl 3 1 1 [.int .i64 0] [(0, (1, .s 40))], .none⟩,
 ⟨some 42, none, .app 3 1 8 (.s 39) (.s 41), .none⟩,
 ⟨some 5, none, .mv (.s 42), .none⟩])
 .skip))
 (.ann [1, 2, 5, 6, 7] (.seq (.reg [⟨some 44, none, .ld (.s 2) 192 true, .none⟩,
 ⟨some 45, none, .mv (.s 6), .none⟩,
 ⟨some 46, none, .call 19 [.s 44, .s 45] 2, .none⟩,
 ⟨some 43, none, .mv (.s 46), .none⟩,
 ⟨some 47, none, .ext (.s 43) 0, .none⟩,
 ⟨some 48, none, .ext (.s 43) 1, .none⟩,
 ⟨some 8, none, .alloc 32 [.int .i64 0, .int .i64 0, .str [], .int .i64 0, .int .i64 0], .none⟩,
 ⟨none, none, .st (.s 8) (.s 47) 5, .none⟩,
 ⟨some 9, none, .mv (.s 48), .none⟩])
 (.seq (.reg [⟨some 50, none, .ld (.s 2) 192 true, .none⟩,
 ⟨some 51, none, .mv (.s 6), .none⟩,
 ⟨some 52, none, .call 21 [.s 50, .s 51] 2, .none⟩,
 ⟨some 49, none, .mv (.s 52), .none⟩,
 ⟨some 53, none, .ext (.s 49) 0, .none⟩,
 ⟨some 54, none, .ext (.s 49) 1, .none⟩,
 ⟨some 10, none, .alloc 24 [.int .i64 0, .int .i64 0], .none⟩,
 ⟨none, none, .st (.s 10) (.s 53) 2, .none⟩,
 ⟨some 11, none, .mv (.s 54), .none⟩])
 (.seq (.reg [⟨some 56, none, .ld (.s 2) 192 true, .none⟩,
 ⟨some 57, none, .mv (.s 6), .none⟩,
 ⟨some 58, none, .call 22 [.s 56, .s 57] 2, .none⟩,
 ⟨some 55, none, .mv (.s 58), .none⟩,
 ⟨some 59, none, .ext (.s 55) 0, .none⟩,
 ⟨some 60, none, .ext (.s 55) 1, .none⟩,
 ⟨some 12, none, .alloc 24 [.int .i64 0, .int .i64 0], .none⟩,
 ⟨none, none, .st (.s 12) (.s 59) 2, .none⟩,
 ⟨some 13, none, .mv (.s 60), .none⟩])
 (.seq (.reg [⟨some 61, none, .fa (.s 7) 9, .none⟩,
 ⟨some 62, none, .ld (.s 61) 1 false, .none⟩,
 ⟨some 14, none, .mv (.s 62), .none⟩])
 (.seq (.seq (.reg [⟨some 63, none, .fa (.s 7) 1, .none⟩,
 ⟨some 64, none, .fa (.s 63) 1, .none⟩,
 ⟨some 65, none, .ld (.s 64) 1 false, .none⟩,
 ⟨some 66, none, .mv (.s 14), .none⟩,
 ⟨some 67, none, .bin .gtr (.s 65) (.s 66), .none⟩])
 (.cond (.s 67)
 (.reg [⟨some 68, none, .fa (.s 7) 1, .none⟩,
 ⟨some 69, none, .fa (.s 68) 1, .none⟩,
 ⟨some 70, none, .ld (.s 69) 1 false, .none⟩,
 ⟨some 14, none, .mv (.s 70), .none⟩])
 .skip))
 (.ann [1, 2, 5, 6, 7, 8, 9, 10, 11, 12, 13, 14] (.seq (.seq (.drw [⟨some 71, none, .mv (.s 9), .none⟩,
 ⟨some 72, none, .fa (.s 7) 0, .none⟩,
 ⟨some 73, none, .ld (.s 72) 1 false, .none⟩,
 ⟨some 74, none, .beq true (.s 71) (.s 73), .none⟩,
 ⟨some 75, none, .mv (.s 74), .none⟩,
 ⟨some 76, some (75, false), .ld (.s 8) 5 true, .none⟩,
 ⟨some 77, some (75, false), .fa (.s 7) 1, .none⟩,
 ⟨some 78, some (75, false), .ld (.s 77) 5 true, .none⟩,
 ⟨some 79, some (75, false), .eqs true [1, 1, 2, 1, 1] (.s 76) (.s 78), .none⟩,
 ⟨some 80, none, .pick (.s 75) (.c (.d (.bool true))) (.s 79), .none⟩,
 ⟨some 81, none, .mv (.s 80), .none⟩,
 ⟨some 82, some (81, false), .mv (.s 11), .none⟩,
 ⟨some 83, some (81, false), .fa (.s 7) 0, .none⟩,
 ⟨some 84, some (81, false), .ld (.s 83) 1 false, .none⟩,
 ⟨some 85, some (81, false), .beq true (.s 82) (.s 84), .none⟩,
 ⟨some 86, none, .pick (.s 81) (.c (.d (.bool true))) (.s 85), .none⟩,
 ⟨some 87, none, .mv (.s 86), .none⟩,
 ⟨some 88, some (87, false), .ld (.s 10) 2 true, .none⟩,
 ⟨some 89, some (87, false), .fa (.s 7) 6, .none⟩,
 ⟨some 90, some (87, false), .ld (.s 89) 2 true, .none⟩,
 ⟨some 91, some (87, false), .eqs true [1, 1] (.s 88) (.s 90), .none⟩,
 ⟨some 92, none, .pick (.s 87) (.c (.d (.bool true))) (.s 91), .none⟩,
 ⟨some 93, none, .mv (.s 92), .none⟩,
 ⟨some 94, some (93, false), .ld (.s 12) 2 true, .none⟩,
 ⟨some 95, some (93, false), .fa (.s 7) 10, .none⟩,
 ⟨some 96, some (93, false), .ld (.s 95) 2 true, .none⟩,
 ⟨some 97, some (93, false), .eqs true [1, 1] (.s 94) (.s 96), .none⟩,
 ⟨some 98, none, .pick (.s 93) (.c (.d (.bool true))) (.s 97), .none⟩,
 ⟨some 99, none, .mv (.s 98), .none⟩,
 ⟨some 100, some (99, false), .mv (.s 13), .none⟩,
 ⟨some 101, some (99, false), .fa (.s 7) 9, .none⟩,
 ⟨some 102, some (99, false), .ld (.s 101) 1 false, .none⟩,
 ⟨some 103, some (99, false), .bin .gtr (.s 102) (.c (.d (.int .i64 0))), .none⟩,
 ⟨some 104, some (99, false), .beq true (.s 100) (.s 103), .none⟩,
 ⟨some 105, none, .pick (.s 99) (.c (.d (.bool true))) (.s 104), .none⟩,
 ⟨some 106, none, .mv (.s 105), .none⟩,
 ⟨some 107, some (106, false), .ld (.s 2) 192 true, .none⟩,
 ⟨some 108, some (106, false), .mv (.s 6), .none⟩,
 ⟨some 109, some (106, false), .call 23 [.s 107, .s 108] 2, .none⟩,
 ⟨some 110, some (106, false), .fa (.s 7) 9, .none⟩,
 ⟨some 111, some (106, false), .ld (.s 110) 1 false, .none⟩,
 ⟨some 112, some (106, false), .bin .neq (.s 109) (.s 111), .none⟩,
 ⟨some 113, none, .pick (.s 106) (.c (.d (.bool true))) (.s 112), .none⟩,
 ⟨some 114, none, .mv (.s 113), .none⟩,
 ⟨some 115, some (114, false), .ld (.s 2) 192 true, .none⟩,
 ⟨some 116, some (114, false), .mv (.s 6), .none⟩,
 ⟨some 117, some (114, false), .call 24 [.s 115, .s 116] 2, .none⟩,
 ⟨some 118, some (114, false), .mv (.s 14), .none⟩,
 ⟨some 119, some (114, false), .bin .neq (.s 117) (.s 118), .none⟩,
 ⟨some 120, none, .pick (.s 114) (.c (.d (.bool true))) (.s 119), .none⟩]
 [[], [], [1], [0, 2], [3], [4], [4], [6, 4], [5, 7, 4], [4, 8], [9, 4], [10], [10], [12, 10], [11, 13, 10], [10, 14], [15, 10], [16], [16], [18, 16], [17, 19, 16], [16, 20], [21, 16], [22], [22], [24, 22], [23, 25, 22], [22, 26], [27, 22], [28], [28], [30, 28], [31, 28], [29, 32, 28], [28, 33], [34, 28], [35], [35], [36, 37, 35, 35], [35], [39, 35], [38, 40, 35], [35, 41], [42, 38], [43], [43], [44, 45, 43, 43], [43], [46, 47, 43], [43, 48]] [])
 (.cond (.s 120)
 (.seq (.reg [⟨some 4, none, .mv (.c (.d (.bool false))), .none⟩])
 (.ret (some [4])))
 .skip))
 (.seq (.reg [⟨some 15, none, .mv (.c (.d .nils)), .one 1 true⟩])
 (.seq (.reg [⟨some 121, none, .ld (.s 2) 192 true, .none⟩,
 ⟨some 122, none, .mv (.s 6), .none⟩,
 ⟨some 123, none, .call 25 [.s 121, .s 122] 2, .none⟩,
 ⟨some 16, none, .mv (.s 123), .none⟩])
 (.seq (.seq (.reg [⟨some 124, none, .mv (.s 16), .none⟩,
 ⟨some 125, none, .len (.s 124), .none⟩,
 ⟨some 126, none, .fa (.s 7) 8, .none⟩,
 ⟨some 127, none, .ld (.s 126) 1 false, .none⟩,
 ⟨some 128, none, .len (.s 127), .none⟩,
 ⟨some 129, none, .bin .neq (.s 125) (.s 128), .none⟩])
 (.cond (.s 129)
 (.seq (.reg [⟨some 4, none, .mv (.c (.d (.bool false))), .none⟩])
 (.ret (some [4])))
 .skip))
 (.seq (.seq (.reg [⟨some 130, none, .fa (.s 7) 8, .none⟩,
 ⟨some 131, none, .ld (.s 130) 1 false, .none⟩,
 ⟨some 132, none, .len (.s 131), .none⟩,
 ⟨some 133, none, .mv (.c (.d (.int .i64 0))), .none⟩])
 (.block 2 (.loop [1, 2, 5, 6, 15, 16, 131, 132, 133] lp8_1)))
 (.seq (.reg [⟨some 169, none, .ld (.s 2) 192 true, .none⟩,
 ⟨some 170, none, .mv (.s 6), .none⟩,
 ⟨some 171, none, .call 28 [.s 169, .s 170] 2, .none⟩,
 ⟨some 172, none, .call 29 [.s 171] 2, .none⟩,
 ⟨some 173, none, .mv (.s 15), .none⟩,
 ⟨some 174, none, .call 27 [.s 172, .s 173] 0, .none⟩,
 ⟨some 175, none, .un .not (.s 174), .none⟩])
 (.cond (.s 175)
 (.seq (.reg [⟨some 4, none, .mv (.c (.d (.bool false))), .none⟩])
 (.ret (some [4])))
 .skip)))))))))))))))))))
 (.reg [⟨some 23, none, .mv (.s 6), .none⟩,
 ⟨some 24, none, .bin .add (.s 23) (.c (.d (.int .i64 1))), .none⟩,
 ⟨some 6, none, .mv (.s 24), .none⟩])))
def lp8_0 : C := lb8_0
theorem u8_0 (c : Ev.Callee) (l : Ev.Looper) (s : St) : evC c l lp8_0 s = evC c l lb8_0 s := rfl
abbrev st8_0 (m : Nat) (s1 s2 s5 s6 : AV) (h : Heap) : St := ⟨m, [.unk, s1, s2, .unk, .unk, s5, s6, .unk, .unk, .unk, .unk, .unk, .unk, .unk, .unk, .unk, .unk, .unk, .unk, .unk, .unk, .unk, .unk, .unk, .unk, .unk, .unk, .unk, .unk, .unk, .unk, .unk, .unk, .unk, .unk, .unk, .unk, .unk, .unk, .unk, .unk, .unk, .unk, .unk, .unk, .unk, .unk, .unk, .unk, .unk, .unk, .unk, .unk, .unk, .unk, .unk, .unk, .unk, .unk, .unk, .unk, .unk, .unk, .unk, .unk, .unk, .unk, .unk, .unk, .unk, .unk, .unk, .unk, .unk, .unk, .unk, .unk, .unk, .unk, .unk, .unk, .unk, .unk, .unk, .unk, .unk, .unk, .unk, .unk, .unk, .unk, .unk, .unk, .unk, .unk, .unk, .unk, .unk, .unk, .unk, .unk, .unk, .unk, .unk, .unk, .unk, .unk, .unk, .unk, .unk, .unk, .unk, .unk, .unk, .unk, .unk, .unk, .unk, .unk, .unk, .unk, .unk, .unk, .unk, .unk, .unk, .unk, .unk, .unk, .unk, .unk, .unk, .unk, .unk, .unk, .unk, .unk, .unk, .unk, .unk, .unk, .unk, .unk, .unk, .unk, .unk, .unk, .unk, .unk, .unk, .unk, .unk, .unk, .unk, .unk, .unk, .unk, .unk, .unk, .unk, .unk, .unk, .unk, .unk, .unk, .unk, .unk, .unk, .unk, .unk, .unk, .unk, .unk, .unk, .unk, .unk, .unk, .unk, .unk, .unk], h⟩
@[go_sem] theorem ks8_0 (v0 v1 v2 v3 v4 v5 v6 v7 v8 v9 v10 v11 v12 v13 v14 v15 v16 v17 v18 v19 v20 v21 v22 v23 v24 v25 v26 v27 v28 v29 v30 v31 v32 v33 v34 v35 v36 v37 v38 v39 v40 v41 v42 v43 v44 v45 v46 v47 v48 v49 v50 v51 v52 v53 v54 v55 v56 v57 v58 v59 v60 v61 v62 v63 v64 v65 v66 v67 v68 v69 v70 v71 v72 v73 v74 v75 v76 v77 v78 v79 v80 v81 v82 v83 v84 v85 v86 v87 v88 v89 v90 v91 v92 v93 v94 v95 v96 v97 v98 v99 v100 v101 v102 v103 v104 v105 v106 v107 v108 v109 v110 v111 v112 v113 v114 v115 v116 v117 v118 v119 v120 v121 v122 v123 v124 v125 v126 v127 v128 v129 v130 v131 v132 v133 v134 v135 v136 v137 v138 v139 v140 v141 v142 v143 v144 v145 v146 v147 v148 v149 v150 v151 v152 v153 v154 v155 v156 v157 v158 v159 v160 v161 v162 v163 v164 v165 v166 v167 v168 v169 v170 v171 v172 v173 v174 v175 v176 v177 v178 v179 : AV) : keepS [1, 2, 5, 6] [v0, v1, v2, v3, v4, v5, v6, v7, v8, v9, v10, v11, v12, v13, v14, v15, v16, v17, v18, v19, v20, v21, v22, v23, v24, v25, v26, v27, v28, v29, v30, v31, v32, v33, v34, v35, v36, v37, v38, v39, v40, v41, v42, v43, v44, v45, v46, v47, v48, v49, v50, v51, v52, v53, v54, v55, v56, v57, v58, v59, v60, v61, v62, v63, v64, v65, v66, v67, v68, v69, v70, v71, v72, v73, v74, v75, v76, v77, v78, v79, v80, v81, v82, v83, v84, v85, v86, v87, v88, v89, v90, v91, v92, v93, v94, v95, v96, v97, v98, v99, v100, v101, v102, v103, v104, v105, v106, v107, v108, v109, v110, v111, v112, v113, v114, v115, v116, v117, v118, v119, v120, v121, v122, v123, v124, v125, v126, v127, v128, v129, v130, v131, v132, v133, v134, v135, v136, v137, v138, v139, v140, v141, v142, v143, v144, v145, v146, v147, v148, v149, v150, v151, v152, v153, v154, v155, v156, v157, v158, v159, v160, v161, v162, v163, v164, v165, v166, v167, v168, v169, v170, v171, v172, v173, v174, v175, v176, v177, v178, v179] 0 = [.unk, v1, v2, .unk, .unk, v5, v6, .unk, .unk, .unk, .unk, .unk, .unk, .unk, .unk, .unk, .unk, .unk, .unk, .unk, .unk, .unk, .unk, .unk, .unk, .unk, .unk, .unk, .unk, .unk, .unk, .unk, .unk, .unk, .unk, .unk, .unk, .unk, .unk, .unk, .unk, .unk, .unk, .unk, .unk, .unk, .unk, .unk, .unk, .unk, .unk, .unk, .unk, .unk, .unk, .unk, .unk, .unk, .unk, .unk, .unk, .unk, .unk, .unk, .unk, .unk, .unk, .unk, .unk, .unk, .unk, .unk, .unk, .unk, .unk, .unk, .unk, .unk, .unk, .unk, .unk, .unk, .unk, .unk, .unk, .unk, .unk, .unk, .unk, .unk, .unk, .unk, .unk, .unk, .unk, .unk, .unk, .unk, .unk, .unk, .unk, .unk, .unk, .unk, .unk, .unk, .unk, .unk, .unk, .unk, .unk, .unk, .unk, .unk, .unk, .unk, .unk, .unk, .unk, .unk, .unk, .unk, .unk, .unk, .unk, .unk, .unk, .unk, .unk, .unk, .unk, .unk, .unk, .unk, .unk, .unk, .unk, .unk, .unk, .unk, .unk, .unk, .unk, .unk, .unk, .unk, .unk, .unk, .unk, .unk, .unk, .unk, .unk, .unk, .unk, .unk, .unk, .unk, .unk, .unk, .unk, .unk, .unk, .unk, .unk, .unk, .unk, .unk, .unk, .unk, .unk, .unk, .unk, .unk, .unk, .unk, .unk, .unk, .unk, .unk] := rfl
@[go_sem] theorem ks8_1 (v0 v1 v2 v3 v4 v5 v6 v7 v8 v9 v10 v11 v12 v13 v14 v15 v16 v17 v18 v19 v20 v21 v22 v23 v24 v25 v26 v27 v28 v29 v30 v31 v32 v33 v34 v35 v36 v37 v38 v39 v40 v41 v42 v43 v44 v45 v46 v47 v48 v49 v50 v51 v52 v53 v54 v55 v56 v57 v58 v59 v60 v61 v62 v63 v64 v65 v66 v67 v68 v69 v70 v71 v72 v73 v74 v75 v76 v77 v78 v79 v80 v81 v82 v83 v84 v85 v86 v87 v88 v89 v90 v91 v92 v93 v94 v95 v96 v97 v98 v99 v100 v101 v102 v103 v104 v105 v106 v107 v108 v109 v110 v111 v112 v113 v114 v115 v116 v117 v118 v119 v120 v121 v122 v123 v124 v125 v126 v127 v128 v129 v130 v131 v132 v133 v134 v135 v136 v137 v138 v139 v140 v141 v142 v143 v144 v145 v146 v147 v148 v149 v150 v151 v152 v153 v154 v155 v156 v157 v158 v159 v160 v161 v162 v163 v164 v165 v166 v167 v168 v169 v170 v171 v172 v173 v174 v175 v176 v177 v178 v179 : AV) : keepS [2, 5] [v0, v1, v2, v3, v4, v5, v6, v7, v8, v9, v10, v11, v12, v13, v14, v15, v16, v17, v18, v19, v20, v21, v22, v23, v24, v25, v26, v27, v28, v29, v30, v31, v32, v33, v34, v35, v36, v37, v38, v39, v40, v41, v42, v43, v44, v45, v46, v47, v48, v49, v50, v51, v52, v53, v54, v55, v56, v57, v58, v59, v60, v61, v62, v63, v64, v65, v66, v67, v68, v69, v70, v71, v72, v73, v74, v75, v76, v77, v78, v79, v80, v81, v82, v83, v84, v85, v86, v87, v88, v89, v90, v91, v92, v93, v94, v95, v96, v97, v98, v99, v100, v101, v102, v103, v104, v105, v106, v107, v108, v109, v110, v111, v112, v113, v114, v115, v116, v117, v118, v119, v120, v121, v122, v123, v124, v125, v126, v127, v128, v129, v130, v131, v132, v133, v134, v135, v136, v137, v138, v139, v140, v141, v142, v143, v144, v145, v146, v147, v148, v149, v150, v151, v152, v153, v154, v155, v156, v157, v158, v159, v160, v161, v162, v163, v164, v165, v166, v167, v168, v169, v170, v171, v172, v173, v174, v175, v176, v177, v178, v179] 0 = [.unk, .unk, v2, .unk, .unk, v5, .unk, .unk, .unk, .unk, .unk, .unk, .unk, .unk, .unk, .unk, .unk, .unk, .unk, .unk, .unk, .unk, .unk, .unk, .unk, .unk, .unk, .unk, .unk, .unk, .unk, .unk, .unk, .unk, .unk, .unk, .unk, .unk, .unk, .unk, .unk, .unk, .unk, .unk, .unk, .unk, .unk, .unk, .unk, .unk, .unk, .unk, .unk, .unk, .unk, .unk, .unk, .unk, .unk, .unk, .unk, .unk, .unk, .unk, .unk, .unk, .unk, .unk, .unk, .unk, .unk, .unk, .unk, .unk, .unk, .unk, .unk, .unk, .unk, .unk, .unk, .unk, .unk, .unk, .unk, .unk, .unk, .unk, .unk, .unk, .unk, .unk, .unk, .unk, .unk, .unk, .unk, .unk, .unk, .unk, .unk, .unk, .unk, .unk, .unk, .unk, .unk, .unk, .unk, .unk, .unk, .unk, .unk, .unk, .unk, .unk, .unk, .unk, .unk, .unk, .unk, .unk, .unk, .unk, .unk, .unk, .unk, .unk, .unk, .unk, .unk, .unk, .unk, .unk, .unk, .unk, .unk, .unk, .unk, .unk, .unk, .unk, .unk, .unk, .unk, .unk, .unk, .unk, .unk, .unk, .unk, .unk, .unk, .unk, .unk, .unk, .unk, .unk, .unk, .unk, .unk, .unk, .unk, .unk, .unk, .unk, .unk, .unk, .unk, .unk, .unk, .unk, .unk, .unk, .unk, .unk, .unk, .unk, .unk, .unk] := rfl
@[go_sem] theorem ks8_2 (v0 v1 v2 v3 v4 v5 v6 v7 v8 v9 v10 v11 v12 v13 v14 v15 v16 v17 v18 v19 v20 v21 v22 v23 v24 v25 v26 v27 v28 v29 v30 v31 v32 v33 v34 v35 v36 v37 v38 v39 v40 v41 v42 v43 v44 v45 v46 v47 v48 v49 v50 v51 v52 v53 v54 v55 v56 v57 v58 v59 v60 v61 v62 v63 v64 v65 v66 v67 v68 v69 v70 v71 v72 v73 v74 v75 v76 v77 v78 v79 v80 v81 v82 v83 v84 v85 v86 v87 v88 v89 v90 v91 v92 v93 v94 v95 v96 v97 v98 v99 v100 v101 v102 v103 v104 v105 v106 v107 v108 v109 v110 v111 v112 v113 v114 v115 v116 v117 v118 v119 v120 v121 v122 v123 v124 v125 v126 v127 v128 v129 v130 v131 v132 v133 v134 v135 v136 v137 v138 v139 v140 v141 v142 v143 v144 v145 v146 v147 v148 v149 v150 v151 v152 v153 v154 v155 v156 v157 v158 v159 v160 v161 v162 v163 v164 v165 v166 v167 v168 v169 v170 v171 v172 v173 v174 v175 v176 v177 v178 v179 : AV) : keepS [1, 2, 5, 6, 7] [v0, v1, v2, v3, v4, v5, v6, v7, v8, v9, v10, v11, v12, v13, v14, v15, v16, v17, v18, v19, v20, v21, v22, v23, v24, v25, v26, v27, v28, v29, v30, v31, v32, v33, v34, v35, v36, v37, v38, v39, v40, v41, v42, v43, v44, v45, v46, v47, v48, v49, v50, v51, v52, v53, v54, v55, v56, v57, v58, v59, v60, v61, v62, v63, v64, v65, v66, v67, v68, v69, v70, v71, v72, v73, v74, v75, v76, v77, v78, v79, v80, v81, v82, v83, v84, v85, v86, v87, v88, v89, v90, v91, v92, v93, v94, v95, v96, v97, v98, v99, v100, v101, v102, v103, v104, v105, v106, v107, v108, v109, v110, v111, v112, v113, v114, v115, v116, v117, v118, v119, v120, v121, v122, v123, v124, v125, v126, v127, v128, v129, v130, v131, v132, v133, v134, v135, v136, v137, v138, v139, v140, v141, v142, v143, v144, v145, v146, v147, v148, v149, v150, v151, v152, v153, v154, v155, v156, v157, v158, v159, v160, v161, v162, v163, v164, v165, v166, v167, v168, v169, v170, v171, v172, v173, v174, v175, v176, v177, v178, v179] 0 = [.unk, v1, v2, .unk, .unk, v5, v6, v7, .unk, .unk, .unk, .unk, .unk, .unk, .unk, .unk, .unk, .unk, .unk, .unk, .unk, .unk, .unk, .unk, .unk, .unk, .unk, .unk, .unk, .unk, .unk, .unk, .unk, .unk, .unk, .unk, .unk, .unk, .unk, .unk, .unk, .unk, .unk, .unk, .unk, .unk, .unk, .unk, .unk, .unk, .unk, .unk, .unk, .unk, .unk, .unk, .unk, .unk, .unk, .unk, .unk, .unk, .unk, .unk, .unk, .unk, .unk, .unk, .unk, .unk, .unk, .unk, .unk, .unk, .unk, .unk, .unk, .unk, .unk, .unk, .unk, .unk, .unk, .unk, .unk, .unk, .unk, .unk, .unk, .unk, .unk, .unk, .unk, .unk, .unk, .unk, .unk, .unk, .unk, .unk, .unk, .unk, .unk, .unk, .unk, .unk, .unk, .unk, .unk, .unk, .unk, .unk, .unk, .unk, .unk, .unk, .unk, .unk, .unk, .unk, .unk, .unk, .unk, .unk, .unk, .unk, .unk, .unk, .unk, .unk, .unk, .unk, .unk, .unk, .unk, .unk, .unk, .unk, .unk, .unk, .unk, .unk, .unk, .unk, .unk, .unk, .unk, .unk, .unk, .unk, .unk, .unk, .unk, .unk, .unk, .unk, .unk, .unk, .unk, .unk, .unk, .unk, .unk, .unk, .unk, .unk, .unk, .unk, .unk, .unk, .unk, .unk, .unk, .unk, .unk, .unk, .unk, .unk, .unk, .unk] := rfl
@[go_sem] theorem ks8_3 (v0 v1 v2 v3 v4 v5 v6 v7 v8 v9 v10 v11 v12 v13 v14 v15 v16 v17 v18 v19 v20 v21 v22 v23 v24 v25 v26 v27 v28 v29 v30 v31 v32 v33 v34 v35 v36 v37 v38 v39 v40 v41 v42 v43 v44 v45 v46 v47 v48 v49 v50 v51 v52 v53 v54 v55 v56 v57 v58 v59 v60 v61 v62 v63 v64 v65 v66 v67 v68 v69 v70 v71 v72 v73 v74 v75 v76 v77 v78 v79 v80 v81 v82 v83 v84 v85 v86 v87 v88 v89 v90 v91 v92 v93 v94 v95 v96 v97 v98 v99 v100 v101 v102 v103 v104 v105 v106 v107 v108 v109 v110 v111 v112 v113 v114 v115 v116 v117 v118 v119 v120 v121 v122 v123 v124 v125 v126 v127 v128 v129 v130 v131 v132 v133 v134 v135 v136 v137 v138 v139 v140 v141 v142 v143 v144 v145 v146 v147 v148 v149 v150 v151 v152 v153 v154 v155 v156 v157 v158 v159 v160 v161 v162 v163 v164 v165 v166 v167 v168 v169 v170 v171 v172 v173 v174 v175 v176 v177 v178 v179 : AV) : keepS [1, 2, 5, 6, 7, 8, 9, 10, 11, 12, 13, 14] [v0, v1, v2, v3, v4, v5, v6, v7, v8, v9, v10, v11, v12, v13, v14, v15, v16, v17, v18, v19, v20, v21, v22, v23, v24, v25, v26, v27, v28, v29, v30, v31, v32, v33, v34, v35, v36, v37, v38, v39, v40, v41, v42, v43, v44, v45, v46, v47, v48, v49, v50, v51, v52, v53, v54, v55, v56, v57, v58, v59, v60, v61, v62, v63, v64, v65, v66, v67, v68, v69, v70, v71, v72, v73, v74, v75, v76, v77, v78, v79, v80, v81, v82, v83, v84, v85, v86, v87, v88, v89, v90, v91, v92, v93, v94, v95, v96, v97, v98, v99, v100, v101, v102, v103, v104, v105, v106, v107, v108, v109, v110, v111, v112, v113, v114, v115, v116, v117, v118, v119, v120, v121, v122, v123, v124, v125, v126, v127, v128, v129, v130, v131, v132, v133, v134, v135, v136, v137, v138, v139, v140, v141, v142, v143, v144, v145, v146, v147, v148, v149, v150, v151, v152, v153, v154, v155, v156, v157, v158, v159, v160, v161, v162, v163, v164, v165, v166, v167, v168, v169, v170, v171, v172, v173, v174, v175, v176, v177, v178, v179] 0 = [.unk, v1, v2, .unk, .unk, v5, v6, v7, v8, v9, v10, v11, v12, v13, v14, .unk, .unk, .unk, .unk, .unk, .unk, .unk, .unk, .unk, .unk, .unk, .unk, .unk, .unk, .unk, .unk, .unk, .unk, .unk, .unk, .unk, .unk, .unk, .unk, .unk, .unk, .unk, .unk, .unk, .unk, .unk, .unk, .unk, .unk, .unk, .unk, .unk, .unk, .unk, .unk, .unk, .unk, .unk, .unk, .unk, .unk, .unk, .unk, .unk, .unk, .unk, .unk, .unk, .unk, .unk, .unk, .unk, .unk, .unk, .unk, .unk, .unk, .unk, .unk, .unk, .unk, .unk, .unk, .unk, .unk, .unk, .unk, .unk, .unk, .unk, .unk, .unk, .unk, .unk, .unk, .unk, .unk, .unk, .unk, .unk, .unk, .unk, .unk, .unk, .unk, .unk, .unk, .unk, .unk, .unk, .unk, .unk, .unk, .unk, .unk, .unk, .unk, .unk, .unk, .unk, .unk, .unk, .unk, .unk, .unk, .unk, .unk, .unk, .unk, .unk, .unk, .unk, .unk, .unk, .unk, .unk, .unk, .unk, .unk, .unk, .unk, .unk, .unk, .unk, .unk, .unk, .unk, .unk, .unk, .unk, .unk, .unk, .unk, .unk, .unk, .unk, .unk, .unk, .unk, .unk, .unk, .unk, .unk, .unk, .unk, .unk, .unk, .unk, .unk, .unk, .unk, .unk, .unk, .unk, .unk, .unk, .unk, .unk, .unk, .unk] := rfl
@[go_sem] theorem ks8_4 (v0 v1 v2 v3 v4 v5 v6 v7 v8 v9 v10 v11 v12 v13 v14 v15 v16 v17 v18 v19 v20 v21 v22 v23 v24 v25 v26 v27 v28 v29 v30 v31 v32 v33 v34 v35 v36 v37 v38 v39 v40 v41 v42 v43 v44 v45 v46 v47 v48 v49 v50 v51 v52 v53 v54 v55 v56 v57 v58 v59 v60 v61 v62 v63 v64 v65 v66 v67 v68 v69 v70 v71 v72 v73 v74 v75 v76 v77 v78 v79 v80 v81 v82 v83 v84 v85 v86 v87 v88 v89 v90 v91 v92 v93 v94 v95 v96 v97 v98 v99 v100 v101 v102 v103 v104 v105 v106 v107 v108 v109 v110 v111 v112 v113 v114 v115 v116 v117 v118 v119 v120 v121 v122 v123 v124 v125 v126 v127 v128 v129 v130 v131 v132 v133 v134 v135 v136 v137 v138 v139 v140 v141 v142 v143 v144 v145 v146 v147 v148 v149 v150 v151 v152 v153 v154 v155 v156 v157 v158 v159 v160 v161 v162 v163 v164 v165 v166 v167 v168 v169 v170 v171 v172 v173 v174 v175 v176 v177 v178 v179 : AV) : keepS [4] [v0, v1, v2, v3, v4, v5, v6, v7, v8, v9, v10, v11, v12, v13, v14, v15, v16, v17, v18, v19, v20, v21, v22, v23, v24, v25, v26, v27, v28, v29, v30, v31, v32, v33, v34, v35, v36, v37, v38, v39, v40, v41, v42, v43, v44, v45, v46, v47, v48, v49, v50, v51, v52, v53, v54, v55, v56, v57, v58, v59, v60, v61, v62, v63, v64, v65, v66, v67, v68, v69, v70, v71, v72, v73, v74, v75, v76, v77, v78, v79, v80, v81, v82, v83, v84, v85, v86, v87, v88, v89, v90, v91, v92, v93, v94, v95, v96, v97, v98, v99, v100, v101, v102, v103, v104, v105, v106, v107, v108, v109, v110, v111, v112, v113, v114, v115, v116, v117, v118, v119, v120, v121, v122, v123, v124, v125, v126, v127, v128, v129, v130, v131, v132, v133, v134, v135, v136, v137, v138, v139, v140, v141, v142, v143, v144, v145, v146, v147, v148, v149, v150, v151, v152, v153, v154, v155, v156, v157, v158, v159, v160, v161, v162, v163, v164, v165, v166, v167, v168, v169, v170, v171, v172, v173, v174, v175, v176, v177, v178, v179] 0 = [.unk, .unk, .unk, .unk, v4, .unk, .unk, .unk, .unk, .unk, .unk, .unk, .unk, .unk, .unk, .unk, .unk, .unk, .unk, .unk, .unk, .unk, .unk, .unk, .unk, .unk, .unk, .unk, .unk, .unk, .unk, .unk, .unk, .unk, .unk, .unk, .unk, .unk, .unk, .unk, .unk, .unk, .unk, .unk, .unk, .unk, .unk, .unk, .unk, .unk, .unk, .unk, .unk, .unk, .unk, .unk, .unk, .unk, .unk, .unk, .unk, .unk, .unk, .unk, .unk, .unk, .unk, .unk, .unk, .unk, .unk, .unk, .unk, .unk, .unk, .unk, .unk, .unk, .unk, .unk, .unk, .unk, .unk, .unk, .unk, .unk, .unk, .unk, .unk, .unk, .unk, .unk, .unk, .unk, .unk, .unk, .unk, .unk, .unk, .unk, .unk, .unk, .unk, .unk, .unk, .unk, .unk, .unk, .unk, .unk, .unk, .unk, .unk, .unk, .unk, .unk, .unk, .unk, .unk, .unk, .unk, .unk, .unk, .unk, .unk, .unk, .unk, .unk, .unk, .unk, .unk, .unk, .unk, .unk, .unk, .unk, .unk, .unk, .unk, .unk, .unk, .unk, .unk, .unk, .unk, .unk, .unk, .unk, .unk, .unk, .unk, .unk, .unk, .unk, .unk, .unk, .unk, .unk, .unk, .unk, .unk, .unk, .unk, .unk, .unk, .unk, .unk, .unk, .unk, .unk, .unk, .unk, .unk, .unk, .unk, .unk, .unk, .unk, .unk, .unk] := rfl
@[go_sem] theorem ks8_5 (v0 v1 v2 v3 v4 v5 v6 v7 v8 v9 v10 v11 v12 v13 v14 v15 v16 v17 v18 v19 v20 v21 v22 v23 v24 v25 v26 v27 v28 v29 v30 v31 v32 v33 v34 v35 v36 v37 v38 v39 v40 v41 v42 v43 v44 v45 v46 v47 v48 v49 v50 v51 v52 v53 v54 v55 v56 v57 v58 v59 v60 v61 v62 v63 v64 v65 v66 v67 v68 v69 v70 v71 v72 v73 v74 v75 v76 v77 v78 v79 v80 v81 v82 v83 v84 v85 v86 v87 v88 v89 v90 v91 v92 v93 v94 v95 v96 v97 v98 v99 v100 v101 v102 v103 v104 v105 v106 v107 v108 v109 v110 v111 v112 v113 v114 v115 v116 v117 v118 v119 v120 v121 v122 v123 v124 v125 v126 v127 v128 v129 v130 v131 v132 v133 v134 v135 v136 v137 v138 v139 v140 v141 v142 v143 v144 v145 v146 v147 v148 v149 v150 v151 v152 v153 v154 v155 v156 v157 v158 v159 v160 v161 v162 v163 v164 v165 v166 v167 v168 v169 v170 v171 v172 v173 v174 v175 v176 v177 v178 v179 : AV) : keepS [1, 2, 5, 6, 15, 16, 131, 132, 133] [v0, v1, v2, v3, v4, v5, v6, v7, v8, v9, v10, v11, v12, v13, v14, v15, v16, v17, v18, v19, v20, v21, v22, v23, v24, v25, v26, v27, v28, v29, v30, v31, v32, v33, v34, v35, v36, v37, v38, v39, v40, v41, v42, v43, v44, v45, v46, v47, v48, v49, v50, v51, v52, v53, v54, v55, v56, v57, v58, v59, v60, v61, v62, v63, v64, v65, v66, v67, v68, v69, v70, v71, v72, v73, v74, v75, v76, v77, v78, v79, v80, v81, v82, v83, v84, v85, v86, v87, v88, v89, v90, v91, v92, v93, v94, v95, v96, v97, v98, v99, v100, v101, v102, v103, v104, v105, v106, v107, v108, v109, v110, v111, v112, v113, v114, v115, v116, v117, v118, v119, v120, v121, v122, v123, v124, v125, v126, v127, v128, v129, v130, v131, v132, v133, v134, v135, v136, v137, v138, v139, v140, v141, v142, v143, v144, v145, v146, v147, v148, v149, v150, v151, v152, v153, v154, v155, v156, v157, v158, v159, v160, v161, v162, v163, v164, v165, v166, v167, v168, v169, v170, v171, v172, v173, v174, v175, v176, v177, v178, v179] 0 = [.unk, v1, v2, .unk, .unk, v5, v6, .unk, .unk, .unk, .unk, .unk, .unk, .unk, .unk, v15, v16, .unk, .unk, .unk, .unk, .unk, .unk, .unk, .unk, .unk, .unk, .unk, .unk, .unk, .unk, .unk, .unk, .unk, .unk, .unk, .unk, .unk, .unk, .unk, .unk, .unk, .unk, .unk, .unk, .unk, .unk, .unk, .unk, .unk, .unk, .unk, .unk, .unk, .unk, .unk, .unk, .unk, .unk, .unk, .unk, .unk, .unk, .unk, .unk, .unk, .unk, .unk, .unk, .unk, .unk, .unk, .unk, .unk, .unk, .unk, .unk, .unk, .unk, .unk, .unk, .unk, .unk, .unk, .unk, .unk, .unk, .unk, .unk, .unk, .unk, .unk, .unk, .unk, .unk, .unk, .unk, .unk, .unk, .unk, .unk, .unk, .unk, .unk, .unk, .unk, .unk, .unk, .unk, .unk, .unk, .unk, .unk, .unk, .unk, .unk, .unk, .unk, .unk, .unk, .unk, .unk, .unk, .unk, .unk, .unk, .unk, .unk, .unk, .unk, .unk, v131, v132, v133, .unk, .unk, .unk, .unk, .unk, .unk, .unk, .unk, .unk, .unk, .unk, .unk, .unk, .unk, .unk, .unk, .unk, .unk, .unk, .unk, .unk, .unk, .unk, .unk, .unk, .unk, .unk, .unk, .unk, .unk, .unk, .unk, .unk, .unk, .unk, .unk, .unk, .unk, .unk, .unk, .unk, .unk, .unk, .unk, .unk, .unk] := rfl
@[go_sem] theorem ks8_6 (v0 v1 v2 v3 v4 v5 v6 v7 v8 v9 v10 v11 v12 v13 v14 v15 v16 v17 v18 v19 v20 v21 v22 v23 v24 v25 v26 v27 v28 v29 v30 v31 v32 v33 v34 v35 v36 v37 v38 v39 v40 v41 v42 v43 v44 v45 v46 v47 v48 v49 v50 v51 v52 v53 v54 v55 v56 v57 v58 v59 v60 v61 v62 v63 v64 v65 v66 v67 v68 v69 v70 v71 v72 v73 v74 v75 v76 v77 v78 v79 v80 v81 v82 v83 v84 v85 v86 v87 v88 v89 v90 v91 v92 v93 v94 v95 v96 v97 v98 v99 v100 v101 v102 v103 v104 v105 v106 v107 v108 v109 v110 v111 v112 v113 v114 v115 v116 v117 v118 v119 v120 v121 v122 v123 v124 v125 v126 v127 v128 v129 v130 v131 v132 v133 v134 v135 v136 v137 v138 v139 v140 v141 v142 v143 v144 v145 v146 v147 v148 v149 v150 v151 v152 v153 v154 v155 v156 v157 v158 v159 v160 v161 v162 v163 v164 v165 v166 v167 v168 v169 v170 v171 v172 v173 v174 v175 v176 v177 v178 v179 : AV) : keepS [1, 2, 5, 6, 15] [v0, v1, v2, v3, v4, v5, v6, v7, v8, v9, v10, v11, v12, v13, v14, v15, v16, v17, v18, v19, v20, v21, v22, v23, v24, v25, v26, v27, v28, v29, v30, v31, v32, v33, v34, v35, v36, v37, v38, v39, v40, v41, v42, v43, v44, v45, v46, v47, v48, v49, v50, v51, v52, v53, v54, v55, v56, v57, v58, v59, v60, v61, v62, v63, v64, v65, v66, v67, v68, v69, v70, v71, v72, v73, v74, v75, v76, v77, v78, v79, v80, v81, v82, v83, v84, v85, v86, v87, v88, v89, v90, v91, v92, v93, v94, v95, v96, v97, v98, v99, v100, v101, v102, v103, v104, v105, v106, v107, v108, v109, v110, v111, v112, v113, v114, v115, v116, v117, v118, v119, v120, v121, v122, v123, v124, v125, v126, v127, v128, v129, v130, v131, v132, v133, v134, v135, v136, v137, v138, v139, v140, v141, v142, v143, v144, v145, v146, v147, v148, v149, v150, v151, v152, v153, v154, v155, v156, v157, v158, v159, v160, v161, v162, v163, v164, v165, v166, v167, v168, v169, v170, v171, v172, v173, v174, v175, v176, v177, v178, v179] 0 = [.unk, v1, v2, .unk, .unk, v5, v6, .unk, .unk, .unk, .unk, .unk, .unk, .unk, .unk, v15, .unk, .unk, .unk, .unk, .unk, .unk, .unk, .unk, .unk, .unk, .unk, .unk, .unk, .unk, .unk, .unk, .unk, .unk, .unk, .unk, .unk, .unk, .unk, .unk, .unk, .unk, .unk, .unk, .unk, .unk, .unk, .unk, .unk, .unk, .unk, .unk, .unk, .unk, .unk, .unk, .unk, .unk, .unk, .unk, .unk, .unk, .unk, .unk, .unk, .unk, .unk, .unk, .unk, .unk, .unk, .unk, .unk, .unk, .unk, .unk, .unk, .unk, .unk, .unk, .unk, .unk, .unk, .unk, .unk, .unk, .unk, .unk, .unk, .unk, .unk, .unk, .unk, .unk, .unk, .unk, .unk, .unk, .unk, .unk, .unk, .unk, .unk, .unk, .unk, .unk, .unk, .unk, .unk, .unk, .unk, .unk, .unk, .unk, .unk, .unk, .unk, .unk, .unk, .unk, .unk, .unk, .unk, .unk, .unk, .unk, .unk, .unk, .unk, .unk, .unk, .unk, .unk, .unk, .unk, .unk, .unk, .unk, .unk, .unk, .unk, .unk, .unk, .unk, .unk, .unk, .unk, .unk, .unk, .unk, .unk, .unk, .unk, .unk, .unk, .unk, .unk, .unk, .unk, .unk, .unk, .unk, .unk, .unk, .unk, .unk, .unk, .unk, .unk, .unk, .unk, .unk, .unk, .unk, .unk, .unk, .unk, .unk, .unk, .unk] := rfl
/-- spence/spencelaw19.Like -/
def bd8 : C :=
 (.seq (.reg [⟨some 2, none, .box 38 (.s 0), .none⟩,
 ⟨some 4, none, .mv (.c (.d (.bool false))), .none⟩])
 (.seq (.reg [⟨some 5, none, .mv (.c (.d .nils)), .one 1 true⟩])
 (.seq (.seq (.reg [⟨some 6, none, .mv (.c (.d (.int .i64 (-1)))), .none⟩])
 (.block 0 (.loop [1, 2, 5, 6] lp8_0)))
 (.seq (.reg [⟨some 176, none, .ld (.s 2) 192 true, .none⟩,
 ⟨some 177, none, .call 30 [.s 176] 2, .none⟩,
 ⟨some 178, none, .mv (.s 5), .none⟩,
 ⟨some 179, none, .call 27 [.s 177, .s 178] 0, .none⟩,
 ⟨some 4, none, .mv (.s 179), .none⟩])
 (.ret none)))))
def ir8 : F := { n := 180, res := [.tmp 4], body := bd8 }
@[go_sem] theorem n8 : ir8.n = 180 := rfl
@[go_sem] theorem r8 : ir8.res = [.tmp 4] := rfl
@[go_sem] theorem b8 : ir8.body = bd8 := rfl
/-- spence/replay.Live -/
def bd9 : C :=
 (.seq (.reg [⟨some 2, none, .box 38 (.s 0), .none⟩,
 ⟨some 3, none, .box 28 (.s 1), .none⟩,
 ⟨some 4, none, .mv (.c (.d (.bool false))), .none⟩])
 (.seq (.reg [⟨some 23, none, .fa (.s 3) 4, .none⟩,
 ⟨some 24, none, .ld (.s 23) 1 false, .none⟩,
 ⟨some 25, none, .fa (.s 3) 5, .none⟩,
 ⟨some 26, none, .ld (.s 25) 1 false, .none⟩,
 ⟨some 27, none, .call 31 [.s 24, .s 26] 2, .none⟩,
 ⟨some 22, none, .mv (.s 27), .none⟩,
 ⟨some 28, none, .ext (.s 22) 0, .none⟩,
 ⟨some 29, none, .ext (.s 22) 1, .none⟩,
 ⟨some 5, none, .mv (.s 28), .none⟩,
 ⟨some 6, none, .mv (.s 29), .none⟩])
 (.seq (.seq (.reg [⟨some 30, none, .mv (.s 6), .none⟩,
 ⟨some 31, none, .un .not (.s 30), .none⟩])
 (.cond (.s 31)
 (.seq (.reg [⟨some 4, none, .mv (.c (.d (.bool false))), .none⟩])
 (.ret none))
 .skip))
 (.seq (.seq (.reg [⟨some 32, none, .fa (.s 3) 4, .none⟩,
 ⟨some 33, none, .ld (.s 32) 1 false, .none⟩])
 (.block 0 (.seq (.reg [⟨some 35, none, .bin .eql (.s 33) (.c (.d (.int .u8 2))), .none⟩,
 ⟨some 34, none, .mv (.s 35), .none⟩])
 (.cond (.s 34)
 (.seq (.reg [⟨some 37, none, .fa (.s 3) 5, .none⟩,
 ⟨some 38, none, .ld (.s 37) 1 false, .none⟩,
 ⟨some 39, none, .call 32 [.s 38] 2, .none⟩,
 ⟨some 36, none, .mv (.s 39), .none⟩,
 ⟨some 40, none, .ext (.s 36) 0, .none⟩,
 ⟨some 41, none, .ext (.s 36) 1, .none⟩,
 ⟨some 7, none, .alloc 32 [.int .i64 0, .int .i64 0, .str [], .int .i64 0, .int .i64 0], .none⟩,
 ⟨none, none, .st (.s 7) (.s 40) 5, .none⟩,
 ⟨some 8, none, .mv (.s 41), .none⟩])
 (.seq (.reg [⟨some 43, none, .ld (.s 2) 192 true, .none⟩,
 ⟨some 44, none, .mv (.s 5), .none⟩,
 ⟨some 45, none, .call 21 [.s 43, .s 44] 2, .none⟩,
 ⟨some 42, none, .mv (.s 45), .none⟩,
 ⟨some 46, none, .ext (.s 42) 0, .none⟩,
 ⟨some 47, none, .ext (.s 42) 1, .none⟩,
 ⟨some 9, none, .alloc 24 [.int .i64 0, .int .i64 0], .none⟩,
 ⟨none, none, .st (.s 9) (.s 46) 2, .none⟩,
 ⟨some 10, none, .mv (.s 47), .none⟩])
 (.seq (.reg [⟨some 49, none, .ld (.s 2) 192 true, .none⟩,
 ⟨some 50, none, .mv (.s 5), .none⟩,
 ⟨some 51, none, .call 19 [.s 49, .s 50] 2, .none⟩,
 ⟨some 48, none, .mv (.s 51), .none⟩,
 ⟨some 52, none, .ext (.s 48) 0, .none⟩,
 ⟨some 53, none, .ext (.s 48) 1, .none⟩,
 ⟨some 11, none, .alloc 32 [.int .i64 0, .int .i64 0, .str [], .int .i64 0, .int .i64 0], .none⟩,
 ⟨none, none, .st (.s 11) (.s 52) 5, .none⟩,
 ⟨some 12, none, .mv (.s 53), .none⟩])
 (.seq (.reg [⟨some 54, none, .ld (.s 9) 2 true, .none⟩,
 ⟨some 55, none, .mv (.s 10), .none⟩,
 ⟨some 56, none, .ld (.s 3) 6 true, .none⟩,
 ⟨some 57, none, .call 33 [.s 54, .s 55, .s 56] 2, .none⟩,
 ⟨some 58, none, .mv (.s 57), .none⟩,
 ⟨some 59, some (58, true), .fa (.s 11) 1, .none⟩,
 ⟨some 60, some (58, true), .ld (.s 59) 1 false, .none⟩,
 ⟨some 61, some (58, true), .fa (.s 7) 1, .none⟩,
 ⟨some 62, some (58, true), .ld (.s 61) 1 false, .none⟩,
 ⟨some 63, some (58, true), .bin .eql (.s 60) (.s 62), .none⟩,
 ⟨some 64, none, .pick (.s 58) (.s 63) (.c (.d (.bool false))), .none⟩,
 ⟨some 4, none, .mv (.s 64), .none⟩])
 (.ret none)))))
 (.seq (.reg [⟨some 66, none, .bin .eql (.s 33) (.c (.d (.int .u8 3))), .none⟩,
 ⟨some 65, none, .mv (.s 66), .none⟩])
 (.cond (.s 65)
 (.seq (.reg [⟨some 68, none, .fa (.s 3) 5, .none⟩,
 ⟨some 69, none, .ld (.s 68) 1 false, .none⟩,
 ⟨some 70, none, .call 34 [.s 69] 2, .none⟩,
 ⟨some 67, none, .mv (.s 70), .none⟩,
 ⟨some 71, none, .ext (.s 67) 0, .none⟩,
 ⟨some 72, none, .ext (.s 67) 1, .none⟩,
 ⟨some 13, none, .alloc 89 [.int .i64 0, .int .i64 0, .int .i64 0, .nils], .cells [(3, 1, false)]⟩,
 ⟨none, none, .st (.s 13) (.s 71) 4, .none⟩,
 ⟨some 14, none, .mv (.s 72), .none⟩])
 (.seq (.reg [⟨some 74, none, .ld (.s 2) 192 true, .none⟩,
 ⟨some 75, none, .mv (.s 5), .none⟩,
 ⟨some 76, none, .fa (.s 13) 2, .none⟩,
 ⟨some 77, none, .ld (.s 76) 1 false, .none⟩,
 ⟨some 78, none, .call 26 [.s 74, .s 75, .s 77] 2, .none⟩,
 ⟨some 73, none, .mv (.s 78), .none⟩,
 ⟨some 79, none, .ext (.s 73) 0, .none⟩,
 ⟨some 80, none, .ext (.s 73) 1, .none⟩,
 ⟨some 15, none, .alloc 24 [.int .i64 0, .int .i64 0], .none⟩,
 ⟨none, none, .st (.s 15) (.s 79) 2, .none⟩,
 ⟨some 16, none, .mv (.s 80), .none⟩])
 (.seq (.reg [⟨some 82, none, .ld (.s 2) 192 true, .none⟩,
 ⟨some 83, none, .mv (.s 5), .none⟩,
 ⟨some 84, none, .call 19 [.s 82, .s 83] 2, .none⟩,
 ⟨some 81, none, .mv (.s 84), .none⟩,
 ⟨some 85, none, .ext (.s 81) 0, .none⟩,
 ⟨some 86, none, .ext (.s 81) 1, .none⟩,
 ⟨some 17, none, .alloc 32 [.int .i64 0, .int .i64 0, .str [], .int .i64 0, .int .i64 0], .none⟩,
 ⟨none, none, .st (.s 17) (.s 85) 5, .none⟩,
 ⟨some 18, none, .mv (.s 86), .none⟩])
 (.seq (.reg [⟨some 87, none, .ld (.s 15) 2 true, .none⟩,
 ⟨some 88, none, .mv (.s 16), .none⟩,
 ⟨some 89, none, .ld (.s 3) 6 true, .none⟩,
 ⟨some 90, none, .call 33 [.s 87, .s 88, .s 89] 2, .none⟩,
 ⟨some 91, none, .mv (.s 90), .none⟩,
 ⟨some 92, some (91, true), .fa (.s 17) 1, .none⟩,
 ⟨some 93, some (91, true), .ld (.s 92) 1 false, .none⟩,
 ⟨some 94, some (91, true), .fa (.s 13) 1, .none⟩,
 ⟨some 95, some (91, true), .ld (.s 94) 1 false, .none⟩,
 ⟨some 96, some (91, true), .bin .eql (.s 93) (.s 95), .none⟩,
 ⟨some 97, none, .pick (.s 91) (.s 96) (.c (.d (.bool false))), .none⟩,
 ⟨some 4, none, .mv (.s 97), .none⟩])
 (.ret none)))))
 .skip))))))
 (.seq (.reg [⟨some 99, none, .fa (.s 3) 4, .none⟩,
 ⟨some 100, none, .ld (.s 99) 1 false, .none⟩,
 ⟨some 101, none, .fa (.s 3) 5, .none⟩,
 ⟨some 102, none, .ld (.s 101) 1 false, .none⟩,
 ⟨some 103, none, .call 35 [.s 100, .s 102] 2, .none⟩,
 ⟨some 98, none, .mv (.s 103), .none⟩,
 ⟨some 104, none, .ext (.s 98) 0, .none⟩,
 ⟨some 105, none, .ext (.s 98) 1, .none⟩,
 ⟨some 19, none, .alloc 56 [.int .i64 0, .int .i64 0, .bool false], .none⟩,
 ⟨none, none, .st (.s 19) (.s 104) 3, .none⟩,
 ⟨some 20, none, .mv (.s 105), .none⟩])
 (.seq (.reg [⟨some 107, none, .ld (.s 2) 192 true, .none⟩,
 ⟨some 108, none, .mv (.s 5), .none⟩,
 ⟨some 109, none, .call 22 [.s 107, .s 108] 2, .none⟩,
 ⟨some 106, none, .mv (.s 109), .none⟩,
 ⟨some 110, none, .ext (.s 106) 0, .none⟩,
 ⟨some 111, none, .ext (.s 106) 1, .none⟩,
 ⟨some 21, none, .alloc 24 [.int .i64 0, .int .i64 0], .none⟩,
 ⟨none, none, .st (.s 21) (.s 110) 2, .none⟩,
 ⟨some 6, none, .mv (.s 111), .none⟩])
 (.seq (.drw [⟨some 112, none, .ld (.s 21) 2 true, .none⟩,
 ⟨some 113, none, .mv (.s 6), .none⟩,
 ⟨some 114, none, .ld (.s 3) 6 true, .none⟩,
 ⟨some 115, none, .call 33 [.s 112, .s 113, .s 114] 2, .none⟩,
 ⟨some 116, none, .mv (.s 115), .none⟩,
 ⟨some 117, some (116, true), .ld (.s 2) 192 true, .none⟩,
 ⟨some 118, some (116, true), .mv (.s 5), .none⟩,
 ⟨some 119, some (116, true), .call 23 [.s 117, .s 118] 2, .none⟩,
 ⟨some 120, some (116, true), .fa (.s 19) 1, .none⟩,
 ⟨some 121, some (116, true), .ld (.s 120) 1 false, .none⟩,
 ⟨some 122, some (116, true), .bin .eql (.s 119) (.s 121), .none⟩,
 ⟨some 123, none, .pick (.s 116) (.s 122) (.c (.d (.bool false))), .none⟩,
 ⟨some 4, none, .mv (.s 123), .none⟩]
 [[], [], [], [0, 1, 2], [3, 3], [4], [4], [5, 6, 4, 4], [4], [8, 4], [7, 9, 4], [4, 10], [11, 7, 0, 1, 2, 3, 4, 5, 6, 7, 8, 9, 10, 11]] [])
 (.ret none))))))))
def ir9 : F := { n := 124, res := [.tmp 4], body := bd9 }
@[go_sem] theorem n9 : ir9.n = 124 := rfl
@[go_sem] theorem r9 : ir9.res = [.tmp 4] := rfl
@[go_sem] theorem b9 : ir9.body = bd9 := rfl
def lb10_0 : C :=
 (.seq (.reg [⟨some 75, none, .bin .lss (.s 74) (.s 73), .none⟩])
 (.seq (.cond (.s 75)
 .skip
 (.exit 1 (some [])))
 (.seq (.block 2 (.seq (.reg [⟨some 76, none, .is (.s 72) (.s 74) 3, .none⟩,
 ⟨some 77, none, .ld (.s 76) 3 true, .none⟩,
 ⟨some 12, none, .alloc 74 [.int .i64 0, .int .i64 0, .int .i64 0], .none⟩,
 ⟨none, none, .st (.s 12) (.s 77) 3, .none⟩])
 (.seq (.reg [⟨some 78, none, .fa (.s 12) 0, .none⟩,
 ⟨some 79, none, .ld (.s 78) 1 false, .none⟩,
 ⟨some 80, none, .fa (.s 9) 2, .none⟩,
 ⟨some 81, none, .ld (.s 80) 1 false, .none⟩,
 ⟨some 82, none, .bin .eql (.s 79) (.s 81), .none⟩])
 (.cond (.s 82)
 (.seq (.reg [⟨some 83, none, .fa (.s 12) 1, .none⟩,
 ⟨some 84, none, .ld (.s 83) 2 true, .none⟩,
 ⟨some 85, none, .fa (.s 3) 0, .none⟩,
 ⟨some 86, none, .ld (.s 85) 2 true, .none⟩,
 ⟨some 87, none, .eqs false [1, 1] (.s 84) (.s 86), .none⟩,
 ⟨some 88, none, .mv (.s 87), .none⟩,
 ⟨some 89, some (88, true), .fa (.s 8) 1, .none⟩,
 ⟨some 90, some (88, true), .fa (.s 89) 1, .none⟩,
 ⟨some 91, some (88, true), .ld (.s 90) 1 false, .none⟩,
 ⟨some 92, some (88, true), .mv (.s 6), .none⟩,
 ⟨some 93, some (88, true), .bin .eql (.s 91) (.s 92), .none⟩,
 ⟨some 94, none, .pick (.s 88) (.s 93) (.c (.d (.bool false))), .none⟩,
 ⟨some 4, none, .mv (.s 94), .none⟩])
 (.ret (some [4])))
 .skip))))
 (.reg [⟨some 95, none, .bin .add (.s 74) (.c (.d (.int .i64 1))), .none⟩,
 ⟨some 74, none, .mv (.s 95), .none⟩]))))
def lp10_0 : C := lb10_0
theorem u10_0 (c : Ev.Callee) (l : Ev.Looper) (s : St) : evC c l lp10_0 s = evC c l lb10_0 s := rfl
abbrev st10_0 (m : Nat) (s3 s6 s8 s9 s72 s73 s74 : AV) (h : Heap) : St := ⟨m, [.unk, .unk, .unk, s3, .unk, .unk, s6, .unk, s8, s9, .unk, .unk, .unk, .unk, .unk, .unk, .unk, .unk, .unk, .unk, .unk, .unk, .unk, .unk, .unk, .unk, .unk, .unk, .unk, .unk, .unk, .unk, .unk, .unk, .unk, .unk, .unk, .unk, .unk, .unk, .unk, .unk, .unk, .unk, .unk, .unk, .unk, .unk, .unk, .unk, .unk, .unk, .unk, .unk, .unk, .unk, .unk, .unk, .unk, .unk, .unk, .unk, .unk, .unk, .unk, .unk, .unk, .unk, .unk, .unk, .unk, .unk, s72, s73, s74, .unk, .unk, .unk, .unk, .unk, .unk, .unk, .unk, .unk, .unk, .unk, .unk, .unk, .unk, .unk, .unk, .unk, .unk, .unk, .unk, .unk], h⟩
@[go_sem] theorem ks10_0 (v0 v1 v2 v3 v4 v5 v6 v7 v8 v9 v10 v11 v12 v13 v14 v15 v16 v17 v18 v19 v20 v21 v22 v23 v24 v25 v26 v27 v28 v29 v30 v31 v32 v33 v34 v35 v36 v37 v38 v39 v40 v41 v42 v43 v44 v45 v46 v47 v48 v49 v50 v51 v52 v53 v54 v55 v56 v57 v58 v59 v60 v61 v62 v63 v64 v65 v66 v67 v68 v69 v70 v71 v72 v73 v74 v75 v76 v77 v78 v79 v80 v81 v82 v83 v84 v85 v86 v87 v88 v89 v90 v91 v92 v93 v94 v95 : AV) : keepS [3, 6, 8, 9, 72, 73, 74] [v0, v1, v2, v3, v4, v5, v6, v7, v8, v9, v10, v11, v12, v13, v14, v15, v16, v17, v18, v19, v20, v21, v22, v23, v24, v25, v26, v27, v28, v29, v30, v31, v32, v33, v34, v35, v36, v37, v38, v39, v40, v41, v42, v43, v44, v45, v46, v47, v48, v49, v50, v51, v52, v53, v54, v55, v56, v57, v58, v59, v60, v61, v62, v63, v64, v65, v66, v67, v68, v69, v70, v71, v72, v73, v74, v75, v76, v77, v78, v79, v80, v81, v82, v83, v84, v85, v86, v87, v88, v89, v90, v91, v92, v93, v94, v95] 0 = [.unk, .unk, .unk, v3, .unk, .unk, v6, .unk, v8, v9, .unk, .unk, .unk, .unk, .unk, .unk, .unk, .unk, .unk, .unk, .unk, .unk, .unk, .unk, .unk, .unk, .unk, .unk, .unk, .unk, .unk, .unk, .unk, .unk, .unk, .unk, .unk, .unk, .unk, .unk, .unk, .unk, .unk, .unk, .unk, .unk, .unk, .unk, .unk, .unk, .unk, .unk, .unk, .unk, .unk, .unk, .unk, .unk, .unk, .unk, .unk, .unk, .unk, .unk, .unk, .unk, .unk, .unk, .unk, .unk, .unk, .unk, v72, v73, v74, .unk, .unk, .unk, .unk, .unk, .unk, .unk, .unk, .unk, .unk, .unk, .unk, .unk, .unk, .unk, .unk, .unk, .unk, .unk, .unk, .unk] := rfl
@[go_sem] theorem ks10_1 (v0 v1 v2 v3 v4 v5 v6 v7 v8 v9 v10 v11 v12 v13 v14 v15 v16 v17 v18 v19 v20 v21 v22 v23 v24 v25 v26 v27 v28 v29 v30 v31 v32 v33 v34 v35 v36 v37 v38 v39 v40 v41 v42 v43 v44 v45 v46 v47 v48 v49 v50 v51 v52 v53 v54 v55 v56 v57 v58 v59 v60 v61 v62 v63 v64 v65 v66 v67 v68 v69 v70 v71 v72 v73 v74 v75 v76 v77 v78 v79 v80 v81 v82 v83 v84 v85 v86 v87 v88 v89 v90 v91 v92 v93 v94 v95 : AV) : keepS [] [v0, v1, v2, v3, v4, v5, v6, v7, v8, v9, v10, v11, v12, v13, v14, v15, v16, v17, v18, v19, v20, v21, v22, v23, v24, v25, v26, v27, v28, v29, v30, v31, v32, v33, v34, v35, v36, v37, v38, v39, v40, v41, v42, v43, v44, v45, v46, v47, v48, v49, v50, v51, v52, v53, v54, v55, v56, v57, v58, v59, v60, v61, v62, v63, v64, v65, v66, v67, v68, v69, v70, v71, v72, v73, v74, v75, v76, v77, v78, v79, v80, v81, v82, v83, v84, v85, v86, v87, v88, v89, v90, v91, v92, v93, v94, v95] 0 = [.unk, .unk, .unk, .unk, .unk, .unk, .unk, .unk, .unk, .unk, .unk, .unk, .unk, .unk, .unk, .unk, .unk, .unk, .unk, .unk, .unk, .unk, .unk, .unk, .unk, .unk, .unk, .unk, .unk, .unk, .unk, .unk, .unk, .unk, .unk, .unk, .unk, .unk, .unk, .unk, .unk, .unk, .unk, .unk, .unk, .unk, .unk, .unk, .unk, .unk, .unk, .unk, .unk, .unk, .unk, .unk, .unk, .unk, .unk, .unk, .unk, .unk, .unk, .unk, .unk, .unk, .unk, .unk, .unk, .unk, .unk, .unk, .unk, .unk, .unk, .unk, .unk, .unk, .unk, .unk, .unk, .unk, .unk, .unk, .unk, .unk, .unk, .unk, .unk, .unk, .unk, .unk, .unk, .unk, .unk, .unk] := rfl
@[go_sem] theorem ks10_2 (v0 v1 v2 v3 v4 v5 v6 v7 v8 v9 v10 v11 v12 v13 v14 v15 v16 v17 v18 v19 v20 v21 v22 v23 v24 v25 v26 v27 v28 v29 v30 v31 v32 v33 v34 v35 v36 v37 v38 v39 v40 v41 v42 v43 v44 v45 v46 v47 v48 v49 v50 v51 v52 v53 v54 v55 v56 v57 v58 v59 v60 v61 v62 v63 v64 v65 v66 v67 v68 v69 v70 v71 v72 v73 v74 v75 v76 v77 v78 v79 v80 v81 v82 v83 v84 v85 v86 v87 v88 v89 v90 v91 v92 v93 v94 v95 : AV) : keepS [4] [v0, v1, v2, v3, v4, v5, v6, v7, v8, v9, v10, v11, v12, v13, v14, v15, v16, v17, v18, v19, v20, v21, v22, v23, v24, v25, v26, v27, v28, v29, v30, v31, v32, v33, v34, v35, v36, v37, v38, v39, v40, v41, v42, v43, v44, v45, v46, v47, v48, v49, v50, v51, v52, v53, v54, v55, v56, v57, v58, v59, v60, v61, v62, v63, v64, v65, v66, v67, v68, v69, v70, v71, v72, v73, v74, v75, v76, v77, v78, v79, v80, v81, v82, v83, v84, v85, v86, v87, v88, v89, v90, v91, v92, v93, v94, v95] 0 = [.unk, .unk, .unk, .unk, v4, .unk, .unk, .unk, .unk, .unk, .unk, .unk, .unk, .unk, .unk, .unk, .unk, .unk, .unk, .unk, .unk, .unk, .unk, .unk, .unk, .unk, .unk, .unk, .unk, .unk, .unk, .unk, .unk, .unk, .unk, .unk, .unk, .unk, .unk, .unk, .unk, .unk, .unk, .unk, .unk, .unk, .unk, .unk, .unk, .unk, .unk, .unk, .unk, .unk, .unk, .unk, .unk, .unk, .unk, .unk, .unk, .unk, .unk, .unk, .unk, .unk, .unk, .unk, .unk, .unk, .unk, .unk, .unk, .unk, .unk, .unk, .unk, .unk, .unk, .unk, .unk, .unk, .unk, .unk, .unk, .unk, .unk, .unk, .unk, .unk, .unk, .unk, .unk, .unk, .unk, .unk] := rfl
/-- (*spence/spenceref17.Index).Live -/
def bd10 : C :=
 (.seq (.reg [⟨some 3, none, .box 28 (.s 1), .none⟩,
 ⟨some 4, none, .mv (.c (.d (.bool false))), .none⟩])
 (.seq (.reg [⟨some 14, none, .ld (.s 3) 6 true, .none⟩,
 ⟨some 15, none, .call 11 [.s 14] 2, .none⟩,
 ⟨some 13, none, .mv (.s 15), .none⟩,
 ⟨some 16, none, .ext (.s 13) 0, .none⟩,
 ⟨some 17, none, .ext (.s 13) 1, .none⟩,
 ⟨some 18, none, .ext (.s 13) 2, .none⟩,
 ⟨some 5, none, .mv (.s 16), .none⟩,
 ⟨some 6, none, .mv (.s 17), .none⟩,
 ⟨some 7, none, .mv (.s 18), .none⟩])
 (.seq (.seq (.reg [⟨some 19, none, .mv (.s 7), .none⟩,
 ⟨some 20, none, .un .not (.s 19), .none⟩])
 (.cond (.s 20)
 (.seq (.reg [⟨some 4, none, .mv (.c (.d (.bool false))), .none⟩])
 (.ret none))
 .skip))
 (.seq (.reg [⟨some 21, none, .mv (.s 0), .none⟩,
 ⟨some 22, none, .mv (.s 5), .none⟩,
 ⟨some 23, none, .nc (.s 21), .none⟩,
 ⟨some 24, none, .fa (.s 23) 0, .none⟩,
 ⟨some 25, none, .ia (.s 24) (.s 22) 16 12, .none⟩,
 ⟨some 26, none, .ld (.s 25) 12 true, .none⟩,
 ⟨some 8, none, .alloc 63 [.bool false, .int .i64 0, .int .i64 0, .str [], .int .i64 0, .int .i64 0, .int .i64 0, .int .i64 0, .nils, .int .i64 0, .int .i64 0, .int .i64 0], .cells [(8, 3, false)]⟩,
 ⟨none, none, .st (.s 8) (.s 26) 12, .none⟩])
 (.seq (.reg [⟨some 27, none, .fa (.s 3) 4, .none⟩,
 ⟨some 28, none, .ld (.s 27) 1 false, .none⟩])
 (.block 0 (.seq (.reg [⟨some 46, none, .bin .eql (.s 28) (.c (.d (.int .u8 2))), .none⟩,
 ⟨some 45, none, .mv (.s 46), .none⟩])
 (.cond (.s 45)
 (.seq (.reg [⟨some 47, none, .fa (.s 8) 0, .none⟩,
 ⟨some 48, none, .ld (.s 47) 1 false, .none⟩,
 ⟨some 49, none, .mv (.s 48), .none⟩,
 ⟨some 50, some (49, true), .fa (.s 8) 6, .none⟩,
 ⟨some 51, some (49, true), .ld (.s 50) 2 true, .none⟩,
 ⟨some 52, some (49, true), .fa (.s 3) 0, .none⟩,
 ⟨some 53, some (49, true), .ld (.s 52) 2 true, .none⟩,
 ⟨some 54, some (49, true), .eqs false [1, 1] (.s 51) (.s 53), .none⟩,
 ⟨some 55, none, .pick (.s 49) (.s 54) (.c (.d (.bool false))), .none⟩,
 ⟨some 56, none, .mv (.s 55), .none⟩,
 ⟨some 57, some (56, true), .fa (.s 8) 1, .none⟩,
 ⟨some 58, some (56, true), .fa (.s 57) 1, .none⟩,
 ⟨some 59, some (56, true), .ld (.s 58) 1 false, .none⟩,
 ⟨some 60, some (56, true), .mv (.s 6), .none⟩,
 ⟨some 61, some (56, true), .bin .eql (.s 59) (.s 60), .none⟩,
 ⟨some 62, none, .pick (.s 56) (.s 61) (.c (.d (.bool false))), .none⟩,
 ⟨some 4, none, .mv (.s 62), .none⟩])
 (.ret none))
 (.seq (.reg [⟨some 64, none, .bin .eql (.s 28) (.c (.d (.int .u8 3))), .none⟩,
 ⟨some 63, none, .mv (.s 64), .none⟩])
 (.cond (.s 63)
 (.seq (.reg [⟨some 66, none, .fa (.s 3) 5, .none⟩,
 ⟨some 67, none, .ld (.s 66) 1 false, .none⟩,
 ⟨some 68, none, .call 36 [.s 67] 2, .none⟩,
 ⟨some 65, none, .mv (.s 68), .none⟩,
 ⟨some 69, none, .ext (.s 65) 0, .none⟩,
 ⟨some 70, none, .ext (.s 65) 1, .none⟩,
 ⟨some 9, none, .alloc 89 [.int .i64 0, .int .i64 0, .int .i64 0, .nils], .cells [(3, 1, false)]⟩,
 ⟨none, none, .st (.s 9) (.s 69) 4, .none⟩,
 ⟨some 10, none, .mv (.s 70), .none⟩])
 (.seq (.seq (.reg [⟨some 71, none, .fa (.s 8) 8, .none⟩,
 ⟨some 72, none, .ld (.s 71) 1 false, .none⟩,
 ⟨some 73, none, .len (.s 72), .none⟩,
 ⟨some 74, none, .mv (.c (.d (.int .i64 0))), .none⟩])
 (.block 1 (.loop [3, 6, 8, 9, 72, 73, 74] lp10_0)))
 (.seq (.reg [⟨some 4, none, .mv (.c (.d (.bool false))), .none⟩])
 (.ret none))))
 (.seq (.reg [⟨some 29, none, .fa (.s 8) 9, .none⟩,
 ⟨some 30, none, .ld (.s 29) 1 false, .none⟩,
 ⟨some 31, none, .bin .gtr (.s 30) (.c (.d (.int .i64 0))), .none⟩,
 ⟨some 32, none, .mv (.s 31), .none⟩,
 ⟨some 33, some (32, true), .fa (.s 8) 10, .none⟩,
 ⟨some 34, some (32, true), .ld (.s 33) 2 true, .none⟩,
 ⟨some 35, some (32, true), .fa (.s 3) 0, .none⟩,
 ⟨some 36, some (32, true), .ld (.s 35) 2 true, .none⟩,
 ⟨some 37, some (32, true), .eqs false [1, 1] (.s 34) (.s 36), .none⟩,
 ⟨some 38, none, .pick (.s 32) (.s 37) (.c (.d (.bool false))), .none⟩,
 ⟨some 39, none, .mv (.s 38), .none⟩,
 ⟨some 40, some (39, true), .fa (.s 8) 9, .none⟩,
 ⟨some 41, some (39, true), .ld (.s 40) 1 false, .none⟩,
 ⟨some 42, some (39, true), .mv (.s 6), .none⟩,
 ⟨some 43, some (39, true), .bin .eql (.s 41) (.s 42), .none⟩,
 ⟨some 44, none, .pick (.s 39) (.s 43) (.c (.d (.bool false))), .none⟩,
 ⟨some 4, none, .mv (.s 44), .none⟩])
 (.ret none))))))))))))
def ir10 : F := { n := 96, res := [.tmp 4], body := bd10 }
@[go_sem] theorem n10 : ir10.n = 96 := rfl
@[go_sem] theorem r10 : ir10.res = [.tmp 4] := rfl
@[go_sem] theorem b10 : ir10.body = bd10 := rfl
@[go_sem] theorem ks11_0 (v0 v1 v2 v3 v4 v5 v6 v7 v8 v9 v10 v11 v12 v13 v14 v15 v16 v17 v18 v19 v20 v21 v22 v23 v24 v25 v26 v27 v28 v29 v30 v31 v32 v33 v34 v35 v36 v37 v38 v39 v40 v41 v42 v43 v44 v45 v46 v47 v48 v49 v50 v51 v52 v53 v54 : AV) : keepS [1, 39] [v0, v1, v2, v3, v4, v5, v6, v7, v8, v9, v10, v11, v12, v13, v14, v15, v16, v17, v18, v19, v20, v21, v22, v23, v24, v25, v26, v27, v28, v29, v30, v31, v32, v33, v34, v35, v36, v37, v38, v39, v40, v41, v42, v43, v44, v45, v46, v47, v48, v49, v50, v51, v52, v53, v54] 0 = [.unk, v1, .unk, .unk, .unk, .unk, .unk, .unk, .unk, .unk, .unk, .unk, .unk, .unk, .unk, .unk, .unk, .unk, .unk, .unk, .unk, .unk, .unk, .unk, .unk, .unk, .unk, .unk, .unk, .unk, .unk, .unk, .unk, .unk, .unk, .unk, .unk, .unk, .unk, v39, .unk, .unk, .unk, .unk, .unk, .unk, .unk, .unk, .unk, .unk, .unk, .unk, .unk, .unk, .unk] := rfl
/-- spence/spenceref17.Owner -/
def bd11 : C :=
 (.seq (.reg [⟨some 1, none, .box 28 (.s 0), .none⟩,
 ⟨some 2, none, .mv (.c (.d (.int .i64 0))), .none⟩,
 ⟨some 3, none, .mv (.c (.d (.int .i64 0))), .none⟩,
 ⟨some 4, none, .mv (.c (.d (.bool false))), .none⟩])
 (.seq (.reg [⟨some 11, none, .fa (.s 1) 4, .none⟩,
 ⟨some 12, none, .ld (.s 11) 1 false, .none⟩])
 (.block 0 (.seq (.reg [⟨some 14, none, .bin .eql (.s 12) (.c (.d (.int .u8 2))), .none⟩,
 ⟨some 13, none, .mv (.s 14), .none⟩])
 (.cond (.s 13)
 (.seq (.reg [⟨some 16, none, .fa (.s 1) 5, .none⟩,
 ⟨some 17, none, .ld (.s 16) 1 false, .none⟩,
 ⟨some 18, none, .call 37 [.s 17] 2, .none⟩,
 ⟨some 15, none, .mv (.s 18), .none⟩,
 ⟨some 19, none, .ext (.s 15) 0, .none⟩,
 ⟨some 20, none, .ext (.s 15) 1, .none⟩,
 ⟨some 5, none, .alloc 32 [.int .i64 0, .int .i64 0, .str [], .int .i64 0, .int .i64 0], .none⟩,
 ⟨none, none, .st (.s 5) (.s 19) 5, .none⟩,
 ⟨some 6, none, .mv (.s 20), .none⟩])
 (.seq (.drw [⟨some 21, none, .fa (.s 5) 0, .none⟩,
 ⟨some 22, none, .ld (.s 21) 1 false, .none⟩,
 ⟨some 23, none, .fa (.s 5) 1, .none⟩,
 ⟨some 24, none, .ld (.s 23) 1 false, .none⟩,
 ⟨some 25, none, .mv (.s 6), .none⟩,
 ⟨some 2, none, .mv (.s 22), .none⟩,
 ⟨some 3, none, .mv (.s 24), .none⟩,
 ⟨some 4, none, .mv (.s 25), .none⟩]
 [[], [0], [], [2], [], [1, 0, 1], [3, 5, 0, 1, 2, 3, 5], [4, 6, 0, 1, 2, 3, 4, 5, 6]] [])
 (.ret none)))
 (.seq (.reg [⟨some 27, none, .bin .eql (.s 12) (.c (.d (.int .u8 3))), .none⟩,
 ⟨some 26, none, .mv (.s 27), .none⟩])
 (.cond (.s 26)
 (.seq (.reg [⟨some 29, none, .fa (.s 1) 5, .none⟩,
 ⟨some 30, none, .ld (.s 29) 1 false, .none⟩,
 ⟨some 31, none, .call 36 [.s 30] 2, .none⟩,
 ⟨some 28, none, .mv (.s 31), .none⟩,
 ⟨some 32, none, .ext (.s 28) 0, .none⟩,
 ⟨some 33, none, .ext (.s 28) 1, .none⟩,
 ⟨some 7, none, .alloc 89 [.int .i64 0, .int .i64 0, .int .i64 0, .nils], .cells [(3, 1, false)]⟩,
 ⟨none, none, .st (.s 7) (.s 32) 4, .none⟩,
 ⟨some 8, none, .mv (.s 33), .none⟩])
 (.seq (.drw [⟨some 34, none, .fa (.s 7) 0, .none⟩,
 ⟨some 35, none, .ld (.s 34) 1 false, .none⟩,
 ⟨some 36, none, .fa (.s 7) 1, .none⟩,
 ⟨some 37, none, .ld (.s 36) 1 false, .none⟩,
 ⟨some 38, none, .mv (.s 8), .none⟩,
 ⟨some 2, none, .mv (.s 35), .none⟩,
 ⟨some 3, none, .mv (.s 37), .none⟩,
 ⟨some 4, none, .mv (.s 38), .none⟩]
 [[], [0], [], [2], [], [1, 0, 1], [3, 5, 0, 1, 2, 3, 5], [4, 6, 0, 1, 2, 3, 4, 5, 6]] [])
 (.ret none)))
 (.seq (.seq (.reg [⟨some 40, none, .bin .eql (.s 12) (.c (.d (.int .u8 4))), .none⟩,
 ⟨some 39, none, .mv (.s 40), .none⟩])
 (.cond (.s 39)
 .skip
 (.reg [⟨some 41, none, .bin .eql (.s 12) (.c (.d (.int .u8 5))), .none⟩,
 ⟨some 39, none, .mv (.s 41), .none⟩])))
 (.ann [1, 39] (.cond (.s 39)
 (.seq (.reg [⟨some 43, none, .fa (.s 1) 4, .none⟩,
 ⟨some 44, none, .ld (.s 43) 1 false, .none⟩,
 ⟨some 45, none, .fa (.s 1) 5, .none⟩,
 ⟨some 46, none, .ld (.s 45) 1 false, .none⟩,
 ⟨some 47, none, .call 38 [.s 44, .s 46] 2, .none⟩,
 ⟨some 42, none, .mv (.s 47), .none⟩,
 ⟨some 48, none, .ext (.s 42) 0, .none⟩,
 ⟨some 49, none, .ext (.s 42) 1, .none⟩,
 ⟨some 9, none, .alloc 56 [.int .i64 0, .int .i64 0, .bool false], .none⟩,
 ⟨none, none, .st (.s 9) (.s 48) 3, .none⟩,
 ⟨some 10, none, .mv (.s 49), .none⟩])
 (.seq (.drw [⟨some 50, none, .fa (.s 9) 0, .none⟩,
 ⟨some 51, none, .ld (.s 50) 1 false, .none⟩,
 ⟨some 52, none, .fa (.s 9) 1, .none⟩,
 ⟨some 53, none, .ld (.s 52) 1 false, .none⟩,
 ⟨some 54, none, .mv (.s 10), .none⟩,
 ⟨some 2, none, .mv (.s 51), .none⟩,
 ⟨some 3, none, .mv (.s 53), .none⟩,
 ⟨some 4, none, .mv (.s 54), .none⟩]
 [[], [0], [], [2], [], [1, 0, 1], [3, 5, 0, 1, 2, 3, 5], [4, 6, 0, 1, 2, 3, 4, 5, 6]] [])
 (.ret none)))
 (.seq (.reg [⟨some 2, none, .mv (.c (.d (.int .i64 0))), .none⟩,
 ⟨some 3, none, .mv (.c (.d (.int .i64 0))), .none⟩,
 ⟨some 4, none, .mv (.c (.d (.bool false))), .none⟩])
 (.ret none))))))))))))
def ir11 : F := { n := 55, res := [.tmp 2, .tmp 3, .tmp 4], body := bd11 }
@[go_sem] theorem n11 : ir11.n = 55 := rfl
@[go_sem] theorem r11 : ir11.res = [.tmp 2, .tmp 3, .tmp 4] := rfl
@[go_sem] theorem b11 : ir11.body = bd11 := rfl
/-- spence/replay.One -/
def bd12 : C :=
 (.seq (.reg [⟨some 2, none, .box 38 (.s 0), .none⟩,
 ⟨some 3, none, .box 28 (.s 1), .none⟩,
 ⟨some 4, none, .alloc 38 [.bool false, .int .i64 0, .int .i64 0, .str [], .int .i64 0, .int .i64 0, .int .i64 0, .int .i64 0, .nilm, .int .i64 0, .int .i64 0, .int .i64 0, .bool false, .int .i64 0, .int .i64 0, .str [], .int .i64 0, .int .i64 0, .int .i64 0, .int .i64 0, .nilm, .int .i64 0, .int .i64 0, .int .i64 0, .bool false, .int .i64 0, .int .i64 0, .str [], .int .i64 0, .int .i64 0, .int .i64 0, .int .i64 0, .nilm, .int .i64 0, .int .i64 0, .int .i64 0, .bool false, .int .i64 0, .int .i64 0, .str [], .int .i64 0, .int .i64 0, .int .i64 0, .int .i64 0, .nilm, .int .i64 0, .int .i64 0, .int .i64 0, .bool false, .int .i64 0, .int .i64 0, .str [], .int .i64 0, .int .i64 0, .int .i64 0, .int .i64 0, .nilm, .int .i64 0, .int .i64 0, .int .i64 0, .bool false, .int .i64 0, .int .i64 0, .str [], .int .i64 0, .int .i64 0, .int .i64 0, .int .i64 0, .nilm, .int .i64 0, .int .i64 0, .int .i64 0, .bool false, .int .i64 0, .int .i64 0, .str [], .int .i64 0, .int .i64 0, .int .i64 0, .int .i64 0, .nilm, .int .i64 0, .int .i64 0, .int .i64 0, .bool false, .int .i64 0, .int .i64 0, .str [], .int .i64 0, .int .i64 0, .int .i64 0, .int .i64 0, .nilm, .int .i64 0, .int .i64 0, .int .i64 0, .bool false, .int .i64 0, .int .i64 0, .str [], .int .i64 0, .int .i64 0, .int .i64 0, .int .i64 0, .nilm, .int .i64 0, .int .i64 0, .int .i64 0, .bool false, .int .i64 0, .int .i64 0, .str [], .int .i64 0, .int .i64 0, .int .i64 0, .int .i64 0, .nilm, .int .i64 0, .int .i64 0, .int .i64 0, .bool false, .int .i64 0, .int .i64 0, .str [], .int .i64 0, .int .i64 0, .int .i64 0, .int .i64 0, .nilm, .int .i64 0, .int .i64 0, .int .i64 0, .bool false, .int .i64 0, .int .i64 0, .str [], .int .i64 0, .int .i64 0, .int .i64 0, .int .i64 0, .nilm, .int .i64 0, .int .i64 0, .int .i64 0, .bool false, .int .i64 0, .int .i64 0, .str [], .int .i64 0, .int .i64 0, .int .i64 0, .int .i64 0, .nilm, .int .i64 0, .int .i64 0, .int .i64 0, .bool false, .int .i64 0, .int .i64 0, .str [], .int .i64 0, .int .i64 0, .int .i64 0, .int .i64 0, .nilm, .int .i64 0, .int .i64 0, .int .i64 0, .bool false, .int .i64 0, .int .i64 0, .str [], .int .i64 0, .int .i64 0, .int .i64 0, .int .i64 0, .nilm, .int .i64 0, .int .i64 0, .int .i64 0, .bool false, .int .i64 0, .int .i64 0, .str [], .int .i64 0, .int .i64 0, .int .i64 0, .int .i64 0, .nilm, .int .i64 0, .int .i64 0, .int .i64 0], .none⟩])
 (.seq (.seq (.reg [⟨some 11, none, .fa (.s 3) 4, .none⟩,
 ⟨some 12, none, .ld (.s 11) 1 false, .none⟩])
 (.block 0 (.seq (.block 4 (.block 3 (.seq (.block 2 (.seq (.block 1 (.seq (.seq (.seq (.reg [⟨some 14, none, .bin .eql (.s 12) (.c (.d (.int .u8 2))), .none⟩,
 ⟨some 13, none, .mv (.s 14), .none⟩])
 (.cond (.s 13)
 (.exit 1 none)
 .skip))
 (.seq (.seq (.reg [⟨some 16, none, .bin .eql (.s 12) (.c (.d (.int .u8 3))), .none⟩,
 ⟨some 15, none, .mv (.s 16), .none⟩])
 (.cond (.s 15)
 (.exit 2 none)
 .skip))
 (.seq (.seq (.reg [⟨some 18, none, .bin .eql (.s 12) (.c (.d (.int .u8 4))), .none⟩,
 ⟨some 17, none, .mv (.s 18), .none⟩])
 (.cond (.s 17)
 (.exit 3 none)
 .skip))
 (.seq (.reg [⟨some 20, none, .bin .eql (.s 12) (.c (.d (.int .u8 5))), .none⟩,
 ⟨some 19, none, .mv (.s 20), .none⟩])
 (.cond (.s 19)
 (.exit 4 none)
 .skip)))))
 (.exit 0 none)))
 (.seq (.seq (.reg [⟨some 22, none, .fa (.s 3) 5, .none⟩,
 ⟨some 23, none, .ld (.s 22) 1 false, .none⟩,
 ⟨some 24, none, .call 32 [.s 23] 2, .none⟩,
 ⟨some 21, none, .mv (.s 24), .none⟩,
 ⟨some 25, none, .ext (.s 21) 0, .none⟩,
 ⟨some 26, none, .ext (.s 21) 1, .none⟩,
 ⟨some 5, none, .alloc 32 [.int .i64 0, .int .i64 0, .str [], .int .i64 0, .int .i64 0], .none⟩,
 ⟨none, none, .st (.s 5) (.s 25) 5, .none⟩,
 ⟨some 6, none, .mv (.s 26), .none⟩])
 (.seq (.reg [⟨some 27, none, .mv (.s 6), .none⟩,
 ⟨some 28, none, .bin .eql (.s 27) (.c (.d (.int .i64 0))), .none⟩])
 (.cond (.s 28)
 (.seq (.reg [⟨some 29, none, .ld (.s 2) 192 true, .none⟩,
 ⟨some 30, none, .ld (.s 5) 5 true, .none⟩,
 ⟨some 31, none, .fa (.s 3) 0, .none⟩,
 ⟨some 32, none, .ld (.s 31) 2 true, .none⟩,
 ⟨some 33, none, .call 39 [.s 29, .s 30, .s 32] 2, .none⟩,
 ⟨none, none, .st (.s 4) (.s 33) 192, .none⟩])
 (.ret none))
 .skip)))
 (.exit 0 none))))
 (.seq (.seq (.reg [⟨some 35, none, .fa (.s 3) 5, .none⟩,
 ⟨some 36, none, .ld (.s 35) 1 false, .none⟩,
 ⟨some 37, none, .call 34 [.s 36] 2, .none⟩,
 ⟨some 34, none, .mv (.s 37), .none⟩,
 ⟨some 38, none, .ext (.s 34) 0, .none⟩,
 ⟨some 39, none, .ext (.s 34) 1, .none⟩,
 ⟨some 7, none, .alloc 89 [.int .i64 0, .int .i64 0, .int .i64 0, .nils], .cells [(3, 1, false)]⟩,
 ⟨none, none, .st (.s 7) (.s 38) 4, .none⟩,
 ⟨some 8, none, .mv (.s 39), .none⟩])
 (.seq (.reg [⟨some 40, none, .mv (.s 8), .none⟩,
 ⟨some 41, none, .bin .eql (.s 40) (.c (.d (.int .i64 0))), .none⟩])
 (.cond (.s 41)
 (.seq (.reg [⟨some 42, none, .ld (.s 2) 192 true, .none⟩,
 ⟨some 43, none, .fa (.s 7) 0, .none⟩,
 ⟨some 44, none, .ld (.s 43) 1 false, .none⟩,
 ⟨some 45, none, .fa (.s 7) 1, .none⟩,
 ⟨some 46, none, .ld (.s 45) 1 false, .none⟩,
 ⟨some 47, none, .fa (.s 7) 2, .none⟩,
 ⟨some 48, none, .ld (.s 47) 1 false, .none⟩,
 ⟨some 49, none, .fa (.s 3) 0, .none⟩,
 ⟨some 50, none, .ld (.s 49) 2 true, .none⟩,
 ⟨some 51, none, .call 40 [.s 42, .s 44, .s 46, .s 48, .s 50] 2, .none⟩,
 ⟨none, none, .st (.s 4) (.s 51) 192, .none⟩])
 (.ret none))
 .skip)))
 (.exit 0 none)))))
 (.seq (.seq (.reg [⟨some 53, none, .fa (.s 3) 4, .none⟩,
 ⟨some 54, none, .ld (.s 53) 1 false, .none⟩,
 ⟨some 55, none, .fa (.s 3) 5, .none⟩,
 ⟨some 56, none, .ld (.s 55) 1 false, .none⟩,
 ⟨some 57, none, .call 35 [.s 54, .s 56] 2, .none⟩,
 ⟨some 52, none, .mv (.s 57), .none⟩,
 ⟨some 58, none, .ext (.s 52) 0, .none⟩,
 ⟨some 59, none, .ext (.s 52) 1, .none⟩,
 ⟨some 9, none, .alloc 56 [.int .i64 0, .int .i64 0, .bool false], .none⟩,
 ⟨none, none, .st (.s 9) (.s 58) 3, .none⟩,
 ⟨some 10, none, .mv (.s 59), .none⟩])
 (.seq (.reg [⟨some 60, none, .mv (.s 10), .none⟩,
 ⟨some 61, none, .bin .eql (.s 60) (.c (.d (.int .i64 0))), .none⟩])
 (.cond (.s 61)
 (.seq (.reg [⟨some 62, none, .ld (.s 2) 192 true, .none⟩,
 ⟨some 63, none, .fa (.s 9) 0, .none⟩,
 ⟨some 64, none, .ld (.s 63) 1 false, .none⟩,
 ⟨some 65, none, .fa (.s 9) 1, .none⟩,
 ⟨some 66, none, .ld (.s 65) 1 false, .none⟩,
 ⟨some 67, none, .fa (.s 3) 0, .none⟩,
 ⟨some 68, none, .ld (.s 67) 2 true, .none⟩,
 ⟨some 69, none, .call 41 [.s 62, .s 64, .s 66, .s 68] 2, .none⟩,
 ⟨none, none, .st (.s 4) (.s 69) 192, .none⟩])
 (.ret none))
 .skip)))
 (.exit 0 none)))))
 (.seq (.reg [⟨some 70, none, .ld (.s 2) 192 true, .none⟩,
 ⟨none, none, .st (.s 4) (.s 70) 192, .none⟩])
 (.ret none))))
def ir12 : F := { n := 71, res := [.cell 4 192 true], body := bd12 }
@[go_sem] theorem n12 : ir12.n = 71 := rfl
@[go_sem] theorem r12 : ir12.res = [.cell 4 192 true] := rfl
@[go_sem] theorem b12 : ir12.body = bd12 := rfl
@[go_sem] theorem ks13_0 (v0 v1 v2 v3 v4 v5 v6 v7 v8 v9 v10 v11 v12 v13 v14 v15 v16 v17 v18 v19 v20 v21 v22 v23 v24 v25 v26 v27 v28 v29 v30 v31 v32 v33 v34 v35 v36 v37 v38 v39 v40 v41 v42 v43 v44 v45 v46 v47 v48 v49 v50 v51 v52 v53 v54 v55 v56 v57 v58 v59 v60 v61 v62 v63 v64 : AV) : keepS [0, 3, 45] [v0, v1, v2, v3, v4, v5, v6, v7, v8, v9, v10, v11, v12, v13, v14, v15, v16, v17, v18, v19, v20, v21, v22, v23, v24, v25, v26, v27, v28, v29, v30, v31, v32, v33, v34, v35, v36, v37, v38, v39, v40, v41, v42, v43, v44, v45, v46, v47, v48, v49, v50, v51, v52, v53, v54, v55, v56, v57, v58, v59, v60, v61, v62, v63, v64] 0 = [v0, .unk, .unk, v3, .unk, .unk, .unk, .unk, .unk, .unk, .unk, .unk, .unk, .unk, .unk, .unk, .unk, .unk, .unk, .unk, .unk, .unk, .unk, .unk, .unk, .unk, .unk, .unk, .unk, .unk, .unk, .unk, .unk, .unk, .unk, .unk, .unk, .unk, .unk, .unk, .unk, .unk, .unk, .unk, .unk, v45, .unk, .unk, .unk, .unk, .unk, .unk, .unk, .unk, .unk, .unk, .unk, .unk, .unk, .unk, .unk, .unk, .unk, .unk, .unk] := rfl
/-- (*spence/spenceref17.Index).One -/
def bd13 : C :=
 (.seq (.reg [⟨some 3, none, .box 28 (.s 1), .none⟩])
 (.seq (.reg [⟨some 10, none, .fa (.s 3) 4, .none⟩,
 ⟨some 11, none, .ld (.s 10) 1 false, .none⟩])
 (.block 0 (.seq (.reg [⟨some 13, none, .bin .eql (.s 11) (.c (.d (.int .u8 2))), .none⟩,
 ⟨some 12, none, .mv (.s 13), .none⟩])
 (.cond (.s 12)
 (.seq (.reg [⟨some 15, none, .fa (.s 3) 5, .none⟩,
 ⟨some 16, none, .ld (.s 15) 1 false, .none⟩,
 ⟨some 17, none, .call 37 [.s 16] 2, .none⟩,
 ⟨some 14, none, .mv (.s 17), .none⟩,
 ⟨some 18, none, .ext (.s 14) 0, .none⟩,
 ⟨some 19, none, .ext (.s 14) 1, .none⟩,
 ⟨some 4, none, .alloc 32 [.int .i64 0, .int .i64 0, .str [], .int .i64 0, .int .i64 0], .none⟩,
 ⟨none, none, .st (.s 4) (.s 18) 5, .none⟩,
 ⟨some 5, none, .mv (.s 19), .none⟩])
 (.seq (.reg [⟨some 20, none, .mv (.s 5), .none⟩])
 (.cond (.s 20)
 (.reg [⟨some 21, none, .mv (.s 0), .none⟩,
 ⟨some 22, none, .ld (.s 4) 5 true, .none⟩,
 ⟨some 23, none, .fa (.s 3) 0, .none⟩,
 ⟨some 24, none, .ld (.s 23) 2 true, .none⟩,
 ⟨some 25, none, .call 42 [.s 21, .s 22, .s 24] 0, .none⟩])
 .skip)))
 (.seq (.reg [⟨some 27, none, .bin .eql (.s 11) (.c (.d (.int .u8 3))), .none⟩,
 ⟨some 26, none, .mv (.s 27), .none⟩])
 (.cond (.s 26)
 (.seq (.reg [⟨some 29, none, .fa (.s 3) 5, .none⟩,
 ⟨some 30, none, .ld (.s 29) 1 false, .none⟩,
 ⟨some 31, none, .call 36 [.s 30] 2, .none⟩,
 ⟨some 28, none, .mv (.s 31), .none⟩,
 ⟨some 32, none, .ext (.s 28) 0, .none⟩,
 ⟨some 33, none, .ext (.s 28) 1, .none⟩,
 ⟨some 6, none, .alloc 89 [.int .i64 0, .int .i64 0, .int .i64 0, .nils], .cells [(3, 1, false)]⟩,
 ⟨none, none, .st (.s 6) (.s 32) 4, .none⟩,
 ⟨some 7, none, .mv (.s 33), .none⟩])
 (.seq (.reg [⟨some 34, none, .mv (.s 7), .none⟩])
 (.cond (.s 34)
 (.reg [⟨some 35, none, .mv (.s 0), .none⟩,
 ⟨some 36, none, .fa (.s 6) 0, .none⟩,
 ⟨some 37, none, .ld (.s 36) 1 false, .none⟩,
 ⟨some 38, none, .fa (.s 6) 1, .none⟩,
 ⟨some 39, none, .ld (.s 38) 1 false, .none⟩,
 ⟨some 40, none, .fa (.s 6) 2, .none⟩,
 ⟨some 41, none, .ld (.s 40) 1 false, .none⟩,
 ⟨some 42, none, .fa (.s 3) 0, .none⟩,
 ⟨some 43, none, .ld (.s 42) 2 true, .none⟩,
 ⟨some 44, none, .call 43 [.s 35, .s 37, .s 39, .s 41, .s 43] 0, .none⟩])
 .skip)))
 (.seq (.seq (.reg [⟨some 46, none, .bin .eql (.s 11) (.c (.d (.int .u8 4))), .none⟩,
 ⟨some 45, none, .mv (.s 46), .none⟩])
 (.cond (.s 45)
 .skip
 (.reg [⟨some 47, none, .bin .eql (.s 11) (.c (.d (.int .u8 5))), .none⟩,
 ⟨some 45, none, .mv (.s 47), .none⟩])))
 (.ann [0, 3, 45] (.cond (.s 45)
 (.seq (.reg [⟨some 49, none, .fa (.s 3) 4, .none⟩,
 ⟨some 50, none, .ld (.s 49) 1 false, .none⟩,
 ⟨some 51, none, .fa (.s 3) 5, .none⟩,
 ⟨some 52, none, .ld (.s 51) 1 false, .none⟩,
 ⟨some 53, none, .call 38 [.s 50, .s 52] 2, .none⟩,
 ⟨some 48, none, .mv (.s 53), .none⟩,
 ⟨some 54, none, .ext (.s 48) 0, .none⟩,
 ⟨some 55, none, .ext (.s 48) 1, .none⟩,
 ⟨some 8, none, .alloc 56 [.int .i64 0, .int .i64 0, .bool false], .none⟩,
 ⟨none, none, .st (.s 8) (.s 54) 3, .none⟩,
 ⟨some 9, none, .mv (.s 55), .none⟩])
 (.seq (.reg [⟨some 56, none, .mv (.s 9), .none⟩])
 (.cond (.s 56)
 (.reg [⟨some 57, none, .mv (.s 0), .none⟩,
 ⟨some 58, none, .fa (.s 8) 0, .none⟩,
 ⟨some 59, none, .ld (.s 58) 1 false, .none⟩,
 ⟨some 60, none, .fa (.s 8) 1, .none⟩,
 ⟨some 61, none, .ld (.s 60) 1 false, .none⟩,
 ⟨some 62, none, .fa (.s 3) 0, .none⟩,
 ⟨some 63, none, .ld (.s 62) 2 true, .none⟩,
 ⟨some 64, none, .call 44 [.s 57, .s 59, .s 61, .s 63] 0, .none⟩])
 .skip)))
 .skip))))))))))
def ir13 : F := { n := 65, res := [], body := bd13 }
@[go_sem] theorem n13 : ir13.n = 65 := rfl
@[go_sem] theorem r13 : ir13.res = [] := rfl
@[go_sem] theorem b13 : ir13.body = bd13 := rfl
def lb14_0 : C :=
 (.seq (.reg [⟨some 14, none, .bin .lss (.s 13) (.s 12), .none⟩])
 (.seq (.cond (.s 14)
 .skip
 (.exit 0 (some [])))
 (.seq (.block 1 (.seq (.reg [⟨some 15, none, .mv (.s 13), .none⟩,
 ⟨some 5, none, .mv (.s 15), .none⟩])
 (.seq (.drw [⟨some 16, none, .mv (.s 0), .none⟩,
 ⟨some 17, none, .mv (.s 5), .none⟩,
 ⟨some 18, none, .is (.s 16) (.s 17) 6, .none⟩,
 ⟨some 19, none, .ld (.s 18) 6 true, .none⟩,
 ⟨some 20, none, .mv (.s 1), .none⟩,
 ⟨some 21, none, .mv (.s 5), .none⟩,
 ⟨some 22, none, .is (.s 20) (.s 21) 6, .none⟩,
 ⟨some 23, none, .ld (.s 22) 6 true, .none⟩,
 ⟨some 24, none, .call 45 [.s 19, .s 23] 2, .none⟩,
 ⟨some 25, none, .un .not (.s 24), .none⟩]
 [[], [], [0, 1], [2], [], [], [4, 5], [6], [3, 7], [8]] [])
 (.cond (.s 25)
 (.seq (.reg [⟨some 4, none, .mv (.c (.d (.bool false))), .none⟩])
 (.ret (some [4])))
 .skip))))
 (.reg [⟨some 26, none, .bin .add (.s 13) (.c (.d (.int .i64 1))), .none⟩,
 ⟨some 13, none, .mv (.s 26), .none⟩]))))
def lp14_0 : C := lb14_0
theorem u14_0 (c : Ev.Callee) (l : Ev.Looper) (s : St) : evC c l lp14_0 s = evC c l lb14_0 s := rfl
abbrev st14_0 (m : Nat) (s0 s1 s12 s13 : AV) (h : Heap) : St := ⟨m, [s0, s1, .unk, .unk, .unk, .unk, .unk, .unk, .unk, .unk, .unk, .unk, s12, s13, .unk, .unk, .unk, .unk, .unk, .unk, .unk, .unk, .unk, .unk, .unk, .unk, .unk], h⟩
@[go_sem] theorem ks14_0 (v0 v1 v2 v3 v4 v5 v6 v7 v8 v9 v10 v11 v12 v13 v14 v15 v16 v17 v18 v19 v20 v21 v22 v23 v24 v25 v26 : AV) : keepS [0, 1, 12, 13] [v0, v1, v2, v3, v4, v5, v6, v7, v8, v9, v10, v11, v12, v13, v14, v15, v16, v17, v18, v19, v20, v21, v22, v23, v24, v25, v26] 0 = [v0, v1, .unk, .unk, .unk, .unk, .unk, .unk, .unk, .unk, .unk, .unk, v12, v13, .unk, .unk, .unk, .unk, .unk, .unk, .unk, .unk, .unk, .unk, .unk, .unk, .unk] := rfl
@[go_sem] theorem ks14_1 (v0 v1 v2 v3 v4 v5 v6 v7 v8 v9 v10 v11 v12 v13 v14 v15 v16 v17 v18 v19 v20 v21 v22 v23 v24 v25 v26 : AV) : keepS [] [v0, v1, v2, v3, v4, v5, v6, v7, v8, v9, v10, v11, v12, v13, v14, v15, v16, v17, v18, v19, v20, v21, v22, v23, v24, v25, v26] 0 = [.unk, .unk, .unk, .unk, .unk, .unk, .unk, .unk, .unk, .unk, .unk, .unk, .unk, .unk, .unk, .unk, .unk, .unk, .unk, .unk, .unk, .unk, .unk, .unk, .unk, .unk, .unk] := rfl
@[go_sem] theorem ks14_2 (v0 v1 v2 v3 v4 v5 v6 v7 v8 v9 v10 v11 v12 v13 v14 v15 v16 v17 v18 v19 v20 v21 v22 v23 v24 v25 v26 : AV) : keepS [4] [v0, v1, v2, v3, v4, v5, v6, v7, v8, v9, v10, v11, v12, v13, v14, v15, v16, v17, v18, v19, v20, v21, v22, v23, v24, v25, v26] 0 = [.unk, .unk, .unk, .unk, v4, .unk, .unk, .unk, .unk, .unk, .unk, .unk, .unk, .unk, .unk, .unk, .unk, .unk, .unk, .unk, .unk, .unk, .unk, .unk, .unk, .unk, .unk] := rfl
/-- spence/spenceref11.SameEntries -/
def bd14 : C :=
 (.seq (.reg [⟨some 4, none, .mv (.c (.d (.bool false))), .none⟩])
 (.seq (.seq (.reg [⟨some 6, none, .mv (.s 0), .none⟩,
 ⟨some 7, none, .len (.s 6), .none⟩,
 ⟨some 8, none, .mv (.s 1), .none⟩,
 ⟨some 9, none, .len (.s 8), .none⟩,
 ⟨some 10, none, .bin .neq (.s 7) (.s 9), .none⟩])
 (.cond (.s 10)
 (.seq (.reg [⟨some 4, none, .mv (.c (.d (.bool false))), .none⟩])
 (.ret none))
 .skip))
 (.seq (.seq (.reg [⟨some 11, none, .mv (.s 0), .none⟩,
 ⟨some 12, none, .len (.s 11), .none⟩,
 ⟨some 13, none, .mv (.c (.d (.int .i64 0))), .none⟩])
 (.block 0 (.loop [0, 1, 12, 13] lp14_0)))
 (.seq (.reg [⟨some 4, none, .mv (.c (.d (.bool true))), .none⟩])
 (.ret none)))))
def ir14 : F := { n := 27, res := [.tmp 4], body := bd14 }
@[go_sem] theorem n14 : ir14.n = 27 := rfl
@[go_sem] theorem r14 : ir14.res = [.tmp 4] := rfl
@[go_sem] theorem b14 : ir14.body = bd14 := rfl
def lb15_0 : C :=
 (.seq (.reg [⟨some 13, none, .bin .lss (.s 12) (.s 11), .none⟩])
 (.seq (.cond (.s 13)
 .skip
 (.exit 0 (some [5])))
 (.seq (.block 1 (.seq (.reg [⟨some 14, none, .is (.s 10) (.s 12) 6, .none⟩,
 ⟨some 15, none, .ld (.s 14) 6 true, .none⟩,
 ⟨some 7, none, .alloc 28 [.int .i64 0, .int .i64 0, .int .u64 0, .int .i64 0, .int .u8 0, .nils], .cells [(5, 1, false)]⟩,
 ⟨none, none, .st (.s 7) (.s 15) 6, .none⟩])
 (.seq (.reg [⟨some 17, none, .fa (.s 7) 4, .none⟩,
 ⟨some 18, none, .ld (.s 17) 1 false, .none⟩,
 ⟨some 19, none, .fa (.s 7) 5, .none⟩,
 ⟨some 20, none, .ld (.s 19) 1 false, .none⟩,
 ⟨some 21, none, .call 31 [.s 18, .s 20] 2, .none⟩,
 ⟨some 16, none, .mv (.s 21), .none⟩,
 ⟨some 22, none, .ext (.s 16) 0, .none⟩,
 ⟨some 23, none, .ext (.s 16) 1, .none⟩,
 ⟨some 8, none, .mv (.s 22), .none⟩,
 ⟨some 9, none, .mv (.s 23), .none⟩])
 (.seq (.reg [⟨some 24, none, .mv (.s 9), .none⟩,
 ⟨some 25, none, .mv (.s 24), .none⟩,
 ⟨some 26, some (25, true), .mv (.s 8), .none⟩,
 ⟨some 27, some (25, true), .mv (.s 1), .none⟩,
 ⟨some 28, some (25, true), .bin .eql (.s 26) (.s 27), .none⟩,
 ⟨some 29, none, .pick (.s 25) (.s 28) (.c (.d (.bool false))), .none⟩])
 (.cond (.s 29)
 (.seq (.reg [⟨some 30, none, .fa (.s 7) 5, .none⟩,
 ⟨some 31, none, .ld (.s 30) 1 false, .none⟩,
 ⟨some 32, none, .call 46 [.s 31] 2, .none⟩,
 ⟨some 33, none, .fa (.s 7) 5, .none⟩,
 ⟨none, none, .st (.s 33) (.s 32) 1, .none⟩])
 (.reg [⟨some 34, none, .mv (.s 5), .none⟩,
 ⟨some 35, none, .ld (.s 7) 6 true, .none⟩,
 ⟨some 36, none, .bsl 28 6 1 [.int .i64 0, .int .i64 0, .int .u64 0, .int .i64 0, .int .u8 0, .nils] [(0, (6, .s 35))], .none⟩,
 ⟨some 37, none, .app 28 6 64 (.s 34) (.s 36), .none⟩,
 ⟨some 5, none, .mv (.s 37), .none⟩]))
 .skip)))))
 (.reg [⟨some 38, none, .bin .add (.s 12) (.c (.d (.int .i64 1))), .none⟩,
 ⟨some 12, none, .mv (.s 38), .none⟩]))))
def lp15_0 : C := lb15_0
theorem u15_0 (c : Ev.Callee) (l : Ev.Looper) (s : St) : evC c l lp15_0 s = evC c l lb15_0 s := rfl
abbrev st15_0 (m : Nat) (s1 s5 s10 s11 s12 : AV) (h : Heap) : St := ⟨m, [.unk, s1, .unk, .unk, .unk, s5, .unk, .unk, .unk, .unk, s10, s11, s12, .unk, .unk, .unk, .unk, .unk, .unk, .unk, .unk, .unk, .unk, .unk, .unk, .unk, .unk, .unk, .unk, .unk, .unk, .unk, .unk, .unk, .unk, .unk, .unk, .unk, .unk, .unk], h⟩
@[go_sem] theorem ks15_0 (v0 v1 v2 v3 v4 v5 v6 v7 v8 v9 v10 v11 v12 v13 v14 v15 v16 v17 v18 v19 v20 v21 v22 v23 v24 v25 v26 v27 v28 v29 v30 v31 v32 v33 v34 v35 v36 v37 v38 v39 : AV) : keepS [1, 5, 10, 11, 12] [v0, v1, v2, v3, v4, v5, v6, v7, v8, v9, v10, v11, v12, v13, v14, v15, v16, v17, v18, v19, v20, v21, v22, v23, v24, v25, v26, v27, v28, v29, v30, v31, v32, v33, v34, v35, v36, v37, v38, v39] 0 = [.unk, v1, .unk, .unk, .unk, v5, .unk, .unk, .unk, .unk, v10, v11, v12, .unk, .unk, .unk, .unk, .unk, .unk, .unk, .unk, .unk, .unk, .unk, .unk, .unk, .unk, .unk, .unk, .unk, .unk, .unk, .unk, .unk, .unk, .unk, .unk, .unk, .unk, .unk] := rfl
@[go_sem] theorem ks15_1 (v0 v1 v2 v3 v4 v5 v6 v7 v8 v9 v10 v11 v12 v13 v14 v15 v16 v17 v18 v19 v20 v21 v22 v23 v24 v25 v26 v27 v28 v29 v30 v31 v32 v33 v34 v35 v36 v37 v38 v39 : AV) : keepS [5] [v0, v1, v2, v3, v4, v5, v6, v7, v8, v9, v10, v11, v12, v13, v14, v15, v16, v17, v18, v19, v20, v21, v22, v23, v24, v25, v26, v27, v28, v29, v30, v31, v32, v33, v34, v35, v36, v37, v38, v39] 0 = [.unk, .unk, .unk, .unk, .unk, v5, .unk, .unk, .unk, .unk, .unk, .unk, .unk, .unk, .unk, .unk, .unk, .unk, .unk, .unk, .unk, .unk, .unk, .unk, .unk, .unk, .unk, .unk, .unk, .unk, .unk, .unk, .unk, .unk, .unk, .unk, .unk, .unk, .unk, .unk] := rfl
/-- spence/replay.Of -/
def bd15 : C :=
 (.seq (.reg [⟨some 4, none, .mv (.c (.d .nils)), .one 6 true⟩])
 (.seq (.reg [⟨some 5, none, .mv (.c (.d .nils)), .one 6 true⟩])
 (.seq (.seq (.reg [⟨some 10, none, .mv (.s 0), .none⟩,
 ⟨some 11, none, .len (.s 10), .none⟩,
 ⟨some 12, none, .mv (.c (.d (.int .i64 0))), .none⟩])
 (.block 0 (.loop [1, 5, 10, 11, 12] lp15_0)))
 (.seq (.reg [⟨some 39, none, .mv (.s 5), .none⟩,
 ⟨some 4, none, .mv (.s 39), .none⟩])
 (.ret none)))))
def ir15 : F := { n := 40, res := [.tmp 4], body := bd15 }
@[go_sem] theorem n15 : ir15.n = 40 := rfl
@[go_sem] theorem r15 : ir15.res = [.tmp 4] := rfl
@[go_sem] theorem b15 : ir15.body = bd15 := rfl
def lb16_0 : C :=
 (.seq (.reg [⟨some 13, none, .bin .lss (.s 12) (.s 11), .none⟩])
 (.seq (.cond (.s 13)
 .skip
 (.exit 0 (some [5])))
 (.seq (.block 1 (.seq (.reg [⟨some 14, none, .is (.s 10) (.s 12) 6, .none⟩,
 ⟨some 15, none, .ld (.s 14) 6 true, .none⟩,
 ⟨some 7, none, .alloc 28 [.int .i64 0, .int .i64 0, .int .u64 0, .int .i64 0, .int .u8 0, .nils], .cells [(5, 1, false)]⟩,
 ⟨none, none, .st (.s 7) (.s 15) 6, .none⟩])
 (.reg [⟨some 16, none, .mv (.s 5), .none⟩,
 ⟨some 17, none, .ld (.s 7) 6 true, .none⟩,
 ⟨some 18, none, .call 47 [.s 17] 2, .none⟩,
 ⟨some 19, none, .mx (.s 16) (.s 18), .none⟩,
 ⟨some 5, none, .mv (.s 19), .none⟩])))
 (.reg [⟨some 20, none, .bin .add (.s 12) (.c (.d (.int .i64 1))), .none⟩,
 ⟨some 12, none, .mv (.s 20), .none⟩]))))
def lp16_0 : C := lb16_0
theorem u16_0 (c : Ev.Callee) (l : Ev.Looper) (s : St) : evC c l lp16_0 s = evC c l lb16_0 s := rfl
abbrev st16_0 (m : Nat) (s5 s10 s11 s12 : AV) (h : Heap) : St := ⟨m, [.unk, .unk, .unk, .unk, .unk, s5, .unk, .unk, .unk, .unk, s10, s11, s12, .unk, .unk, .unk, .unk, .unk, .unk, .unk, .unk, .unk], h⟩
@[go_sem] theorem ks16_0 (v0 v1 v2 v3 v4 v5 v6 v7 v8 v9 v10 v11 v12 v13 v14 v15 v16 v17 v18 v19 v20 v21 : AV) : keepS [5, 10, 11, 12] [v0, v1, v2, v3, v4, v5, v6, v7, v8, v9, v10, v11, v12, v13, v14, v15, v16, v17, v18, v19, v20, v21] 0 = [.unk, .unk, .unk, .unk, .unk, v5, .unk, .unk, .unk, .unk, v10, v11, v12, .unk, .unk, .unk, .unk, .unk, .unk, .unk, .unk, .unk] := rfl
@[go_sem] theorem ks16_1 (v0 v1 v2 v3 v4 v5 v6 v7 v8 v9 v10 v11 v12 v13 v14 v15 v16 v17 v18 v19 v20 v21 : AV) : keepS [5] [v0, v1, v2, v3, v4, v5, v6, v7, v8, v9, v10, v11, v12, v13, v14, v15, v16, v17, v18, v19, v20, v21] 0 = [.unk, .unk, .unk, .unk, .unk, v5, .unk, .unk, .unk, .unk, .unk, .unk, .unk, .unk, .unk, .unk, .unk, .unk, .unk, .unk, .unk, .unk] := rfl
/-- spence/replay.Greatest -/
def bd16 : C :=
 (.seq (.reg [⟨some 4, none, .mv (.c (.d (.int .i64 0))), .none⟩])
 (.seq (.reg [⟨some 5, none, .mv (.c (.d (.int .i64 0))), .none⟩])
 (.seq (.seq (.reg [⟨some 8, none, .mv (.s 0), .none⟩,
 ⟨some 9, none, .mv (.s 1), .none⟩,
 ⟨some 10, none, .call 15 [.s 8, .s 9] 2, .none⟩,
 ⟨some 11, none, .len (.s 10), .none⟩,
 ⟨some 12, none, .mv (.c (.d (.int .i64 0))), .none⟩])
 (.block 0 (.loop [5, 10, 11, 12] lp16_0)))
 (.seq (.reg [⟨some 21, none, .mv (.s 5), .none⟩,
 ⟨some 4, none, .mv (.s 21), .none⟩])
 (.ret none)))))
def ir16 : F := { n := 22, res := [.tmp 4], body := bd16 }
@[go_sem] theorem n16 : ir16.n = 22 := rfl
@[go_sem] theorem r16 : ir16.res = [.tmp 4] := rfl
@[go_sem] theorem b16 : ir16.body = bd16 := rfl
/-- spence/spenceref17.Bind -/
def bd17 : C :=
 (.seq (.reg [⟨some 1, none, .box 32 (.s 0), .none⟩,
 ⟨some 2, none, .mv (.c (.d .nils)), .one 1 true⟩])
 (.seq (.drr [⟨some 4, none, .fa (.s 1) 0, .none⟩,
 ⟨some 5, none, .ld (.s 4) 1 false, .none⟩,
 ⟨some 6, none, .fa (.s 1) 1, .none⟩,
 ⟨some 7, none, .ld (.s 6) 1 false, .none⟩,
 ⟨some 8, none, .call 48 [.s 5, .s 7] 0, .none⟩,
 ⟨some 9, none, .fa (.s 1) 3, .none⟩,
 ⟨some 10, none, .ld (.s 9) 1 false, .none⟩,
 ⟨some 11, none, .cvi .u64 (.s 10), .none⟩,
 ⟨some 12, none, .call 49 [.s 11, .c (.d (.int .i64 2))] 2, .none⟩,
 ⟨some 13, none, .app 5 1 1 (.s 8) (.s 12), .none⟩,
 ⟨some 3, none, .mv (.s 13), .none⟩]
 [[], [0], [], [2], [1, 3], [], [5], [6], [7, 4], [4, 8, 8], [9, 9, 0, 1, 2, 3, 4, 5, 6, 7, 8, 9]] [] [9] [5, 7])
 (.seq (.reg [⟨some 14, none, .mv (.s 3), .none⟩,
 ⟨some 15, none, .fa (.s 1) 4, .none⟩,
 ⟨some 16, none, .ld (.s 15) 1 false, .none⟩,
 ⟨some 17, none, .cvi .u64 (.s 16), .none⟩,
 ⟨some 18, none, .call 49 [.s 17, .c (.d (.int .i64 8))] 2, .none⟩,
 ⟨some 19, none, .app 5 1 1 (.s 14) (.s 18), .none⟩,
 ⟨some 3, none, .mv (.s 19), .none⟩])
 (.seq (.reg [⟨some 20, none, .mv (.s 3), .none⟩,
 ⟨some 21, none, .fa (.s 1) 2, .none⟩,
 ⟨some 22, none, .ld (.s 21) 1 false, .none⟩,
 ⟨some 23, none, .app 5 1 1 (.s 20) (.s 22), .none⟩,
 ⟨some 2, none, .mv (.s 23), .none⟩])
 (.ret none)))))
def ir17 : F := { n := 24, res := [.tmp 2], body := bd17 }
@[go_sem] theorem n17 : ir17.n = 24 := rfl
@[go_sem] theorem r17 : ir17.res = [.tmp 2] := rfl
@[go_sem] theorem b17 : ir17.body = bd17 := rfl
/-- spence/spenceref17.Drop -/
def bd18 : C :=
 (.seq (.reg [⟨some 1, none, .box 56 (.s 0), .none⟩,
 ⟨some 2, none, .mv (.c (.d .nils)), .one 1 false⟩])
 (.seq (.reg [⟨some 3, none, .fa (.s 1) 0, .none⟩,
 ⟨some 4, none, .ld (.s 3) 1 false, .none⟩,
 ⟨some 5, none, .fa (.s 1) 1, .none⟩,
 ⟨some 6, none, .ld (.s 5) 1 false, .none⟩,
 ⟨some 7, none, .call 48 [.s 4, .s 6] 2, .none⟩,
 ⟨some 2, none, .mv (.s 7), .none⟩])
 (.ret none)))
def ir18 : F := { n := 8, res := [.tmp 2], body := bd18 }
@[go_sem] theorem n18 : ir18.n = 8 := rfl
@[go_sem] theorem r18 : ir18.res = [.tmp 2] := rfl
@[go_sem] theorem b18 : ir18.body = bd18 := rfl
/-- (spence/index.Index).Get -/
def bd19 : C :=
 (.seq (.reg [⟨some 2, none, .box 38 (.s 0), .none⟩,
 ⟨some 4, none, .alloc 32 [.int .i64 0, .int .i64 0, .str [], .int .i64 0, .int .i64 0], .none⟩,
 ⟨some 5, none, .mv (.c (.d (.bool false))), .none⟩])
 (.seq (.reg [⟨some 7, none, .ld (.s 2) 192 true, .none⟩,
 ⟨some 8, none, .mv (.s 1), .none⟩,
 ⟨some 9, none, .call 50 [.s 7, .s 8] 2, .none⟩,
 ⟨some 6, none, .alloc 35 [.bool false, .int .i64 0, .int .i64 0, .str [], .int .i64 0, .int .i64 0, .int .i64 0, .int .i64 0, .nilm, .int .i64 0, .int .i64 0, .int .i64 0], .none⟩,
 ⟨none, none, .st (.s 6) (.s 9) 12, .none⟩])
 (.seq (.drw [⟨some 10, none, .fa (.s 6) 1, .none⟩,
 ⟨some 11, none, .ld (.s 10) 5 true, .none⟩,
 ⟨some 12, none, .fa (.s 6) 0, .none⟩,
 ⟨some 13, none, .ld (.s 12) 1 false, .none⟩,
 ⟨none, none, .st (.s 4) (.s 11) 5, .none⟩,
 ⟨some 5, none, .mv (.s 13), .none⟩]
 [[], [0], [], [2], [1, 0, 1], [3, 4, 0, 1, 2, 3, 4]] [(12, 4)])
 (.ret none))))
def ir19 : F := { n := 14, res := [.cell 4 5 true, .tmp 5], body := bd19 }
@[go_sem] theorem n19 : ir19.n = 14 := rfl
@[go_sem] theorem r19 : ir19.res = [.cell 4 5 true, .tmp 5] := rfl
@[go_sem] theorem b19 : ir19.body = bd19 := rfl
/-- spence/index.New -/
def bd20 : C :=
 (.seq (.reg [⟨some 0, none, .alloc 38 [.bool false, .int .i64 0, .int .i64 0, .str [], .int .i64 0, .int .i64 0, .int .i64 0, .int .i64 0, .nilm, .int .i64 0, .int .i64 0, .int .i64 0, .bool false, .int .i64 0, .int .i64 0, .str [], .int .i64 0, .int .i64 0, .int .i64 0, .int .i64 0, .nilm, .int .i64 0, .int .i64 0, .int .i64 0, .bool false, .int .i64 0, .int .i64 0, .str [], .int .i64 0, .int .i64 0, .int .i64 0, .int .i64 0, .nilm, .int .i64 0, .int .i64 0, .int .i64 0, .bool false, .int .i64 0, .int .i64 0, .str [], .int .i64 0, .int .i64 0, .int .i64 0, .int .i64 0, .nilm, .int .i64 0, .int .i64 0, .int .i64 0, .bool false, .int .i64 0, .int .i64 0, .str [], .int .i64 0, .int .i64 0, .int .i64 0, .int .i64 0, .nilm, .int .i64 0, .int .i64 0, .int .i64 0, .bool false, .int .i64 0, .int .i64 0, .str [], .int .i64 0, .int .i64 0, .int .i64 0, .int .i64 0, .nilm, .int .i64 0, .int .i64 0, .int .i64 0, .bool false, .int .i64 0, .int .i64 0, .str [], .int .i64 0, .int .i64 0, .int .i64 0, .int .i64 0, .nilm, .int .i64 0, .int .i64 0, .int .i64 0, .bool false, .int .i64 0, .int .i64 0, .str [], .int .i64 0, .int .i64 0, .int .i64 0, .int .i64 0, .nilm, .int .i64 0, .int .i64 0, .int .i64 0, .bool false, .int .i64 0, .int .i64 0, .str [], .int .i64 0, .int .i64 0, .int .i64 0, .int .i64 0, .nilm, .int .i64 0, .int .i64 0, .int .i64 0, .bool false, .int .i64 0, .int .i64 0, .str [], .int .i64 0, .int .i64 0, .int .i64 0, .int .i64 0, .nilm, .int .i64 0, .int .i64 0, .int .i64 0, .bool false, .int .i64 0, .int .i64 0, .str [], .int .i64 0, .int .i64 0, .int .i64 0, .int .i64 0, .nilm, .int .i64 0, .int .i64 0, .int .i64 0, .bool false, .int .i64 0, .int .i64 0, .str [], .int .i64 0, .int .i64 0, .int .i64 0, .int .i64 0, .nilm, .int .i64 0, .int .i64 0, .int .i64 0, .bool false, .int .i64 0, .int .i64 0, .str [], .int .i64 0, .int .i64 0, .int .i64 0, .int .i64 0, .nilm, .int .i64 0, .int .i64 0, .int .i64 0, .bool false, .int .i64 0, .int .i64 0, .str [], .int .i64 0, .int .i64 0, .int .i64 0, .int .i64 0, .nilm, .int .i64 0, .int .i64 0, .int .i64 0, .bool false, .int .i64 0, .int .i64 0, .str [], .int .i64 0, .int .i64 0, .int .i64 0, .int .i64 0, .nilm, .int .i64 0, .int .i64 0, .int .i64 0, .bool false, .int .i64 0, .int .i64 0, .str [], .int .i64 0, .int .i64 0, .int .i64 0, .int .i64 0, .nilm, .int .i64 0, .int .i64 0, .int .i64 0], .none⟩])
 (.seq (.reg [⟨some 1, none, .build [.bool false, .int .i64 0, .int .i64 0, .str [], .int .i64 0, .int .i64 0, .int .i64 0, .int .i64 0, .nilm, .int .i64 0, .int .i64 0, .int .i64 0, .bool false, .int .i64 0, .int .i64 0, .str [], .int .i64 0, .int .i64 0, .int .i64 0, .int .i64 0, .nilm, .int .i64 0, .int .i64 0, .int .i64 0, .bool false, .int .i64 0, .int .i64 0, .str [], .int .i64 0, .int .i64 0, .int .i64 0, .int .i64 0, .nilm, .int .i64 0, .int .i64 0, .int .i64 0, .bool false, .int .i64 0, .int .i64 0, .str [], .int .i64 0, .int .i64 0, .int .i64 0, .int .i64 0, .nilm, .int .i64 0, .int .i64 0, .int .i64 0, .bool false, .int .i64 0, .int .i64 0, .str [], .int .i64 0, .int .i64 0, .int .i64 0, .int .i64 0, .nilm, .int .i64 0, .int .i64 0, .int .i64 0, .bool false, .int .i64 0, .int .i64 0, .str [], .int .i64 0, .int .i64 0, .int .i64 0, .int .i64 0, .nilm, .int .i64 0, .int .i64 0, .int .i64 0, .bool false, .int .i64 0, .int .i64 0, .str [], .int .i64 0, .int .i64 0, .int .i64 0, .int .i64 0, .nilm, .int .i64 0, .int .i64 0, .int .i64 0, .bool false, .int .i64 0, .int .i64 0, .str [], .int .i64 0, .int .i64 0, .int .i64 0, .int .i64 0, .nilm, .int .i64 0, .int .i64 0, .int .i64 0, .bool false, .int .i64 0, .int .i64 0, .str [], .int .i64 0, .int .i64 0, .int .i64 0, .int .i64 0, .nilm, .int .i64 0, .int .i64 0, .int .i64 0, .bool false, .int .i64 0, .int .i64 0, .str [], .int .i64 0, .int .i64 0, .int .i64 0, .int .i64 0, .nilm, .int .i64 0, .int .i64 0, .int .i64 0, .bool false, .int .i64 0, .int .i64 0, .str [], .int .i64 0, .int .i64 0, .int .i64 0, .int .i64 0, .nilm, .int .i64 0, .int .i64 0, .int .i64 0, .bool false, .int .i64 0, .int .i64 0, .str [], .int .i64 0, .int .i64 0, .int .i64 0, .int .i64 0, .nilm, .int .i64 0, .int .i64 0, .int .i64 0, .bool false, .int .i64 0, .int .i64 0, .str [], .int .i64 0, .int .i64 0, .int .i64 0, .int .i64 0, .nilm, .int .i64 0, .int .i64 0, .int .i64 0, .bool false, .int .i64 0, .int .i64 0, .str [], .int .i64 0, .int .i64 0, .int .i64 0, .int .i64 0, .nilm, .int .i64 0, .int .i64 0, .int .i64 0, .bool false, .int .i64 0, .int .i64 0, .str [], .int .i64 0, .int .i64 0, .int .i64 0, .int .i64 0, .nilm, .int .i64 0, .int .i64 0, .int .i64 0, .bool false, .int .i64 0, .int .i64 0, .str [], .int .i64 0, .int .i64 0, .int .i64 0, .int .i64 0, .nilm, .int .i64 0, .int .i64 0, .int .i64 0] [], .none⟩,
 ⟨none, none, .st (.s 0) (.s 1) 192, .none⟩])
 (.ret none)))
def ir20 : F := { n := 2, res := [.cell 0 192 true], body := bd20 }
@[go_sem] theorem n20 : ir20.n = 2 := rfl
@[go_sem] theorem r20 : ir20.res = [.cell 0 192 true] := rfl
@[go_sem] theorem b20 : ir20.body = bd20 := rfl
/-- (spence/index.Index).Where -/
def bd21 : C :=
 (.seq (.reg [⟨some 2, none, .box 38 (.s 0), .none⟩,
 ⟨some 4, none, .alloc 24 [.int .i64 0, .int .i64 0], .none⟩,
 ⟨some 5, none, .mv (.c (.d (.bool false))), .none⟩])
 (.seq (.reg [⟨some 7, none, .ld (.s 2) 192 true, .none⟩,
 ⟨some 8, none, .mv (.s 1), .none⟩,
 ⟨some 9, none, .call 50 [.s 7, .s 8] 2, .none⟩,
 ⟨some 6, none, .alloc 35 [.bool false, .int .i64 0, .int .i64 0, .str [], .int .i64 0, .int .i64 0, .int .i64 0, .int .i64 0, .nilm, .int .i64 0, .int .i64 0, .int .i64 0], .none⟩,
 ⟨none, none, .st (.s 6) (.s 9) 12, .none⟩])
 (.seq (.drw [⟨some 10, none, .fa (.s 6) 6, .none⟩,
 ⟨some 11, none, .ld (.s 10) 2 true, .none⟩,
 ⟨some 12, none, .fa (.s 6) 0, .none⟩,
 ⟨some 13, none, .ld (.s 12) 1 false, .none⟩,
 ⟨none, none, .st (.s 4) (.s 11) 2, .none⟩,
 ⟨some 5, none, .mv (.s 13), .none⟩]
 [[], [0], [], [2], [1, 0, 1], [3, 4, 0, 1, 2, 3, 4]] [(12, 4)])
 (.ret none))))
def ir21 : F := { n := 14, res := [.cell 4 2 true, .tmp 5], body := bd21 }
@[go_sem] theorem n21 : ir21.n = 14 := rfl
@[go_sem] theorem r21 : ir21.res = [.cell 4 2 true, .tmp 5] := rfl
@[go_sem] theorem b21 : ir21.body = bd21 := rfl
/-- (spence/index.Index).Tomb -/
def bd22 : C :=
 (.seq (.reg [⟨some 2, none, .box 38 (.s 0), .none⟩,
 ⟨some 4, none, .alloc 24 [.int .i64 0, .int .i64 0], .none⟩,
 ⟨some 5, none, .mv (.c (.d (.bool false))), .none⟩])
 (.seq (.reg [⟨some 7, none, .ld (.s 2) 192 true, .none⟩,
 ⟨some 8, none, .mv (.s 1), .none⟩,
 ⟨some 9, none, .call 50 [.s 7, .s 8] 2, .none⟩,
 ⟨some 6, none, .alloc 35 [.bool false, .int .i64 0, .int .i64 0, .str [], .int .i64 0, .int .i64 0, .int .i64 0, .int .i64 0, .nilm, .int .i64 0, .int .i64 0, .int .i64 0], .none⟩,
 ⟨none, none, .st (.s 6) (.s 9) 12, .none⟩])
 (.seq (.drw [⟨some 10, none, .fa (.s 6) 10, .none⟩,
 ⟨some 11, none, .ld (.s 10) 2 true, .none⟩,
 ⟨some 12, none, .fa (.s 6) 9, .none⟩,
 ⟨some 13, none, .ld (.s 12) 1 false, .none⟩,
 ⟨some 14, none, .bin .gtr (.s 13) (.c (.d (.int .i64 0))), .none⟩,
 ⟨none, none, .st (.s 4) (.s 11) 2, .none⟩,
 ⟨some 5, none, .mv (.s 14), .none⟩]
 [[], [0], [], [2], [3], [1, 0, 1], [4, 5, 0, 1, 2, 3, 4, 5]] [(12, 4)])
 (.ret none))))
def ir22 : F := { n := 15, res := [.cell 4 2 true, .tmp 5], body := bd22 }
@[go_sem] theorem n22 : ir22.n = 15 := rfl
@[go_sem] theorem r22 : ir22.res = [.cell 4 2 true, .tmp 5] := rfl
@[go_sem] theorem b22 : ir22.body = bd22 := rfl
/-- (spence/index.Index).Floor -/
def bd23 : C :=
 (.seq (.reg [⟨some 2, none, .box 38 (.s 0), .none⟩,
 ⟨some 4, none, .mv (.c (.d (.int .i64 0))), .none⟩])
 (.seq (.reg [⟨some 5, none, .ld (.s 2) 192 true, .none⟩,
 ⟨some 6, none, .mv (.s 1), .none⟩,
 ⟨some 7, none, .call 50 [.s 5, .s 6] 2, .none⟩,
 ⟨some 8, none, .fld (.s 7) 9 1 false, .none⟩,
 ⟨some 4, none, .mv (.s 8), .none⟩])
 (.ret none)))
def ir23 : F := { n := 9, res := [.tmp 4], body := bd23 }
@[go_sem] theorem n23 : ir23.n = 9 := rfl
@[go_sem] theorem r23 : ir23.res = [.tmp 4] := rfl
@[go_sem] theorem b23 : ir23.body = bd23 := rfl
/-- (spence/index.Index).Last -/
def bd24 : C :=
 (.seq (.reg [⟨some 2, none, .box 38 (.s 0), .none⟩,
 ⟨some 4, none, .mv (.c (.d (.int .i64 0))), .none⟩])
 (.seq (.reg [⟨some 6, none, .ld (.s 2) 192 true, .none⟩,
 ⟨some 7, none, .mv (.s 1), .none⟩,
 ⟨some 8, none, .call 50 [.s 6, .s 7] 2, .none⟩,
 ⟨some 5, none, .alloc 35 [.bool false, .int .i64 0, .int .i64 0, .str [], .int .i64 0, .int .i64 0, .int .i64 0, .int .i64 0, .nilm, .int .i64 0, .int .i64 0, .int .i64 0], .none⟩,
 ⟨none, none, .st (.s 5) (.s 8) 12, .none⟩])
 (.seq (.reg [⟨some 9, none, .fa (.s 5) 9, .none⟩,
 ⟨some 10, none, .ld (.s 9) 1 false, .none⟩,
 ⟨some 11, none, .fa (.s 5) 1, .none⟩,
 ⟨some 12, none, .fa (.s 11) 1, .none⟩,
 ⟨some 13, none, .ld (.s 12) 1 false, .none⟩,
 ⟨some 14, none, .mx (.s 10) (.s 13), .none⟩,
 ⟨some 4, none, .mv (.s 14), .none⟩])
 (.ret none))))
def ir24 : F := { n := 15, res := [.tmp 4], body := bd24 }
@[go_sem] theorem n24 : ir24.n = 15 := rfl
@[go_sem] theorem r24 : ir24.res = [.tmp 4] := rfl
@[go_sem] theorem b24 : ir24.body = bd24 := rfl
def lb25_0 : C :=
 (.seq (.reg [⟨some 18, none, .bin .lss (.s 17) (.s 16), .none⟩])
 (.seq (.cond (.s 18)
 .skip
 (.exit 0 (some [5])))
 (.seq (.block 1 (.seq (.reg [⟨some 19, none, .is (.s 15) (.s 17) 1, .none⟩,
 ⟨some 20, none, .ld (.s 19) 1 false, .none⟩,
 ⟨some 8, none, .mv (.s 20), .none⟩])
 (.reg [⟨some 21, none, .mv (.s 5), .none⟩,
 ⟨some 22, none, .fa (.s 6) 8, .none⟩,
 ⟨some 23, none, .ld (.s 22) 1 false, .none⟩,
 ⟨some 24, none, .mv (.s 8), .none⟩,
 ⟨some 25, none, .mget (.s 23) (.s 24) (.agg [.d (.int .i64 0), .d (.int .i64 0)]) false, .none⟩,
 ⟨some 26, none, .bsl 24 2 1 [.int .i64 0, .int .i64 0] [(0, (2, .s 25))], .none⟩,
 ⟨some 27, none, .app 24 2 16 (.s 21) (.s 26), .none⟩,
 ⟨some 5, none, .mv (.s 27), .none⟩])))
 (.reg [⟨some 28, none, .bin .add (.s 17) (.c (.d (.int .i64 1))), .none⟩,
 ⟨some 17, none, .mv (.s 28), .none⟩]))))
def lp25_0 : C := lb25_0
theorem u25_0 (c : Ev.Callee) (l : Ev.Looper) (s : St) : evC c l lp25_0 s = evC c l lb25_0 s := rfl
abbrev st25_0 (m : Nat) (s5 s6 s15 s16 s17 : AV) (h : Heap) : St := ⟨m, [.unk, .unk, .unk, .unk, .unk, s5, s6, .unk, .unk, .unk, .unk, .unk, .unk, .unk, .unk, s15, s16, s17, .unk, .unk, .unk, .unk, .unk, .unk, .unk, .unk, .unk, .unk, .unk, .unk], h⟩
@[go_sem] theorem ks25_0 (v0 v1 v2 v3 v4 v5 v6 v7 v8 v9 v10 v11 v12 v13 v14 v15 v16 v17 v18 v19 v20 v21 v22 v23 v24 v25 v26 v27 v28 v29 : AV) : keepS [5, 6, 15, 16, 17] [v0, v1, v2, v3, v4, v5, v6, v7, v8, v9, v10, v11, v12, v13, v14, v15, v16, v17, v18, v19, v20, v21, v22, v23, v24, v25, v26, v27, v28, v29] 0 = [.unk, .unk, .unk, .unk, .unk, v5, v6, .unk, .unk, .unk, .unk, .unk, .unk, .unk, .unk, v15, v16, v17, .unk, .unk, .unk, .unk, .unk, .unk, .unk, .unk, .unk, .unk, .unk, .unk] := rfl
@[go_sem] theorem ks25_1 (v0 v1 v2 v3 v4 v5 v6 v7 v8 v9 v10 v11 v12 v13 v14 v15 v16 v17 v18 v19 v20 v21 v22 v23 v24 v25 v26 v27 v28 v29 : AV) : keepS [5] [v0, v1, v2, v3, v4, v5, v6, v7, v8, v9, v10, v11, v12, v13, v14, v15, v16, v17, v18, v19, v20, v21, v22, v23, v24, v25, v26, v27, v28, v29] 0 = [.unk, .unk, .unk, .unk, .unk, v5, .unk, .unk, .unk, .unk, .unk, .unk, .unk, .unk, .unk, .unk, .unk, .unk, .unk, .unk, .unk, .unk, .unk, .unk, .unk, .unk, .unk, .unk, .unk, .unk] := rfl
/-- (spence/index.Index).Places -/
def bd25 : C :=
 (.seq (.reg [⟨some 2, none, .box 38 (.s 0), .none⟩,
 ⟨some 4, none, .mv (.c (.d .nils)), .one 2 true⟩])
 (.seq (.reg [⟨some 5, none, .mv (.c (.d .nils)), .one 2 true⟩])
 (.seq (.reg [⟨some 9, none, .ld (.s 2) 192 true, .none⟩,
 ⟨some 10, none, .mv (.s 1), .none⟩,
 ⟨some 11, none, .call 50 [.s 9, .s 10] 2, .none⟩,
 ⟨some 6, none, .alloc 35 [.bool false, .int .i64 0, .int .i64 0, .str [], .int .i64 0, .int .i64 0, .int .i64 0, .int .i64 0, .nilm, .int .i64 0, .int .i64 0, .int .i64 0], .none⟩,
 ⟨none, none, .st (.s 6) (.s 11) 12, .none⟩])
 (.seq (.seq (.reg [⟨some 12, none, .fa (.s 6) 8, .none⟩,
 ⟨some 13, none, .ld (.s 12) 1 false, .none⟩,
 ⟨some 14, none, .call 52 [.s 13] 0, .none⟩,
 ⟨some 15, none, .call 51 [.s 14] 0, .none⟩,
 ⟨some 16, none, .len (.s 15), .none⟩,
 ⟨some 17, none, .mv (.c (.d (.int .i64 0))), .none⟩])
 (.block 0 (.loop [5, 6, 15, 16, 17] lp25_0)))
 (.seq (.reg [⟨some 29, none, .mv (.s 5), .none⟩,
 ⟨some 4, none, .mv (.s 29), .none⟩])
 (.ret none))))))
def ir25 : F := { n := 30, res := [.tmp 4], body := bd25 }
@[go_sem] theorem n25 : ir25.n = 30 := rfl
@[go_sem] theorem r25 : ir25.res = [.tmp 4] := rfl
@[go_sem] theorem b25 : ir25.body = bd25 := rfl
/-- (spence/index.Index).At -/
def bd26 : C :=
 (.seq (.reg [⟨some 3, none, .box 38 (.s 0), .none⟩,
 ⟨some 6, none, .alloc 24 [.int .i64 0, .int .i64 0], .none⟩,
 ⟨some 7, none, .mv (.c (.d (.bool false))), .none⟩])
 (.seq (.reg [⟨some 11, none, .ld (.s 3) 192 true, .none⟩,
 ⟨some 12, none, .mv (.s 1), .none⟩,
 ⟨some 13, none, .call 50 [.s 11, .s 12] 2, .none⟩,
 ⟨some 14, none, .fld (.s 13) 8 1 false, .none⟩,
 ⟨some 15, none, .mv (.s 2), .none⟩,
 ⟨some 16, none, .mget (.s 14) (.s 15) (.agg [.d (.int .i64 0), .d (.int .i64 0)]) true, .none⟩,
 ⟨some 10, none, .mv (.s 16), .none⟩,
 ⟨some 17, none, .ext (.s 10) 0, .none⟩,
 ⟨some 18, none, .ext (.s 10) 1, .none⟩,
 ⟨some 8, none, .alloc 24 [.int .i64 0, .int .i64 0], .none⟩,
 ⟨none, none, .st (.s 8) (.s 17) 2, .none⟩,
 ⟨some 9, none, .mv (.s 18), .none⟩])
 (.seq (.reg [⟨some 19, none, .ld (.s 8) 2 true, .none⟩,
 ⟨some 20, none, .mv (.s 9), .none⟩,
 ⟨none, none, .st (.s 6) (.s 19) 2, .none⟩,
 ⟨some 7, none, .mv (.s 20), .none⟩])
 (.ret none))))
def ir26 : F := { n := 21, res := [.cell 6 2 true, .tmp 7], body := bd26 }
@[go_sem] theorem n26 : ir26.n = 21 := rfl
@[go_sem] theorem r26 : ir26.res = [.cell 6 2 true, .tmp 7] := rfl
@[go_sem] theorem b26 : ir26.body = bd26 := rfl
def lb27_0 : C :=
 (.seq (.reg [⟨some 14, none, .bin .lss (.s 13) (.s 12), .none⟩])
 (.seq (.cond (.s 14)
 .skip
 (.exit 0 (some [])))
 (.seq (.block 1 (.seq (.reg [⟨some 15, none, .mv (.s 13), .none⟩,
 ⟨some 5, none, .mv (.s 15), .none⟩])
 (.seq (.drw [⟨some 16, none, .mv (.s 0), .none⟩,
 ⟨some 17, none, .mv (.s 5), .none⟩,
 ⟨some 18, none, .is (.s 16) (.s 17) 1, .none⟩,
 ⟨some 19, none, .ld (.s 18) 1 false, .none⟩,
 ⟨some 20, none, .mv (.s 1), .none⟩,
 ⟨some 21, none, .mv (.s 5), .none⟩,
 ⟨some 22, none, .is (.s 20) (.s 21) 1, .none⟩,
 ⟨some 23, none, .ld (.s 22) 1 false, .none⟩,
 ⟨some 24, none, .bin .neq (.s 19) (.s 23), .none⟩]
 [[], [], [0, 1], [2], [], [], [4, 5], [6], [3, 7]] [])
 (.cond (.s 24)
 (.seq (.reg [⟨some 4, none, .mv (.c (.d (.bool false))), .none⟩])
 (.ret (some [4])))
 .skip))))
 (.reg [⟨some 25, none, .bin .add (.s 13) (.c (.d (.int .i64 1))), .none⟩,
 ⟨some 13, none, .mv (.s 25), .none⟩]))))
def lp27_0 : C := lb27_0
theorem u27_0 (c : Ev.Callee) (l : Ev.Looper) (s : St) : evC c l lp27_0 s = evC c l lb27_0 s := rfl
abbrev st27_0 (m : Nat) (s0 s1 s12 s13 : AV) (h : Heap) : St := ⟨m, [s0, s1, .unk, .unk, .unk, .unk, .unk, .unk, .unk, .unk, .unk, .unk, s12, s13, .unk, .unk, .unk, .unk, .unk, .unk, .unk, .unk, .unk, .unk, .unk, .unk], h⟩
@[go_sem] theorem ks27_0 (v0 v1 v2 v3 v4 v5 v6 v7 v8 v9 v10 v11 v12 v13 v14 v15 v16 v17 v18 v19 v20 v21 v22 v23 v24 v25 : AV) : keepS [0, 1, 12, 13] [v0, v1, v2, v3, v4, v5, v6, v7, v8, v9, v10, v11, v12, v13, v14, v15, v16, v17, v18, v19, v20, v21, v22, v23, v24, v25] 0 = [v0, v1, .unk, .unk, .unk, .unk, .unk, .unk, .unk, .unk, .unk, .unk, v12, v13, .unk, .unk, .unk, .unk, .unk, .unk, .unk, .unk, .unk, .unk, .unk, .unk] := rfl
@[go_sem] theorem ks27_1 (v0 v1 v2 v3 v4 v5 v6 v7 v8 v9 v10 v11 v12 v13 v14 v15 v16 v17 v18 v19 v20 v21 v22 v23 v24 v25 : AV) : keepS [] [v0, v1, v2, v3, v4, v5, v6, v7, v8, v9, v10, v11, v12, v13, v14, v15, v16, v17, v18, v19, v20, v21, v22, v23, v24, v25] 0 = [.unk, .unk, .unk, .unk, .unk, .unk, .unk, .unk, .unk, .unk, .unk, .unk, .unk, .unk, .unk, .unk, .unk, .unk, .unk, .unk, .unk, .unk, .unk, .unk, .unk, .unk] := rfl
@[go_sem] theorem ks27_2 (v0 v1 v2 v3 v4 v5 v6 v7 v8 v9 v10 v11 v12 v13 v14 v15 v16 v17 v18 v19 v20 v21 v22 v23 v24 v25 : AV) : keepS [4] [v0, v1, v2, v3, v4, v5, v6, v7, v8, v9, v10, v11, v12, v13, v14, v15, v16, v17, v18, v19, v20, v21, v22, v23, v24, v25] 0 = [.unk, .unk, .unk, .unk, v4, .unk, .unk, .unk, .unk, .unk, .unk, .unk, .unk, .unk, .unk, .unk, .unk, .unk, .unk, .unk, .unk, .unk, .unk, .unk, .unk, .unk] := rfl
/-- spence/spenceref01.Ints -/
def bd27 : C :=
 (.seq (.reg [⟨some 4, none, .mv (.c (.d (.bool false))), .none⟩])
 (.seq (.seq (.reg [⟨some 6, none, .mv (.s 0), .none⟩,
 ⟨some 7, none, .len (.s 6), .none⟩,
 ⟨some 8, none, .mv (.s 1), .none⟩,
 ⟨some 9, none, .len (.s 8), .none⟩,
 ⟨some 10, none, .bin .neq (.s 7) (.s 9), .none⟩])
 (.cond (.s 10)
 (.seq (.reg [⟨some 4, none, .mv (.c (.d (.bool false))), .none⟩])
 (.ret none))
 .skip))
 (.seq (.seq (.reg [⟨some 11, none, .mv (.s 0), .none⟩,
 ⟨some 12, none, .len (.s 11), .none⟩,
 ⟨some 13, none, .mv (.c (.d (.int .i64 0))), .none⟩])
 (.block 0 (.loop [0, 1, 12, 13] lp27_0)))
 (.seq (.reg [⟨some 4, none, .mv (.c (.d (.bool true))), .none⟩])
 (.ret none)))))
def ir27 : F := { n := 26, res := [.tmp 4], body := bd27 }
@[go_sem] theorem n27 : ir27.n = 26 := rfl
@[go_sem] theorem r27 : ir27.res = [.tmp 4] := rfl
@[go_sem] theorem b27 : ir27.body = bd27 := rfl
/-- (spence/index.Index).Slices -/
def bd28 : C :=
 (.seq (.reg [⟨some 2, none, .box 38 (.s 0), .none⟩,
 ⟨some 4, none, .alloc 79 [.int .u64 0, .int .u64 0, .int .u64 0, .int .u64 0, .int .u64 0, .int .u64 0, .int .u64 0, .int .u64 0, .int .u64 0, .int .u64 0, .int .u64 0, .int .u64 0, .int .u64 0, .int .u64 0, .int .u64 0, .int .u64 0, .int .u64 0, .int .u64 0, .int .u64 0, .int .u64 0, .int .u64 0, .int .u64 0, .int .u64 0, .int .u64 0, .int .u64 0, .int .u64 0, .int .u64 0, .int .u64 0, .int .u64 0, .int .u64 0, .int .u64 0, .int .u64 0, .int .u64 0, .int .u64 0, .int .u64 0, .int .u64 0, .int .u64 0, .int .u64 0, .int .u64 0, .int .u64 0, .int .u64 0, .int .u64 0, .int .u64 0, .int .u64 0, .int .u64 0, .int .u64 0, .int .u64 0, .int .u64 0, .int .u64 0, .int .u64 0, .int .u64 0, .int .u64 0, .int .u64 0, .int .u64 0, .int .u64 0, .int .u64 0, .int .u64 0, .int .u64 0, .int .u64 0, .int .u64 0, .int .u64 0, .int .u64 0, .int .u64 0, .int .u64 0, .int .u64 0], .none⟩])
 (.seq (.reg [⟨some 5, none, .ld (.s 2) 192 true, .none⟩,
 ⟨some 6, none, .mv (.s 1), .none⟩,
 ⟨some 7, none, .call 50 [.s 5, .s 6] 2, .none⟩,
 ⟨some 8, none, .fld (.s 7) 8 1 false, .none⟩,
 ⟨some 9, none, .call 52 [.s 8] 0, .none⟩,
 ⟨some 10, none, .call 51 [.s 9] 0, .none⟩,
 ⟨some 11, none, .call 53 [.s 10] 2, .none⟩,
 ⟨none, none, .st (.s 4) (.s 11) 65, .none⟩])
 (.ret none)))
def ir28 : F := { n := 12, res := [.cell 4 65 true], body := bd28 }
@[go_sem] theorem n28 : ir28.n = 12 := rfl
@[go_sem] theorem r28 : ir28.res = [.cell 4 65 true] := rfl
@[go_sem] theorem b28 : ir28.body = bd28 := rfl
def lb30_0 : C :=
 (.seq (.reg [⟨some 9, none, .bin .lss (.s 8) (.c (.d (.int .i64 16))), .none⟩])
 (.seq (.cond (.s 9)
 .skip
 (.exit 0 (some [3])))
 (.seq (.block 1 (.seq (.reg [⟨some 10, none, .mv (.s 8), .none⟩,
 ⟨some 11, none, .idx (.s 7) (.s 8) 16 12 true, .none⟩,
 ⟨some 5, none, .alloc 35 [.bool false, .int .i64 0, .int .i64 0, .str [], .int .i64 0, .int .i64 0, .int .i64 0, .int .i64 0, .nilm, .int .i64 0, .int .i64 0, .int .i64 0], .none⟩,
 ⟨some 4, none, .mv (.s 10), .none⟩,
 ⟨none, none, .st (.s 5) (.s 11) 12, .none⟩])
 (.seq (.reg [⟨some 12, none, .fa (.s 5) 0, .none⟩,
 ⟨some 13, none, .ld (.s 12) 1 false, .none⟩])
 (.cond (.s 13)
 (.reg [⟨some 14, none, .mv (.s 3), .none⟩,
 ⟨some 15, none, .mv (.s 4), .none⟩,
 ⟨some 16, none, .bsl 3 1 1 [.int .i64 0] [(0, (1, .s 15))], .none⟩,
 ⟨some 17, none, .app 3 1 8 (.s 14) (.s 16), .none⟩,
 ⟨some 3, none, .mv (.s 17), .none⟩])
 .skip))))
 (.reg [⟨some 18, none, .bin .add (.s 8) (.c (.d (.int .i64 1))), .none⟩,
 ⟨some 8, none, .mv (.s 18), .none⟩]))))
def lp30_0 : C := lb30_0
theorem u30_0 (c : Ev.Callee) (l : Ev.Looper) (s : St) : evC c l lp30_0 s = evC c l lb30_0 s := rfl
abbrev st30_0 (m : Nat) (s3 s7 s8 : AV) (h : Heap) : St := ⟨m, [.unk, .unk, .unk, s3, .unk, .unk, .unk, s7, s8, .unk, .unk, .unk, .unk, .unk, .unk, .unk, .unk, .unk, .unk, .unk], h⟩
@[go_sem] theorem ks30_0 (v0 v1 v2 v3 v4 v5 v6 v7 v8 v9 v10 v11 v12 v13 v14 v15 v16 v17 v18 v19 : AV) : keepS [3, 7, 8] [v0, v1, v2, v3, v4, v5, v6, v7, v8, v9, v10, v11, v12, v13, v14, v15, v16, v17, v18, v19] 0 = [.unk, .unk, .unk, v3, .unk, .unk, .unk, v7, v8, .unk, .unk, .unk, .unk, .unk, .unk, .unk, .unk, .unk, .unk, .unk] := rfl
@[go_sem] theorem ks30_1 (v0 v1 v2 v3 v4 v5 v6 v7 v8 v9 v10 v11 v12 v13 v14 v15 v16 v17 v18 v19 : AV) : keepS [3] [v0, v1, v2, v3, v4, v5, v6, v7, v8, v9, v10, v11, v12, v13, v14, v15, v16, v17, v18, v19] 0 = [.unk, .unk, .unk, v3, .unk, .unk, .unk, .unk, .unk, .unk, .unk, .unk, .unk, .unk, .unk, .unk, .unk, .unk, .unk, .unk] := rfl
/-- (spence/index.Index).Objects -/
def bd30 : C :=
 (.seq (.reg [⟨some 1, none, .box 38 (.s 0), .none⟩,
 ⟨some 2, none, .mv (.c (.d .nils)), .one 1 true⟩])
 (.seq (.reg [⟨some 3, none, .mv (.c (.d .nils)), .one 1 true⟩])
 (.seq (.seq (.reg [⟨some 6, none, .fa (.s 1) 0, .none⟩,
 ⟨some 7, none, .ld (.s 6) 192 true, .none⟩,
 ⟨some 8, none, .mv (.c (.d (.int .i64 0))), .none⟩])
 (.block 0 (.loop [3, 7, 8] lp30_0)))
 (.seq (.reg [⟨some 19, none, .mv (.s 3), .none⟩,
 ⟨some 2, none, .mv (.s 19), .none⟩])
 (.ret none)))))
def ir30 : F := { n := 20, res := [.tmp 2], body := bd30 }
@[go_sem] theorem n30 : ir30.n = 20 := rfl
@[go_sem] theorem r30 : ir30.res = [.tmp 2] := rfl
@[go_sem] theorem b30 : ir30.body = bd30 := rfl
/-- spence/codec.Object -/
def bd31 : C :=
 (.seq (.reg [⟨some 4, none, .mv (.c (.d (.int .i64 0))), .none⟩,
 ⟨some 5, none, .mv (.c (.d (.bool false))), .none⟩])
 (.seq (.seq (.reg [⟨some 12, none, .mv (.s 0), .none⟩])
 (.block 0 (.seq (.block 4 (.block 3 (.seq (.block 2 (.seq (.block 1 (.seq (.seq (.seq (.reg [⟨some 14, none, .bin .eql (.s 12) (.c (.d (.int .u8 2))), .none⟩,
 ⟨some 13, none, .mv (.s 14), .none⟩])
 (.cond (.s 13)
 (.exit 1 none)
 .skip))
 (.seq (.seq (.reg [⟨some 16, none, .bin .eql (.s 12) (.c (.d (.int .u8 3))), .none⟩,
 ⟨some 15, none, .mv (.s 16), .none⟩])
 (.cond (.s 15)
 (.exit 2 none)
 .skip))
 (.seq (.seq (.reg [⟨some 18, none, .bin .eql (.s 12) (.c (.d (.int .u8 4))), .none⟩,
 ⟨some 17, none, .mv (.s 18), .none⟩])
 (.cond (.s 17)
 (.exit 3 none)
 .skip))
 (.seq (.reg [⟨some 20, none, .bin .eql (.s 12) (.c (.d (.int .u8 5))), .none⟩,
 ⟨some 19, none, .mv (.s 20), .none⟩])
 (.cond (.s 19)
 (.exit 4 none)
 .skip)))))
 (.exit 0 none)))
 (.seq (.seq (.reg [⟨some 22, none, .mv (.s 1), .none⟩,
 ⟨some 23, none, .call 32 [.s 22] 2, .none⟩,
 ⟨some 21, none, .mv (.s 23), .none⟩,
 ⟨some 24, none, .ext (.s 21) 0, .none⟩,
 ⟨some 25, none, .ext (.s 21) 1, .none⟩,
 ⟨some 6, none, .alloc 32 [.int .i64 0, .int .i64 0, .str [], .int .i64 0, .int .i64 0], .none⟩,
 ⟨none, none, .st (.s 6) (.s 24) 5, .none⟩,
 ⟨some 7, none, .mv (.s 25), .none⟩])
 (.seq (.reg [⟨some 26, none, .fa (.s 6) 0, .none⟩,
 ⟨some 27, none, .ld (.s 26) 1 false, .none⟩,
 ⟨some 28, none, .mv (.s 7), .none⟩,
 ⟨some 29, none, .bin .eql (.s 28) (.c (.d (.int .i64 0))), .none⟩,
 ⟨some 4, none, .mv (.s 27), .none⟩,
 ⟨some 5, none, .mv (.s 29), .none⟩])
 (.ret none)))
 (.exit 0 none))))
 (.seq (.seq (.reg [⟨some 31, none, .mv (.s 1), .none⟩,
 ⟨some 32, none, .call 34 [.s 31] 2, .none⟩,
 ⟨some 30, none, .mv (.s 32), .none⟩,
 ⟨some 33, none, .ext (.s 30) 0, .none⟩,
 ⟨some 34, none, .ext (.s 30) 1, .none⟩,
 ⟨some 8, none, .alloc 89 [.int .i64 0, .int .i64 0, .int .i64 0, .nils], .cells [(3, 1, false)]⟩,
 ⟨none, none, .st (.s 8) (.s 33) 4, .none⟩,
 ⟨some 9, none, .mv (.s 34), .none⟩])
 (.seq (.reg [⟨some 35, none, .fa (.s 8) 0, .none⟩,
 ⟨some 36, none, .ld (.s 35) 1 false, .none⟩,
 ⟨some 37, none, .mv (.s 9), .none⟩,
 ⟨some 38, none, .bin .eql (.s 37) (.c (.d (.int .i64 0))), .none⟩,
 ⟨some 4, none, .mv (.s 36), .none⟩,
 ⟨some 5, none, .mv (.s 38), .none⟩])
 (.ret none)))
 (.exit 0 none)))))
 (.seq (.seq (.reg [⟨some 40, none, .mv (.s 0), .none⟩,
 ⟨some 41, none, .mv (.s 1), .none⟩,
 ⟨some 42, none, .call 35 [.s 40, .s 41] 2, .none⟩,
 ⟨some 39, none, .mv (.s 42), .none⟩,
 ⟨some 43, none, .ext (.s 39) 0, .none⟩,
 ⟨some 44, none, .ext (.s 39) 1, .none⟩,
 ⟨some 10, none, .alloc 56 [.int .i64 0, .int .i64 0, .bool false], .none⟩,
 ⟨none, none, .st (.s 10) (.s 43) 3, .none⟩,
 ⟨some 11, none, .mv (.s 44), .none⟩])
 (.seq (.reg [⟨some 45, none, .fa (.s 10) 0, .none⟩,
 ⟨some 46, none, .ld (.s 45) 1 false, .none⟩,
 ⟨some 47, none, .mv (.s 11), .none⟩,
 ⟨some 48, none, .bin .eql (.s 47) (.c (.d (.int .i64 0))), .none⟩,
 ⟨some 4, none, .mv (.s 46), .none⟩,
 ⟨some 5, none, .mv (.s 48), .none⟩])
 (.ret none)))
 (.exit 0 none)))))
 (.seq (.reg [⟨some 4, none, .mv (.c (.d (.int .i64 0))), .none⟩,
 ⟨some 5, none, .mv (.c (.d (.bool false))), .none⟩])
 (.ret none))))
def ir31 : F := { n := 49, res := [.tmp 4, .tmp 5], body := bd31 }
@[go_sem] theorem n31 : ir31.n = 49 := rfl
@[go_sem] theorem r31 : ir31.res = [.tmp 4, .tmp 5] := rfl
@[go_sem] theorem b31 : ir31.body = bd31 := rfl
/-- spence/codec.GetBind -/
def bd32 : C :=
 (.seq (.reg [⟨some 2, none, .alloc 32 [.int .i64 0, .int .i64 0, .str [], .int .i64 0, .int .i64 0], .none⟩,
 ⟨some 3, none, .mv (.c (.d (.int .i64 0))), .none⟩])
 (.seq (.reg [⟨some 6, none, .mv (.s 0), .none⟩,
 ⟨some 7, none, .build [.nils, .bool false] [(0, (1, .s 6)), (1, (1, .c (.d (.bool true))))], .cells [(0, 1, false)]⟩,
 ⟨some 8, none, .box 119 (.s 7), .none⟩,
 ⟨some 4, none, .mv (.s 8), .none⟩])
 (.seq (.reg [⟨some 9, none, .mv (.s 4), .none⟩,
 ⟨some 10, none, .call 55 [.s 9, .c (.d (.int .i64 1))] 0, .none⟩,
 ⟨some 11, none, .mv (.s 4), .none⟩,
 ⟨some 12, none, .call 55 [.s 11, .c (.d (.int .i64 4))] 0, .none⟩,
 ⟨some 13, none, .mv (.s 4), .none⟩,
 ⟨some 14, none, .call 55 [.s 13, .c (.d (.int .i64 2))] 0, .none⟩,
 ⟨some 15, none, .mv (.s 4), .none⟩,
 ⟨some 16, none, .call 55 [.s 15, .c (.d (.int .i64 8))] 0, .none⟩,
 ⟨some 17, none, .build [.int .i64 0, .int .i64 0, .str [], .int .i64 0, .int .i64 0] [(0, (1, .s 10)), (1, (1, .s 12)), (3, (1, .s 14)), (4, (1, .s 16))], .none⟩,
 ⟨some 5, none, .alloc 32 [.int .i64 0, .int .i64 0, .str [], .int .i64 0, .int .i64 0], .none⟩,
 ⟨none, none, .st (.s 5) (.s 17) 5, .none⟩])
 (.seq (.reg [⟨some 18, none, .mv (.s 4), .none⟩,
 ⟨some 19, none, .nc (.s 18), .none⟩,
 ⟨some 20, none, .fa (.s 19) 0, .none⟩,
 ⟨some 21, none, .ld (.s 20) 1 false, .none⟩,
 ⟨some 22, none, .b2s (.s 21), .none⟩,
 ⟨some 23, none, .fa (.s 5) 2, .none⟩,
 ⟨none, none, .st (.s 23) (.s 22) 1, .none⟩])
 (.seq (.seq (.reg [⟨some 24, none, .mv (.s 4), .none⟩,
 ⟨some 25, none, .nc (.s 24), .none⟩,
 ⟨some 26, none, .fa (.s 25) 1, .none⟩,
 ⟨some 27, none, .ld (.s 26) 1 false, .none⟩,
 ⟨some 28, none, .un .not (.s 27), .none⟩,
 ⟨some 29, none, .mv (.s 28), .none⟩,
 ⟨some 30, some (29, false), .ld (.s 5) 5 true, .none⟩,
 ⟨some 31, some (29, false), .call 56 [.s 30] 2, .none⟩,
 ⟨some 32, some (29, false), .un .not (.s 31), .none⟩,
 ⟨some 33, none, .pick (.s 29) (.c (.d (.bool true))) (.s 32), .none⟩])
 (.cond (.s 33)
 (.seq (.reg [⟨some 34, none, .build [.int .i64 0, .int .i64 0, .str [], .int .i64 0, .int .i64 0] [], .none⟩,
 ⟨none, none, .st (.s 2) (.s 34) 5, .none⟩,
 ⟨some 3, none, .mv (.c (.d (.int .i64 3))), .none⟩])
 (.ret none))
 .skip))
 (.seq (.reg [⟨some 35, none, .ld (.s 5) 5 true, .none⟩,
 ⟨none, none, .st (.s 2) (.s 35) 5, .none⟩,
 ⟨some 3, none, .mv (.c (.d (.int .i64 0))), .none⟩])
 (.ret none)))))))
def ir32 : F := { n := 36, res := [.cell 2 5 true, .tmp 3], body := bd32 }
@[go_sem] theorem n32 : ir32.n = 36 := rfl
@[go_sem] theorem r32 : ir32.res = [.cell 2 5 true, .tmp 3] := rfl
@[go_sem] theorem b32 : ir32.body = bd32 := rfl
/-- spence/replay.here -/
def bd33 : C :=
 (.seq (.reg [⟨some 3, none, .box 24 (.s 0), .none⟩,
 ⟨some 5, none, .box 28 (.s 2), .none⟩,
 ⟨some 6, none, .mv (.c (.d (.bool false))), .none⟩])
 (.seq (.reg [⟨some 7, none, .mv (.s 1), .none⟩,
 ⟨some 8, none, .mv (.s 7), .none⟩,
 ⟨some 9, some (8, true), .ld (.s 3) 2 true, .none⟩,
 ⟨some 10, some (8, true), .fa (.s 5) 0, .none⟩,
 ⟨some 11, some (8, true), .ld (.s 10) 2 true, .none⟩,
 ⟨some 12, some (8, true), .eqs false [1, 1] (.s 9) (.s 11), .none⟩,
 ⟨some 13, none, .pick (.s 8) (.s 12) (.c (.d (.bool false))), .none⟩,
 ⟨some 6, none, .mv (.s 13), .none⟩])
 (.ret none)))
def ir33 : F := { n := 14, res := [.tmp 6], body := bd33 }
@[go_sem] theorem n33 : ir33.n = 14 := rfl
@[go_sem] theorem r33 : ir33.res = [.tmp 6] := rfl
@[go_sem] theorem b33 : ir33.body = bd33 := rfl
/-- spence/codec.GetPiece -/
def bd34 : C :=
 (.seq (.reg [⟨some 2, none, .alloc 89 [.int .i64 0, .int .i64 0, .int .i64 0, .nils], .cells [(3, 1, false)]⟩,
 ⟨some 3, none, .mv (.c (.d (.int .i64 0))), .none⟩])
 (.seq (.reg [⟨some 6, none, .mv (.s 0), .none⟩,
 ⟨some 7, none, .build [.nils, .bool false] [(0, (1, .s 6)), (1, (1, .c (.d (.bool true))))], .cells [(0, 1, false)]⟩,
 ⟨some 8, none, .box 119 (.s 7), .none⟩,
 ⟨some 4, none, .mv (.s 8), .none⟩])
 (.seq (.reg [⟨some 9, none, .mv (.s 4), .none⟩,
 ⟨some 10, none, .call 55 [.s 9, .c (.d (.int .i64 1))] 0, .none⟩,
 ⟨some 11, none, .mv (.s 4), .none⟩,
 ⟨some 12, none, .call 55 [.s 11, .c (.d (.int .i64 4))] 0, .none⟩,
 ⟨some 13, none, .mv (.s 4), .none⟩,
 ⟨some 14, none, .call 55 [.s 13, .c (.d (.int .i64 2))] 0, .none⟩,
 ⟨some 15, none, .build [.int .i64 0, .int .i64 0, .int .i64 0, .nils] [(0, (1, .s 10)), (1, (1, .s 12)), (2, (1, .s 14))], .cells [(3, 1, false)]⟩,
 ⟨some 5, none, .alloc 89 [.int .i64 0, .int .i64 0, .int .i64 0, .nils], .cells [(3, 1, false)]⟩,
 ⟨none, none, .st (.s 5) (.s 15) 4, .none⟩])
 (.seq (.reg [⟨some 16, none, .mv (.s 4), .none⟩,
 ⟨some 17, none, .nc (.s 16), .none⟩,
 ⟨some 18, none, .fa (.s 17) 0, .none⟩,
 ⟨some 19, none, .ld (.s 18) 1 false, .none⟩,
 ⟨some 20, none, .call 46 [.s 19] 2, .none⟩,
 ⟨some 21, none, .fa (.s 5) 3, .none⟩,
 ⟨none, none, .st (.s 21) (.s 20) 1, .none⟩])
 (.seq (.seq (.reg [⟨some 22, none, .mv (.s 4), .none⟩,
 ⟨some 23, none, .nc (.s 22), .none⟩,
 ⟨some 24, none, .fa (.s 23) 1, .none⟩,
 ⟨some 25, none, .ld (.s 24) 1 false, .none⟩,
 ⟨some 26, none, .un .not (.s 25), .none⟩,
 ⟨some 27, none, .mv (.s 26), .none⟩,
 ⟨some 28, some (27, false), .ld (.s 5) 4 true, .none⟩,
 ⟨some 29, some (27, false), .call 57 [.s 28] 2, .none⟩,
 ⟨some 30, some (27, false), .un .not (.s 29), .none⟩,
 ⟨some 31, none, .pick (.s 27) (.c (.d (.bool true))) (.s 30), .none⟩])
 (.cond (.s 31)
 (.seq (.reg [⟨some 32, none, .build [.int .i64 0, .int .i64 0, .int .i64 0, .nils] [], .cells [(3, 1, false)]⟩,
 ⟨none, none, .st (.s 2) (.s 32) 4, .none⟩,
 ⟨some 3, none, .mv (.c (.d (.int .i64 3))), .none⟩])
 (.ret none))
 .skip))
 (.seq (.reg [⟨some 33, none, .ld (.s 5) 4 true, .none⟩,
 ⟨none, none, .st (.s 2) (.s 33) 4, .none⟩,
 ⟨some 3, none, .mv (.c (.d (.int .i64 0))), .none⟩])
 (.ret none)))))))
def ir34 : F := { n := 34, res := [.cell 2 4 true, .tmp 3], body := bd34 }
@[go_sem] theorem n34 : ir34.n = 34 := rfl
@[go_sem] theorem r34 : ir34.res = [.cell 2 4 true, .tmp 3] := rfl
@[go_sem] theorem b34 : ir34.body = bd34 := rfl
/-- spence/codec.GetDrop -/
def bd35 : C :=
 (.seq (.reg [⟨some 4, none, .alloc 56 [.int .i64 0, .int .i64 0, .bool false], .none⟩,
 ⟨some 5, none, .mv (.c (.d (.int .i64 0))), .none⟩])
 (.seq (.reg [⟨some 8, none, .mv (.s 1), .none⟩,
 ⟨some 9, none, .build [.nils, .bool false] [(0, (1, .s 8)), (1, (1, .c (.d (.bool true))))], .cells [(0, 1, false)]⟩,
 ⟨some 10, none, .box 119 (.s 9), .none⟩,
 ⟨some 6, none, .mv (.s 10), .none⟩])
 (.seq (.reg [⟨some 11, none, .mv (.s 6), .none⟩,
 ⟨some 12, none, .call 55 [.s 11, .c (.d (.int .i64 1))] 0, .none⟩,
 ⟨some 13, none, .mv (.s 6), .none⟩,
 ⟨some 14, none, .call 55 [.s 13, .c (.d (.int .i64 4))] 0, .none⟩,
 ⟨some 15, none, .mv (.s 0), .none⟩,
 ⟨some 16, none, .bin .eql (.s 15) (.c (.d (.int .u8 5))), .none⟩,
 ⟨some 17, none, .build [.int .i64 0, .int .i64 0, .bool false] [(0, (1, .s 12)), (1, (1, .s 14)), (2, (1, .s 16))], .none⟩,
 ⟨some 7, none, .alloc 56 [.int .i64 0, .int .i64 0, .bool false], .none⟩,
 ⟨none, none, .st (.s 7) (.s 17) 3, .none⟩])
 (.seq (.seq (.reg [⟨some 18, none, .mv (.s 6), .none⟩,
 ⟨some 19, none, .nc (.s 18), .none⟩,
 ⟨some 20, none, .fa (.s 19) 1, .none⟩,
 ⟨some 21, none, .ld (.s 20) 1 false, .none⟩,
 ⟨some 22, none, .un .not (.s 21), .none⟩,
 ⟨some 23, none, .mv (.s 22), .none⟩,
 ⟨some 24, some (23, false), .mv (.s 6), .none⟩,
 ⟨some 25, some (23, false), .nc (.s 24), .none⟩,
 ⟨some 26, some (23, false), .fa (.s 25) 0, .none⟩,
 ⟨some 27, some (23, false), .ld (.s 26) 1 false, .none⟩,
 ⟨some 28, some (23, false), .len (.s 27), .none⟩,
 ⟨some 29, some (23, false), .bin .gtr (.s 28) (.c (.d (.int .i64 0))), .none⟩,
 ⟨some 30, none, .pick (.s 23) (.c (.d (.bool true))) (.s 29), .none⟩,
 ⟨some 31, none, .mv (.s 30), .none⟩,
 ⟨some 32, some (31, false), .fa (.s 7) 0, .none⟩,
 ⟨some 33, some (31, false), .ld (.s 32) 1 false, .none⟩,
 ⟨some 34, some (31, false), .fa (.s 7) 1, .none⟩,
 ⟨some 35, some (31, false), .ld (.s 34) 1 false, .none⟩,
 ⟨some 36, some (31, false), .call 58 [.s 33, .s 35] 2, .none⟩,
 ⟨some 37, some (31, false), .un .not (.s 36), .none⟩,
 ⟨some 38, none, .pick (.s 31) (.c (.d (.bool true))) (.s 37), .none⟩])
 (.cond (.s 38)
 (.seq (.reg [⟨some 39, none, .build [.int .i64 0, .int .i64 0, .bool false] [], .none⟩,
 ⟨none, none, .st (.s 4) (.s 39) 3, .none⟩,
 ⟨some 5, none, .mv (.c (.d (.int .i64 3))), .none⟩])
 (.ret none))
 .skip))
 (.seq (.reg [⟨some 40, none, .ld (.s 7) 3 true, .none⟩,
 ⟨none, none, .st (.s 4) (.s 40) 3, .none⟩,
 ⟨some 5, none, .mv (.c (.d (.int .i64 0))), .none⟩])
 (.ret none))))))
def ir35 : F := { n := 41, res := [.cell 4 3 true, .tmp 5], body := bd35 }
@[go_sem] theorem n35 : ir35.n = 41 := rfl
@[go_sem] theorem r35 : ir35.res = [.cell 4 3 true, .tmp 5] := rfl
@[go_sem] theorem b35 : ir35.body = bd35 := rfl
/-- spence/spenceref17.GetPiece -/
def bd36 : C :=
 (.seq (.reg [⟨some 2, none, .alloc 89 [.int .i64 0, .int .i64 0, .int .i64 0, .nils], .cells [(3, 1, false)]⟩,
 ⟨some 3, none, .mv (.c (.d (.bool false))), .none⟩])
 (.seq (.seq (.reg [⟨some 5, none, .mv (.s 0), .none⟩,
 ⟨some 6, none, .len (.s 5), .none⟩,
 ⟨some 7, none, .bin .lss (.s 6) (.c (.d (.int .i64 7))), .none⟩])
 (.cond (.s 7)
 (.seq (.reg [⟨some 8, none, .build [.int .i64 0, .int .i64 0, .int .i64 0, .nils] [], .cells [(3, 1, false)]⟩,
 ⟨none, none, .st (.s 2) (.s 8) 4, .none⟩,
 ⟨some 3, none, .mv (.c (.d (.bool false))), .none⟩])
 (.ret none))
 .skip))
 (.seq (.drr [⟨some 9, none, .mv (.s 0), .none⟩,
 ⟨some 10, none, .is (.s 9) (.c (.d (.int .i64 0))) 1, .none⟩,
 ⟨some 11, none, .ld (.s 10) 1 false, .none⟩,
 ⟨some 12, none, .cvi .i64 (.s 11), .none⟩,
 ⟨some 13, none, .mv (.s 0), .none⟩,
 ⟨some 14, none, .sl (.s 13) (some (.c (.d (.int .i64 1)))) (some (.c (.d (.int .i64 5)))) none 1, .none⟩,
 ⟨some 15, none, .call 59 [.s 14] 2, .none⟩,
 ⟨some 16, none, .mv (.s 0), .none⟩,
 ⟨some 17, none, .sl (.s 16) (some (.c (.d (.int .i64 5)))) (some (.c (.d (.int .i64 7)))) none 1, .none⟩,
 ⟨some 18, none, .call 59 [.s 17] 2, .none⟩,
 ⟨some 19, none, .mv (.s 0), .none⟩,
 ⟨some 20, none, .sl (.s 19) (some (.c (.d (.int .i64 7)))) none none 1, .none⟩,
 ⟨some 21, none, .app 5 1 1 (.c (.d .nils)) (.s 20), .none⟩,
 ⟨some 22, none, .build [.int .i64 0, .int .i64 0, .int .i64 0, .nils] [(0, (1, .s 12)), (1, (1, .s 15)), (2, (1, .s 18)), (3, (1, .s 21))], .cells [(3, 1, false)]⟩,
 ⟨some 4, none, .alloc 89 [.int .i64 0, .int .i64 0, .int .i64 0, .nils], .res [(3, 1, false)]⟩,
 ⟨none, none, .st (.s 4) (.s 22) 4, .none⟩]
 [[], [0], [1], [2], [], [4], [5], [], [7], [8, 6], [], [10], [11, 9], [3, 6, 9, 12], [], [14, 13, 12, 0, 1, 2, 3, 4, 5, 6, 7, 8, 9, 10, 11, 12, 13, 14]] [] [10] [20])
 (.seq (.seq (.reg [⟨some 23, none, .ld (.s 4) 4 true, .none⟩,
 ⟨some 24, none, .call 60 [.s 23] 2, .none⟩,
 ⟨some 25, none, .un .not (.s 24), .none⟩])
 (.cond (.s 25)
 (.seq (.reg [⟨some 26, none, .build [.int .i64 0, .int .i64 0, .int .i64 0, .nils] [], .cells [(3, 1, false)]⟩,
 ⟨none, none, .st (.s 2) (.s 26) 4, .none⟩,
 ⟨some 3, none, .mv (.c (.d (.bool false))), .none⟩])
 (.ret none))
 .skip))
 (.seq (.reg [⟨some 27, none, .ld (.s 4) 4 true, .none⟩,
 ⟨none, none, .st (.s 2) (.s 27) 4, .none⟩,
 ⟨some 3, none, .mv (.c (.d (.bool true))), .none⟩])
 (.ret none))))))
def ir36 : F := { n := 28, res := [.cell 2 4 true, .tmp 3], body := bd36 }
@[go_sem] theorem n36 : ir36.n = 28 := rfl
@[go_sem] theorem r36 : ir36.res = [.cell 2 4 true, .tmp 3] := rfl
@[go_sem] theorem b36 : ir36.body = bd36 := rfl
/-- spence/spenceref17.GetBind -/
def bd37 : C :=
 (.seq (.reg [⟨some 2, none, .alloc 32 [.int .i64 0, .int .i64 0, .str [], .int .i64 0, .int .i64 0], .none⟩,
 ⟨some 3, none, .mv (.c (.d (.bool false))), .none⟩])
 (.seq (.seq (.reg [⟨some 5, none, .mv (.s 0), .none⟩,
 ⟨some 6, none, .len (.s 5), .none⟩,
 ⟨some 7, none, .bin .lss (.s 6) (.c (.d (.int .i64 15))), .none⟩])
 (.cond (.s 7)
 (.seq (.reg [⟨some 8, none, .build [.int .i64 0, .int .i64 0, .str [], .int .i64 0, .int .i64 0] [], .none⟩,
 ⟨none, none, .st (.s 2) (.s 8) 5, .none⟩,
 ⟨some 3, none, .mv (.c (.d (.bool false))), .none⟩])
 (.ret none))
 .skip))
 (.seq (.drr [⟨some 9, none, .mv (.s 0), .none⟩,
 ⟨some 10, none, .is (.s 9) (.c (.d (.int .i64 0))) 1, .none⟩,
 ⟨some 11, none, .ld (.s 10) 1 false, .none⟩,
 ⟨some 12, none, .cvi .i64 (.s 11), .none⟩,
 ⟨some 13, none, .mv (.s 0), .none⟩,
 ⟨some 14, none, .sl (.s 13) (some (.c (.d (.int .i64 1)))) (some (.c (.d (.int .i64 5)))) none 1, .none⟩,
 ⟨some 15, none, .call 59 [.s 14] 2, .none⟩,
 ⟨some 16, none, .mv (.s 0), .none⟩,
 ⟨some 17, none, .sl (.s 16) (some (.c (.d (.int .i64 5)))) (some (.c (.d (.int .i64 7)))) none 1, .none⟩,
 ⟨some 18, none, .call 59 [.s 17] 2, .none⟩,
 ⟨some 19, none, .mv (.s 0), .none⟩,
 ⟨some 20, none, .sl (.s 19) (some (.c (.d (.int .i64 7)))) (some (.c (.d (.int .i64 15)))) none 1, .none⟩,
 ⟨some 21, none, .call 59 [.s 20] 2, .none⟩,
 ⟨some 22, none, .mv (.s 0), .none⟩,
 ⟨some 23, none, .sl (.s 22) (some (.c (.d (.int .i64 15)))) none none 1, .none⟩,
 ⟨some 24, none, .b2s (.s 23), .none⟩,
 ⟨some 25, none, .build [.int .i64 0, .int .i64 0, .str [], .int .i64 0, .int .i64 0] [(0, (1, .s 12)), (1, (1, .s 15)), (3, (1, .s 18)), (4, (1, .s 21)), (2, (1, .s 24))], .none⟩,
 ⟨some 4, none, .alloc 32 [.int .i64 0, .int .i64 0, .str [], .int .i64 0, .int .i64 0], .res []⟩,
 ⟨none, none, .st (.s 4) (.s 25) 5, .none⟩]
 [[], [0], [1], [2], [], [4], [5], [], [7], [8, 6], [], [10], [11, 9], [], [13], [14], [3, 6, 9, 12, 15], [], [17, 16, 12, 0, 1, 2, 3, 4, 5, 6, 7, 8, 9, 10, 11, 12, 13, 14, 15, 16, 17]] [] [] [])
 (.seq (.seq (.reg [⟨some 26, none, .ld (.s 4) 5 true, .none⟩,
 ⟨some 27, none, .call 61 [.s 26] 2, .none⟩,
 ⟨some 28, none, .un .not (.s 27), .none⟩])
 (.cond (.s 28)
 (.seq (.reg [⟨some 29, none, .build [.int .i64 0, .int .i64 0, .str [], .int .i64 0, .int .i64 0] [], .none⟩,
 ⟨none, none, .st (.s 2) (.s 29) 5, .none⟩,
 ⟨some 3, none, .mv (.c (.d (.bool false))), .none⟩])
 (.ret none))
 .skip))
 (.seq (.reg [⟨some 30, none, .ld (.s 4) 5 true, .none⟩,
 ⟨none, none, .st (.s 2) (.s 30) 5, .none⟩,
 ⟨some 3, none, .mv (.c (.d (.bool true))), .none⟩])
 (.ret none))))))
def ir37 : F := { n := 31, res := [.cell 2 5 true, .tmp 3], body := bd37 }
@[go_sem] theorem n37 : ir37.n = 31 := rfl
@[go_sem] theorem r37 : ir37.res = [.cell 2 5 true, .tmp 3] := rfl
@[go_sem] theorem b37 : ir37.body = bd37 := rfl
/-- spence/spenceref17.GetDrop -/
def bd38 : C :=
 (.seq (.reg [⟨some 4, none, .alloc 56 [.int .i64 0, .int .i64 0, .bool false], .none⟩,
 ⟨some 5, none, .mv (.c (.d (.bool false))), .none⟩])
 (.seq (.seq (.reg [⟨some 7, none, .mv (.s 1), .none⟩,
 ⟨some 8, none, .len (.s 7), .none⟩,
 ⟨some 9, none, .bin .neq (.s 8) (.c (.d (.int .i64 5))), .none⟩])
 (.cond (.s 9)
 (.seq (.reg [⟨some 10, none, .build [.int .i64 0, .int .i64 0, .bool false] [], .none⟩,
 ⟨none, none, .st (.s 4) (.s 10) 3, .none⟩,
 ⟨some 5, none, .mv (.c (.d (.bool false))), .none⟩])
 (.ret none))
 .skip))
 (.seq (.drr [⟨some 11, none, .mv (.s 1), .none⟩,
 ⟨some 12, none, .is (.s 11) (.c (.d (.int .i64 0))) 1, .none⟩,
 ⟨some 13, none, .ld (.s 12) 1 false, .none⟩,
 ⟨some 14, none, .cvi .i64 (.s 13), .none⟩,
 ⟨some 15, none, .mv (.s 1), .none⟩,
 ⟨some 16, none, .sl (.s 15) (some (.c (.d (.int .i64 1)))) (some (.c (.d (.int .i64 5)))) none 1, .none⟩,
 ⟨some 17, none, .call 59 [.s 16] 2, .none⟩,
 ⟨some 18, none, .mv (.s 0), .none⟩,
 ⟨some 19, none, .bin .eql (.s 18) (.c (.d (.int .u8 5))), .none⟩,
 ⟨some 20, none, .build [.int .i64 0, .int .i64 0, .bool false] [(0, (1, .s 14)), (1, (1, .s 17)), (2, (1, .s 19))], .none⟩,
 ⟨some 6, none, .alloc 56 [.int .i64 0, .int .i64 0, .bool false], .res []⟩,
 ⟨none, none, .st (.s 6) (.s 20) 3, .none⟩]
 [[], [0], [1], [2], [], [4], [5], [], [7], [3, 6, 8], [], [10, 9, 6, 0, 1, 2, 3, 4, 5, 6, 7, 8, 9, 10]] [] [] [])
 (.seq (.seq (.reg [⟨some 21, none, .ld (.s 6) 3 true, .none⟩,
 ⟨some 22, none, .call 62 [.s 21] 2, .none⟩,
 ⟨some 23, none, .un .not (.s 22), .none⟩])
 (.cond (.s 23)
 (.seq (.reg [⟨some 24, none, .build [.int .i64 0, .int .i64 0, .bool false] [], .none⟩,
 ⟨none, none, .st (.s 4) (.s 24) 3, .none⟩,
 ⟨some 5, none, .mv (.c (.d (.bool false))), .none⟩])
 (.ret none))
 .skip))
 (.seq (.reg [⟨some 25, none, .ld (.s 6) 3 true, .none⟩,
 ⟨none, none, .st (.s 4) (.s 25) 3, .none⟩,
 ⟨some 5, none, .mv (.c (.d (.bool true))), .none⟩])
 (.ret none))))))
def ir38 : F := { n := 26, res := [.cell 4 3 true, .tmp 5], body := bd38 }
@[go_sem] theorem n38 : ir38.n = 26 := rfl
@[go_sem] theorem r38 : ir38.res = [.cell 4 3 true, .tmp 5] := rfl
@[go_sem] theorem b38 : ir38.body = bd38 := rfl
/-- (spence/index.Index).Bound -/
def bd39 : C :=
 (.seq (.reg [⟨some 3, none, .box 38 (.s 0), .none⟩,
 ⟨some 4, none, .box 32 (.s 1), .none⟩,
 ⟨some 5, none, .box 24 (.s 2), .none⟩,
 ⟨some 6, none, .alloc 38 [.bool false, .int .i64 0, .int .i64 0, .str [], .int .i64 0, .int .i64 0, .int .i64 0, .int .i64 0, .nilm, .int .i64 0, .int .i64 0, .int .i64 0, .bool false, .int .i64 0, .int .i64 0, .str [], .int .i64 0, .int .i64 0, .int .i64 0, .int .i64 0, .nilm, .int .i64 0, .int .i64 0, .int .i64 0, .bool false, .int .i64 0, .int .i64 0, .str [], .int .i64 0, .int .i64 0, .int .i64 0, .int .i64 0, .nilm, .int .i64 0, .int .i64 0, .int .i64 0, .bool false, .int .i64 0, .int .i64 0, .str [], .int .i64 0, .int .i64 0, .int .i64 0, .int .i64 0, .nilm, .int .i64 0, .int .i64 0, .int .i64 0, .bool false, .int .i64 0, .int .i64 0, .str [], .int .i64 0, .int .i64 0, .int .i64 0, .int .i64 0, .nilm, .int .i64 0, .int .i64 0, .int .i64 0, .bool false, .int .i64 0, .int .i64 0, .str [], .int .i64 0, .int .i64 0, .int .i64 0, .int .i64 0, .nilm, .int .i64 0, .int .i64 0, .int .i64 0, .bool false, .int .i64 0, .int .i64 0, .str [], .int .i64 0, .int .i64 0, .int .i64 0, .int .i64 0, .nilm, .int .i64 0, .int .i64 0, .int .i64 0, .bool false, .int .i64 0, .int .i64 0, .str [], .int .i64 0, .int .i64 0, .int .i64 0, .int .i64 0, .nilm, .int .i64 0, .int .i64 0, .int .i64 0, .bool false, .int .i64 0, .int .i64 0, .str [], .int .i64 0, .int .i64 0, .int .i64 0, .int .i64 0, .nilm, .int .i64 0, .int .i64 0, .int .i64 0, .bool false, .int .i64 0, .int .i64 0, .str [], .int .i64 0, .int .i64 0, .int .i64 0, .int .i64 0, .nilm, .int .i64 0, .int .i64 0, .int .i64 0, .bool false, .int .i64 0, .int .i64 0, .str [], .int .i64 0, .int .i64 0, .int .i64 0, .int .i64 0, .nilm, .int .i64 0, .int .i64 0, .int .i64 0, .bool false, .int .i64 0, .int .i64 0, .str [], .int .i64 0, .int .i64 0, .int .i64 0, .int .i64 0, .nilm, .int .i64 0, .int .i64 0, .int .i64 0, .bool false, .int .i64 0, .int .i64 0, .str [], .int .i64 0, .int .i64 0, .int .i64 0, .int .i64 0, .nilm, .int .i64 0, .int .i64 0, .int .i64 0, .bool false, .int .i64 0, .int .i64 0, .str [], .int .i64 0, .int .i64 0, .int .i64 0, .int .i64 0, .nilm, .int .i64 0, .int .i64 0, .int .i64 0, .bool false, .int .i64 0, .int .i64 0, .str [], .int .i64 0, .int .i64 0, .int .i64 0, .int .i64 0, .nilm, .int .i64 0, .int .i64 0, .int .i64 0, .bool false, .int .i64 0, .int .i64 0, .str [], .int .i64 0, .int .i64 0, .int .i64 0, .int .i64 0, .nilm, .int .i64 0, .int .i64 0, .int .i64 0], .none⟩])
 (.seq (.reg [⟨some 7, none, .ld (.s 3) 192 true, .none⟩,
 ⟨some 8, none, .fa (.s 4) 0, .none⟩,
 ⟨some 9, none, .ld (.s 8) 1 false, .none⟩,
 ⟨some 10, none, .fn (.func 64) [] [.s 4, .s 5], .none⟩,
 ⟨some 11, none, .call 63 [.s 7, .s 9, .s 10] 0, .none⟩,
 ⟨none, none, .st (.s 6) (.s 11) 192, .none⟩])
 (.ret none)))
def ir39 : F := { n := 12, res := [.cell 6 192 true], body := bd39 }
@[go_sem] theorem n39 : ir39.n = 12 := rfl
@[go_sem] theorem r39 : ir39.res = [.cell 6 192 true] := rfl
@[go_sem] theorem b39 : ir39.body = bd39 := rfl
/-- (spence/index.Index).Piece -/
def bd40 : C :=
 (.seq (.reg [⟨some 5, none, .box 38 (.s 0), .none⟩,
 ⟨some 7, none, .box 3 (.s 2), .none⟩,
 ⟨some 8, none, .box 3 (.s 3), .none⟩,
 ⟨some 9, none, .box 24 (.s 4), .none⟩,
 ⟨some 10, none, .alloc 38 [.bool false, .int .i64 0, .int .i64 0, .str [], .int .i64 0, .int .i64 0, .int .i64 0, .int .i64 0, .nilm, .int .i64 0, .int .i64 0, .int .i64 0, .bool false, .int .i64 0, .int .i64 0, .str [], .int .i64 0, .int .i64 0, .int .i64 0, .int .i64 0, .nilm, .int .i64 0, .int .i64 0, .int .i64 0, .bool false, .int .i64 0, .int .i64 0, .str [], .int .i64 0, .int .i64 0, .int .i64 0, .int .i64 0, .nilm, .int .i64 0, .int .i64 0, .int .i64 0, .bool false, .int .i64 0, .int .i64 0, .str [], .int .i64 0, .int .i64 0, .int .i64 0, .int .i64 0, .nilm, .int .i64 0, .int .i64 0, .int .i64 0, .bool false, .int .i64 0, .int .i64 0, .str [], .int .i64 0, .int .i64 0, .int .i64 0, .int .i64 0, .nilm, .int .i64 0, .int .i64 0, .int .i64 0, .bool false, .int .i64 0, .int .i64 0, .str [], .int .i64 0, .int .i64 0, .int .i64 0, .int .i64 0, .nilm, .int .i64 0, .int .i64 0, .int .i64 0, .bool false, .int .i64 0, .int .i64 0, .str [], .int .i64 0, .int .i64 0, .int .i64 0, .int .i64 0, .nilm, .int .i64 0, .int .i64 0, .int .i64 0, .bool false, .int .i64 0, .int .i64 0, .str [], .int .i64 0, .int .i64 0, .int .i64 0, .int .i64 0, .nilm, .int .i64 0, .int .i64 0, .int .i64 0, .bool false, .int .i64 0, .int .i64 0, .str [], .int .i64 0, .int .i64 0, .int .i64 0, .int .i64 0, .nilm, .int .i64 0, .int .i64 0, .int .i64 0, .bool false, .int .i64 0, .int .i64 0, .str [], .int .i64 0, .int .i64 0, .int .i64 0, .int .i64 0, .nilm, .int .i64 0, .int .i64 0, .int .i64 0, .bool false, .int .i64 0, .int .i64 0, .str [], .int .i64 0, .int .i64 0, .int .i64 0, .int .i64 0, .nilm, .int .i64 0, .int .i64 0, .int .i64 0, .bool false, .int .i64 0, .int .i64 0, .str [], .int .i64 0, .int .i64 0, .int .i64 0, .int .i64 0, .nilm, .int .i64 0, .int .i64 0, .int .i64 0, .bool false, .int .i64 0, .int .i64 0, .str [], .int .i64 0, .int .i64 0, .int .i64 0, .int .i64 0, .nilm, .int .i64 0, .int .i64 0, .int .i64 0, .bool false, .int .i64 0, .int .i64 0, .str [], .int .i64 0, .int .i64 0, .int .i64 0, .int .i64 0, .nilm, .int .i64 0, .int .i64 0, .int .i64 0, .bool false, .int .i64 0, .int .i64 0, .str [], .int .i64 0, .int .i64 0, .int .i64 0, .int .i64 0, .nilm, .int .i64 0, .int .i64 0, .int .i64 0, .bool false, .int .i64 0, .int .i64 0, .str [], .int .i64 0, .int .i64 0, .int .i64 0, .int .i64 0, .nilm, .int .i64 0, .int .i64 0, .int .i64 0], .none⟩])
 (.seq (.reg [⟨some 11, none, .ld (.s 5) 192 true, .none⟩,
 ⟨some 12, none, .mv (.s 1), .none⟩,
 ⟨some 13, none, .fn (.func 65) [] [.s 7, .s 8, .s 9], .none⟩,
 ⟨some 14, none, .call 63 [.s 11, .s 12, .s 13] 0, .none⟩,
 ⟨none, none, .st (.s 10) (.s 14) 192, .none⟩])
 (.ret none)))
def ir40 : F := { n := 15, res := [.cell 10 192 true], body := bd40 }
@[go_sem] theorem n40 : ir40.n = 15 := rfl
@[go_sem] theorem r40 : ir40.res = [.cell 10 192 true] := rfl
@[go_sem] theorem b40 : ir40.body = bd40 := rfl
/-- (spence/index.Index).Forget -/
def bd41 : C :=
 (.seq (.reg [⟨some 4, none, .box 38 (.s 0), .none⟩,
 ⟨some 6, none, .box 3 (.s 2), .none⟩,
 ⟨some 7, none, .box 24 (.s 3), .none⟩,
 ⟨some 8, none, .alloc 38 [.bool false, .int .i64 0, .int .i64 0, .str [], .int .i64 0, .int .i64 0, .int .i64 0, .int .i64 0, .nilm, .int .i64 0, .int .i64 0, .int .i64 0, .bool false, .int .i64 0, .int .i64 0, .str [], .int .i64 0, .int .i64 0, .int .i64 0, .int .i64 0, .nilm, .int .i64 0, .int .i64 0, .int .i64 0, .bool false, .int .i64 0, .int .i64 0, .str [], .int .i64 0, .int .i64 0, .int .i64 0, .int .i64 0, .nilm, .int .i64 0, .int .i64 0, .int .i64 0, .bool false, .int .i64 0, .int .i64 0, .str [], .int .i64 0, .int .i64 0, .int .i64 0, .int .i64 0, .nilm, .int .i64 0, .int .i64 0, .int .i64 0, .bool false, .int .i64 0, .int .i64 0, .str [], .int .i64 0, .int .i64 0, .int .i64 0, .int .i64 0, .nilm, .int .i64 0, .int .i64 0, .int .i64 0, .bool false, .int .i64 0, .int .i64 0, .str [], .int .i64 0, .int .i64 0, .int .i64 0, .int .i64 0, .nilm, .int .i64 0, .int .i64 0, .int .i64 0, .bool false, .int .i64 0, .int .i64 0, .str [], .int .i64 0, .int .i64 0, .int .i64 0, .int .i64 0, .nilm, .int .i64 0, .int .i64 0, .int .i64 0, .bool false, .int .i64 0, .int .i64 0, .str [], .int .i64 0, .int .i64 0, .int .i64 0, .int .i64 0, .nilm, .int .i64 0, .int .i64 0, .int .i64 0, .bool false, .int .i64 0, .int .i64 0, .str [], .int .i64 0, .int .i64 0, .int .i64 0, .int .i64 0, .nilm, .int .i64 0, .int .i64 0, .int .i64 0, .bool false, .int .i64 0, .int .i64 0, .str [], .int .i64 0, .int .i64 0, .int .i64 0, .int .i64 0, .nilm, .int .i64 0, .int .i64 0, .int .i64 0, .bool false, .int .i64 0, .int .i64 0, .str [], .int .i64 0, .int .i64 0, .int .i64 0, .int .i64 0, .nilm, .int .i64 0, .int .i64 0, .int .i64 0, .bool false, .int .i64 0, .int .i64 0, .str [], .int .i64 0, .int .i64 0, .int .i64 0, .int .i64 0, .nilm, .int .i64 0, .int .i64 0, .int .i64 0, .bool false, .int .i64 0, .int .i64 0, .str [], .int .i64 0, .int .i64 0, .int .i64 0, .int .i64 0, .nilm, .int .i64 0, .int .i64 0, .int .i64 0, .bool false, .int .i64 0, .int .i64 0, .str [], .int .i64 0, .int .i64 0, .int .i64 0, .int .i64 0, .nilm, .int .i64 0, .int .i64 0, .int .i64 0, .bool false, .int .i64 0, .int .i64 0, .str [], .int .i64 0, .int .i64 0, .int .i64 0, .int .i64 0, .nilm, .int .i64 0, .int .i64 0, .int .i64 0, .bool false, .int .i64 0, .int .i64 0, .str [], .int .i64 0, .int .i64 0, .int .i64 0, .int .i64 0, .nilm, .int .i64 0, .int .i64 0, .int .i64 0], .none⟩])
 (.seq (.reg [⟨some 9, none, .ld (.s 4) 192 true, .none⟩,
 ⟨some 10, none, .mv (.s 1), .none⟩,
 ⟨some 11, none, .fn (.func 67) [] [.s 6, .s 7], .none⟩,
 ⟨some 12, none, .call 63 [.s 9, .s 10, .s 11] 0, .none⟩,
 ⟨none, none, .st (.s 8) (.s 12) 192, .none⟩])
 (.ret none)))
def ir41 : F := { n := 13, res := [.cell 8 192 true], body := bd41 }
@[go_sem] theorem n41 : ir41.n = 13 := rfl
@[go_sem] theorem r41 : ir41.res = [.cell 8 192 true] := rfl
@[go_sem] theorem b41 : ir41.body = bd41 := rfl
/-- (*spence/spenceref17.Index).Bound -/
def bd42 : C :=
 (.seq (.reg [⟨some 4, none, .box 32 (.s 1), .none⟩,
 ⟨some 5, none, .box 24 (.s 2), .none⟩])
 (.seq (.seq (.reg [⟨some 7, none, .fa (.s 4) 0, .none⟩,
 ⟨some 8, none, .ld (.s 7) 1 false, .none⟩,
 ⟨some 9, none, .bin .lss (.s 8) (.c (.d (.int .i64 0))), .none⟩,
 ⟨some 10, none, .mv (.s 9), .none⟩,
 ⟨some 11, some (10, false), .fa (.s 4) 0, .none⟩,
 ⟨some 12, some (10, false), .ld (.s 11) 1 false, .none⟩,
 ⟨some 13, some (10, false), .bin .gtr (.s 12) (.c (.d (.int .i64 15))), .none⟩,
 ⟨some 14, none, .pick (.s 10) (.c (.d (.bool true))) (.s 13), .none⟩])
 (.cond (.s 14)
 (.ret none)
 .skip))
 (.seq (.drr [⟨some 15, none, .mv (.s 0), .none⟩,
 ⟨some 16, none, .fa (.s 4) 0, .none⟩,
 ⟨some 17, none, .ld (.s 16) 1 false, .none⟩,
 ⟨some 18, none, .nc (.s 15), .none⟩,
 ⟨some 19, none, .fa (.s 18) 0, .none⟩,
 ⟨some 20, none, .ia (.s 19) (.s 17) 16 12, .none⟩,
 ⟨some 21, none, .ld (.s 20) 12 true, .none⟩,
 ⟨some 6, none, .alloc 63 [.bool false, .int .i64 0, .int .i64 0, .str [], .int .i64 0, .int .i64 0, .int .i64 0, .int .i64 0, .nils, .int .i64 0, .int .i64 0, .int .i64 0], .res [(8, 3, false)]⟩,
 ⟨none, none, .st (.s 6) (.s 21) 12, .none⟩]
 [[], [], [1], [0], [3], [4, 2], [5], [], [7, 6, 0, 1, 2, 3, 4, 5, 6, 7]] [] [] [])
 (.seq (.seq (.reg [⟨some 22, none, .fa (.s 4) 1, .none⟩,
 ⟨some 23, none, .ld (.s 22) 1 false, .none⟩,
 ⟨some 24, none, .fa (.s 6) 9, .none⟩,
 ⟨some 25, none, .ld (.s 24) 1 false, .none⟩,
 ⟨some 26, none, .bin .leq (.s 23) (.s 25), .none⟩])
 (.cond (.s 26)
 (.ret none)
 .skip))
 (.seq (.seq (.reg [⟨some 27, none, .fa (.s 6) 0, .none⟩,
 ⟨some 28, none, .ld (.s 27) 1 false, .none⟩,
 ⟨some 29, none, .un .not (.s 28), .none⟩,
 ⟨some 30, none, .mv (.s 29), .none⟩,
 ⟨some 31, some (30, false), .fa (.s 4) 1, .none⟩,
 ⟨some 32, some (30, false), .ld (.s 31) 1 false, .none⟩,
 ⟨some 33, some (30, false), .fa (.s 6) 1, .none⟩,
 ⟨some 34, some (30, false), .fa (.s 33) 1, .none⟩,
 ⟨some 35, some (30, false), .ld (.s 34) 1 false, .none⟩,
 ⟨some 36, some (30, false), .bin .gtr (.s 32) (.s 35), .none⟩,
 ⟨some 37, none, .pick (.s 30) (.c (.d (.bool true))) (.s 36), .none⟩])
 (.cond (.s 37)
 (.seq (.drw [⟨some 38, none, .mv (.s 0), .none⟩,
 ⟨some 39, none, .fa (.s 4) 0, .none⟩,
 ⟨some 40, none, .ld (.s 39) 1 false, .none⟩,
 ⟨some 41, none, .ld (.s 4) 5 true, .none⟩,
 ⟨some 42, none, .ld (.s 5) 2 true, .none⟩,
 ⟨some 43, none, .fa (.s 6) 9, .none⟩,
 ⟨some 44, none, .ld (.s 43) 1 false, .none⟩,
 ⟨some 45, none, .fa (.s 6) 10, .none⟩,
 ⟨some 46, none, .ld (.s 45) 2 true, .none⟩,
 ⟨some 47, none, .build [.bool false, .int .i64 0, .int .i64 0, .str [], .int .i64 0, .int .i64 0, .int .i64 0, .int .i64 0, .nils, .int .i64 0, .int .i64 0, .int .i64 0] [(0, (1, .c (.d (.bool true)))), (1, (5, .s 41)), (6, (2, .s 42)), (9, (1, .s 44)), (10, (2, .s 46))], .cells [(8, 3, false)]⟩,
 ⟨some 48, none, .nc (.s 38), .none⟩,
 ⟨some 49, none, .fa (.s 48) 0, .none⟩,
 ⟨some 50, none, .ia (.s 49) (.s 40) 16 12, .none⟩,
 ⟨none, none, .st (.s 50) (.s 47) 12, .none⟩]
 [[], [], [1], [], [], [], [5], [], [7], [3, 4, 6, 8], [0], [10], [11, 2, 0, 1, 2, 3, 4, 5, 6, 7, 8, 9], [12, 9, 0, 1, 2, 3, 4, 5, 6, 7, 8, 9]] [])
 (.ret none))
 .skip))
 (.seq (.reg [⟨some 51, none, .fa (.s 4) 1, .none⟩,
 ⟨some 52, none, .ld (.s 51) 1 false, .none⟩,
 ⟨some 53, none, .fa (.s 6) 1, .none⟩,
 ⟨some 54, none, .fa (.s 53) 1, .none⟩,
 ⟨some 55, none, .ld (.s 54) 1 false, .none⟩,
 ⟨some 56, none, .bin .eql (.s 52) (.s 55), .none⟩,
 ⟨some 57, none, .mv (.s 56), .none⟩,
 ⟨some 58, some (57, true), .fa (.s 4) 2, .none⟩,
 ⟨some 59, some (57, true), .ld (.s 58) 1 false, .none⟩,
 ⟨some 60, some (57, true), .fa (.s 6) 1, .none⟩,
 ⟨some 61, some (57, true), .fa (.s 60) 2, .none⟩,
 ⟨some 62, some (57, true), .ld (.s 61) 1 false, .none⟩,
 ⟨some 63, some (57, true), .bin .eql (.s 59) (.s 62), .none⟩,
 ⟨some 64, none, .pick (.s 57) (.s 63) (.c (.d (.bool false))), .none⟩,
 ⟨some 65, none, .mv (.s 64), .none⟩,
 ⟨some 66, some (65, true), .fa (.s 4) 3, .none⟩,
 ⟨some 67, some (65, true), .ld (.s 66) 1 false, .none⟩,
 ⟨some 68, some (65, true), .fa (.s 6) 1, .none⟩,
 ⟨some 69, some (65, true), .fa (.s 68) 3, .none⟩,
 ⟨some 70, some (65, true), .ld (.s 69) 1 false, .none⟩,
 ⟨some 71, some (65, true), .bin .eql (.s 67) (.s 70), .none⟩,
 ⟨some 72, none, .pick (.s 65) (.s 71) (.c (.d (.bool false))), .none⟩,
 ⟨some 73, none, .mv (.s 72), .none⟩,
 ⟨some 74, some (73, true), .fa (.s 4) 4, .none⟩,
 ⟨some 75, some (73, true), .ld (.s 74) 1 false, .none⟩,
 ⟨some 76, some (73, true), .fa (.s 6) 1, .none⟩,
 ⟨some 77, some (73, true), .fa (.s 76) 4, .none⟩,
 ⟨some 78, some (73, true), .ld (.s 77) 1 false, .none⟩,
 ⟨some 79, some (73, true), .bin .geq (.s 75) (.s 78), .none⟩,
 ⟨some 80, none, .pick (.s 73) (.s 79) (.c (.d (.bool false))), .none⟩])
 (.cond (.s 80)
 (.seq (.drw [⟨some 81, none, .mv (.s 0), .none⟩,
 ⟨some 82, none, .fa (.s 4) 0, .none⟩,
 ⟨some 83, none, .ld (.s 82) 1 false, .none⟩,
 ⟨some 84, none, .fa (.s 4) 4, .none⟩,
 ⟨some 85, none, .ld (.s 84) 1 false, .none⟩,
 ⟨some 86, none, .nc (.s 81), .none⟩,
 ⟨some 87, none, .fa (.s 86) 0, .none⟩,
 ⟨some 88, none, .ia (.s 87) (.s 83) 16 12, .none⟩,
 ⟨some 89, none, .fa (.s 88) 1, .none⟩,
 ⟨some 90, none, .fa (.s 89) 4, .none⟩,
 ⟨none, none, .st (.s 90) (.s 85) 1, .none⟩]
 [[], [], [1], [], [3], [0], [5], [6, 2, 0, 1, 2, 3, 4], [7, 0, 1, 2, 3, 4], [8, 0, 1, 2, 3, 4], [9, 4, 0, 1, 2, 3, 4]] [])
 (.drw [⟨some 91, none, .mv (.s 0), .none⟩,
 ⟨some 92, none, .fa (.s 4) 0, .none⟩,
 ⟨some 93, none, .ld (.s 92) 1 false, .none⟩,
 ⟨some 94, none, .ld (.s 5) 2 true, .none⟩,
 ⟨some 95, none, .nc (.s 91), .none⟩,
 ⟨some 96, none, .fa (.s 95) 0, .none⟩,
 ⟨some 97, none, .ia (.s 96) (.s 93) 16 12, .none⟩,
 ⟨some 98, none, .fa (.s 97) 6, .none⟩,
 ⟨none, none, .st (.s 98) (.s 94) 2, .none⟩]
 [[], [], [1], [], [0], [4], [5, 2, 0, 1, 2, 3], [6, 0, 1, 2, 3], [7, 3, 0, 1, 2, 3]] []))
 .skip)))))))
def ir42 : F := { n := 99, res := [], body := bd42 }
@[go_sem] theorem n42 : ir42.n = 99 := rfl
@[go_sem] theorem r42 : ir42.res = [] := rfl
@[go_sem] theorem b42 : ir42.body = bd42 := rfl
def lb43_0 : C :=
 (.seq (.reg [⟨some 59, none, .bin .lss (.s 58) (.s 57), .none⟩])
 (.seq (.cond (.s 59)
 .skip
 (.exit 0 (some [0, 1, 3, 9, 10, 11])))
 (.seq (.block 1 (.seq (.reg [⟨some 60, none, .is (.s 56) (.s 58) 3, .none⟩,
 ⟨some 61, none, .ld (.s 60) 3 true, .none⟩,
 ⟨some 13, none, .alloc 74 [.int .i64 0, .int .i64 0, .int .i64 0], .none⟩,
 ⟨none, none, .st (.s 13) (.s 61) 3, .none⟩])
 (.seq (.seq (.reg [⟨some 62, none, .fa (.s 13) 0, .none⟩,
 ⟨some 63, none, .ld (.s 62) 1 false, .none⟩,
 ⟨some 64, none, .mv (.s 3), .none⟩,
 ⟨some 65, none, .bin .geq (.s 63) (.s 64), .none⟩,
 ⟨some 66, none, .mv (.s 65), .none⟩,
 ⟨some 67, some (66, true), .mv (.s 11), .none⟩,
 ⟨some 68, some (66, true), .un .not (.s 67), .none⟩,
 ⟨some 69, none, .pick (.s 66) (.s 68) (.c (.d (.bool false))), .none⟩])
 (.cond (.s 69)
 (.seq (.reg [⟨some 70, none, .mv (.s 10), .none⟩,
 ⟨some 71, none, .mv (.s 3), .none⟩,
 ⟨some 72, none, .ld (.s 9) 2 true, .none⟩,
 ⟨some 73, none, .build [.int .i64 0, .int .i64 0, .int .i64 0] [(0, (1, .s 71)), (1, (2, .s 72))], .none⟩,
 ⟨some 74, none, .bsl 74 3 1 [.int .i64 0, .int .i64 0, .int .i64 0] [(0, (3, .s 73))], .none⟩,
 ⟨some 75, none, .app 74 3 24 (.s 70) (.s 74), .none⟩,
 ⟨some 10, none, .mv (.s 75), .none⟩])
 (.reg [⟨some 11, none, .mv (.c (.d (.bool true))), .none⟩]))
 .skip))
 (.ann [0, 1, 3, 9, 10, 11, 13, 56, 57, 58] (.seq (.reg [⟨some 76, none, .fa (.s 13) 0, .none⟩,
 ⟨some 77, none, .ld (.s 76) 1 false, .none⟩,
 ⟨some 78, none, .mv (.s 3), .none⟩,
 ⟨some 79, none, .bin .neq (.s 77) (.s 78), .none⟩])
 (.cond (.s 79)
 (.reg [⟨some 80, none, .mv (.s 10), .none⟩,
 ⟨some 81, none, .ld (.s 13) 3 true, .none⟩,
 ⟨some 82, none, .bsl 74 3 1 [.int .i64 0, .int .i64 0, .int .i64 0] [(0, (3, .s 81))], .none⟩,
 ⟨some 83, none, .app 74 3 24 (.s 80) (.s 82), .none⟩,
 ⟨some 10, none, .mv (.s 83), .none⟩])
 .skip))))))
 (.reg [⟨some 84, none, .bin .add (.s 58) (.c (.d (.int .i64 1))), .none⟩,
 ⟨some 58, none, .mv (.s 84), .none⟩]))))
def lp43_0 : C := lb43_0
theorem u43_0 (c : Ev.Callee) (l : Ev.Looper) (s : St) : evC c l lp43_0 s = evC c l lb43_0 s := rfl
abbrev st43_0 (m : Nat) (s0 s1 s3 s9 s10 s11 s56 s57 s58 : AV) (h : Heap) : St := ⟨m, [s0, s1, .unk, s3, .unk, .unk, .unk, .unk, .unk, s9, s10, s11, .unk, .unk, .unk, .unk, .unk, .unk, .unk, .unk, .unk, .unk, .unk, .unk, .unk, .unk, .unk, .unk, .unk, .unk, .unk, .unk, .unk, .unk, .unk, .unk, .unk, .unk, .unk, .unk, .unk, .unk, .unk, .unk, .unk, .unk, .unk, .unk, .unk, .unk, .unk, .unk, .unk, .unk, .unk, .unk, s56, s57, s58, .unk, .unk, .unk, .unk, .unk, .unk, .unk, .unk, .unk, .unk, .unk, .unk, .unk, .unk, .unk, .unk, .unk, .unk, .unk, .unk, .unk, .unk, .unk, .unk, .unk, .unk, .unk, .unk, .unk, .unk, .unk, .unk, .unk, .unk, .unk, .unk, .unk, .unk, .unk, .unk, .unk], h⟩
@[go_sem] theorem ks43_0 (v0 v1 v2 v3 v4 v5 v6 v7 v8 v9 v10 v11 v12 v13 v14 v15 v16 v17 v18 v19 v20 v21 v22 v23 v24 v25 v26 v27 v28 v29 v30 v31 v32 v33 v34 v35 v36 v37 v38 v39 v40 v41 v42 v43 v44 v45 v46 v47 v48 v49 v50 v51 v52 v53 v54 v55 v56 v57 v58 v59 v60 v61 v62 v63 v64 v65 v66 v67 v68 v69 v70 v71 v72 v73 v74 v75 v76 v77 v78 v79 v80 v81 v82 v83 v84 v85 v86 v87 v88 v89 v90 v91 v92 v93 v94 v95 v96 v97 v98 v99 : AV) : keepS [0, 1, 3, 9, 10, 11, 56, 57, 58] [v0, v1, v2, v3, v4, v5, v6, v7, v8, v9, v10, v11, v12, v13, v14, v15, v16, v17, v18, v19, v20, v21, v22, v23, v24, v25, v26, v27, v28, v29, v30, v31, v32, v33, v34, v35, v36, v37, v38, v39, v40, v41, v42, v43, v44, v45, v46, v47, v48, v49, v50, v51, v52, v53, v54, v55, v56, v57, v58, v59, v60, v61, v62, v63, v64, v65, v66, v67, v68, v69, v70, v71, v72, v73, v74, v75, v76, v77, v78, v79, v80, v81, v82, v83, v84, v85, v86, v87, v88, v89, v90, v91, v92, v93, v94, v95, v96, v97, v98, v99] 0 = [v0, v1, .unk, v3, .unk, .unk, .unk, .unk, .unk, v9, v10, v11, .unk, .unk, .unk, .unk, .unk, .unk, .unk, .unk, .unk, .unk, .unk, .unk, .unk, .unk, .unk, .unk, .unk, .unk, .unk, .unk, .unk, .unk, .unk, .unk, .unk, .unk, .unk, .unk, .unk, .unk, .unk, .unk, .unk, .unk, .unk, .unk, .unk, .unk, .unk, .unk, .unk, .unk, .unk, .unk, v56, v57, v58, .unk, .unk, .unk, .unk, .unk, .unk, .unk, .unk, .unk, .unk, .unk, .unk, .unk, .unk, .unk, .unk, .unk, .unk, .unk, .unk, .unk, .unk, .unk, .unk, .unk, .unk, .unk, .unk, .unk, .unk, .unk, .unk, .unk, .unk, .unk, .unk, .unk, .unk, .unk, .unk, .unk] := rfl
@[go_sem] theorem ks43_1 (v0 v1 v2 v3 v4 v5 v6 v7 v8 v9 v10 v11 v12 v13 v14 v15 v16 v17 v18 v19 v20 v21 v22 v23 v24 v25 v26 v27 v28 v29 v30 v31 v32 v33 v34 v35 v36 v37 v38 v39 v40 v41 v42 v43 v44 v45 v46 v47 v48 v49 v50 v51 v52 v53 v54 v55 v56 v57 v58 v59 v60 v61 v62 v63 v64 v65 v66 v67 v68 v69 v70 v71 v72 v73 v74 v75 v76 v77 v78 v79 v80 v81 v82 v83 v84 v85 v86 v87 v88 v89 v90 v91 v92 v93 v94 v95 v96 v97 v98 v99 : AV) : keepS [0, 1, 3, 9, 10, 11] [v0, v1, v2, v3, v4, v5, v6, v7, v8, v9, v10, v11, v12, v13, v14, v15, v16, v17, v18, v19, v20, v21, v22, v23, v24, v25, v26, v27, v28, v29, v30, v31, v32, v33, v34, v35, v36, v37, v38, v39, v40, v41, v42, v43, v44, v45, v46, v47, v48, v49, v50, v51, v52, v53, v54, v55, v56, v57, v58, v59, v60, v61, v62, v63, v64, v65, v66, v67, v68, v69, v70, v71, v72, v73, v74, v75, v76, v77, v78, v79, v80, v81, v82, v83, v84, v85, v86, v87, v88, v89, v90, v91, v92, v93, v94, v95, v96, v97, v98, v99] 0 = [v0, v1, .unk, v3, .unk, .unk, .unk, .unk, .unk, v9, v10, v11, .unk, .unk, .unk, .unk, .unk, .unk, .unk, .unk, .unk, .unk, .unk, .unk, .unk, .unk, .unk, .unk, .unk, .unk, .unk, .unk, .unk, .unk, .unk, .unk, .unk, .unk, .unk, .unk, .unk, .unk, .unk, .unk, .unk, .unk, .unk, .unk, .unk, .unk, .unk, .unk, .unk, .unk, .unk, .unk, .unk, .unk, .unk, .unk, .unk, .unk, .unk, .unk, .unk, .unk, .unk, .unk, .unk, .unk, .unk, .unk, .unk, .unk, .unk, .unk, .unk, .unk, .unk, .unk, .unk, .unk, .unk, .unk, .unk, .unk, .unk, .unk, .unk, .unk, .unk, .unk, .unk, .unk, .unk, .unk, .unk, .unk, .unk, .unk] := rfl
@[go_sem] theorem ks43_2 (v0 v1 v2 v3 v4 v5 v6 v7 v8 v9 v10 v11 v12 v13 v14 v15 v16 v17 v18 v19 v20 v21 v22 v23 v24 v25 v26 v27 v28 v29 v30 v31 v32 v33 v34 v35 v36 v37 v38 v39 v40 v41 v42 v43 v44 v45 v46 v47 v48 v49 v50 v51 v52 v53 v54 v55 v56 v57 v58 v59 v60 v61 v62 v63 v64 v65 v66 v67 v68 v69 v70 v71 v72 v73 v74 v75 v76 v77 v78 v79 v80 v81 v82 v83 v84 v85 v86 v87 v88 v89 v90 v91 v92 v93 v94 v95 v96 v97 v98 v99 : AV) : keepS [0, 1, 3, 9, 10, 11, 13, 56, 57, 58] [v0, v1, v2, v3, v4, v5, v6, v7, v8, v9, v10, v11, v12, v13, v14, v15, v16, v17, v18, v19, v20, v21, v22, v23, v24, v25, v26, v27, v28, v29, v30, v31, v32, v33, v34, v35, v36, v37, v38, v39, v40, v41, v42, v43, v44, v45, v46, v47, v48, v49, v50, v51, v52, v53, v54, v55, v56, v57, v58, v59, v60, v61, v62, v63, v64, v65, v66, v67, v68, v69, v70, v71, v72, v73, v74, v75, v76, v77, v78, v79, v80, v81, v82, v83, v84, v85, v86, v87, v88, v89, v90, v91, v92, v93, v94, v95, v96, v97, v98, v99] 0 = [v0, v1, .unk, v3, .unk, .unk, .unk, .unk, .unk, v9, v10, v11, .unk, v13, .unk, .unk, .unk, .unk, .unk, .unk, .unk, .unk, .unk, .unk, .unk, .unk, .unk, .unk, .unk, .unk, .unk, .unk, .unk, .unk, .unk, .unk, .unk, .unk, .unk, .unk, .unk, .unk, .unk, .unk, .unk, .unk, .unk, .unk, .unk, .unk, .unk, .unk, .unk, .unk, .unk, .unk, v56, v57, v58, .unk, .unk, .unk, .unk, .unk, .unk, .unk, .unk, .unk, .unk, .unk, .unk, .unk, .unk, .unk, .unk, .unk, .unk, .unk, .unk, .unk, .unk, .unk, .unk, .unk, .unk, .unk, .unk, .unk, .unk, .unk, .unk, .unk, .unk, .unk, .unk, .unk, .unk, .unk, .unk, .unk] := rfl
@[go_sem] theorem ks43_3 (v0 v1 v2 v3 v4 v5 v6 v7 v8 v9 v10 v11 v12 v13 v14 v15 v16 v17 v18 v19 v20 v21 v22 v23 v24 v25 v26 v27 v28 v29 v30 v31 v32 v33 v34 v35 v36 v37 v38 v39 v40 v41 v42 v43 v44 v45 v46 v47 v48 v49 v50 v51 v52 v53 v54 v55 v56 v57 v58 v59 v60 v61 v62 v63 v64 v65 v66 v67 v68 v69 v70 v71 v72 v73 v74 v75 v76 v77 v78 v79 v80 v81 v82 v83 v84 v85 v86 v87 v88 v89 v90 v91 v92 v93 v94 v95 v96 v97 v98 v99 : AV) : keepS [0, 1, 10] [v0, v1, v2, v3, v4, v5, v6, v7, v8, v9, v10, v11, v12, v13, v14, v15, v16, v17, v18, v19, v20, v21, v22, v23, v24, v25, v26, v27, v28, v29, v30, v31, v32, v33, v34, v35, v36, v37, v38, v39, v40, v41, v42, v43, v44, v45, v46, v47, v48, v49, v50, v51, v52, v53, v54, v55, v56, v57, v58, v59, v60, v61, v62, v63, v64, v65, v66, v67, v68, v69, v70, v71, v72, v73, v74, v75, v76, v77, v78, v79, v80, v81, v82, v83, v84, v85, v86, v87, v88, v89, v90, v91, v92, v93, v94, v95, v96, v97, v98, v99] 0 = [v0, v1, .unk, .unk, .unk, .unk, .unk, .unk, .unk, .unk, v10, .unk, .unk, .unk, .unk, .unk, .unk, .unk, .unk, .unk, .unk, .unk, .unk, .unk, .unk, .unk, .unk, .unk, .unk, .unk, .unk, .unk, .unk, .unk, .unk, .unk, .unk, .unk, .unk, .unk, .unk, .unk, .unk, .unk, .unk, .unk, .unk, .unk, .unk, .unk, .unk, .unk, .unk, .unk, .unk, .unk, .unk, .unk, .unk, .unk, .unk, .unk, .unk, .unk, .unk, .unk, .unk, .unk, .unk, .unk, .unk, .unk, .unk, .unk, .unk, .unk, .unk, .unk, .unk, .unk, .unk, .unk, .unk, .unk, .unk, .unk, .unk, .unk, .unk, .unk, .unk, .unk, .unk, .unk, .unk, .unk, .unk, .unk, .unk, .unk] := rfl
/-- (*spence/spenceref17.Index).Piece -/
def bd43 : C :=
 (.seq (.reg [⟨some 9, none, .box 24 (.s 4), .none⟩])
 (.seq (.seq (.reg [⟨some 14, none, .mv (.s 1), .none⟩,
 ⟨some 15, none, .bin .lss (.s 14) (.c (.d (.int .i64 0))), .none⟩,
 ⟨some 16, none, .mv (.s 15), .none⟩,
 ⟨some 17, some (16, false), .mv (.s 1), .none⟩,
 ⟨some 18, some (16, false), .bin .gtr (.s 17) (.c (.d (.int .i64 15))), .none⟩,
 ⟨some 19, none, .pick (.s 16) (.c (.d (.bool true))) (.s 18), .none⟩,
 ⟨some 20, none, .mv (.s 19), .none⟩,
 ⟨some 21, some (20, false), .mv (.s 0), .none⟩,
 ⟨some 22, some (20, false), .mv (.s 1), .none⟩,
 ⟨some 23, some (20, false), .nc (.s 21), .none⟩,
 ⟨some 24, some (20, false), .fa (.s 23) 0, .none⟩,
 ⟨some 25, some (20, false), .ia (.s 24) (.s 22) 16 12, .none⟩,
 ⟨some 26, some (20, false), .fa (.s 25) 0, .none⟩,
 ⟨some 27, some (20, false), .ld (.s 26) 1 false, .none⟩,
 ⟨some 28, some (20, false), .un .not (.s 27), .none⟩,
 ⟨some 29, none, .pick (.s 20) (.c (.d (.bool true))) (.s 28), .none⟩,
 ⟨some 30, none, .mv (.s 29), .none⟩,
 ⟨some 31, some (30, false), .mv (.s 0), .none⟩,
 ⟨some 32, some (30, false), .mv (.s 1), .none⟩,
 ⟨some 33, some (30, false), .nc (.s 31), .none⟩,
 ⟨some 34, some (30, false), .fa (.s 33) 0, .none⟩,
 ⟨some 35, some (30, false), .ia (.s 34) (.s 32) 16 12, .none⟩,
 ⟨some 36, some (30, false), .fa (.s 35) 1, .none⟩,
 ⟨some 37, some (30, false), .fa (.s 36) 1, .none⟩,
 ⟨some 38, some (30, false), .ld (.s 37) 1 false, .none⟩,
 ⟨some 39, some (30, false), .mv (.s 2), .none⟩,
 ⟨some 40, some (30, false), .bin .neq (.s 38) (.s 39), .none⟩,
 ⟨some 41, none, .pick (.s 30) (.c (.d (.bool true))) (.s 40), .none⟩,
 ⟨some 42, none, .mv (.s 41), .none⟩,
 ⟨some 43, some (42, false), .mv (.s 3), .none⟩,
 ⟨some 44, some (42, false), .bin .lss (.s 43) (.c (.d (.int .i64 0))), .none⟩,
 ⟨some 45, none, .pick (.s 42) (.c (.d (.bool true))) (.s 44), .none⟩,
 ⟨some 46, none, .mv (.s 45), .none⟩,
 ⟨some 47, some (46, false), .mv (.s 3), .none⟩,
 ⟨some 48, some (46, false), .bin .gtr (.s 47) (.c (.d (.int .i64 4096))), .none⟩,
 ⟨some 49, none, .pick (.s 46) (.c (.d (.bool true))) (.s 48), .none⟩])
 (.cond (.s 49)
 (.ret none)
 .skip))
 (.seq (.reg [⟨some 10, none, .mv (.c (.d .nils)), .one 3 true⟩])
 (.seq (.reg [⟨some 11, none, .mv (.c (.d (.bool false))), .none⟩])
 (.seq (.seq (.reg [⟨some 50, none, .mv (.s 0), .none⟩,
 ⟨some 51, none, .mv (.s 1), .none⟩,
 ⟨some 52, none, .nc (.s 50), .none⟩,
 ⟨some 53, none, .fa (.s 52) 0, .none⟩,
 ⟨some 54, none, .ia (.s 53) (.s 51) 16 12, .none⟩,
 ⟨some 55, none, .fa (.s 54) 8, .none⟩,
 ⟨some 56, none, .ld (.s 55) 1 false, .none⟩,
 ⟨some 57, none, .len (.s 56), .none⟩,
 ⟨some 58, none, .mv (.c (.d (.int .i64 0))), .none⟩])
 (.block 0 (.loop [0, 1, 3, 9, 10, 11, 56, 57, 58] lp43_0)))
 (.seq (.seq (.reg [⟨some 85, none, .mv (.s 11), .none⟩,
 ⟨some 86, none, .un .not (.s 85), .none⟩])
 (.cond (.s 86)
 (.reg [⟨some 87, none, .mv (.s 10), .none⟩,
 ⟨some 88, none, .mv (.s 3), .none⟩,
 ⟨some 89, none, .ld (.s 9) 2 true, .none⟩,
 ⟨some 90, none, .build [.int .i64 0, .int .i64 0, .int .i64 0] [(0, (1, .s 88)), (1, (2, .s 89))], .none⟩,
 ⟨some 91, none, .bsl 74 3 1 [.int .i64 0, .int .i64 0, .int .i64 0] [(0, (3, .s 90))], .none⟩,
 ⟨some 92, none, .app 74 3 24 (.s 87) (.s 91), .none⟩,
 ⟨some 10, none, .mv (.s 92), .none⟩])
 .skip))
 (.ann [0, 1, 10] (.reg [⟨some 93, none, .mv (.s 0), .none⟩,
 ⟨some 94, none, .mv (.s 1), .none⟩,
 ⟨some 95, none, .mv (.s 10), .frz⟩,
 ⟨some 96, none, .nc (.s 93), .none⟩,
 ⟨some 97, none, .fa (.s 96) 0, .none⟩,
 ⟨some 98, none, .ia (.s 97) (.s 94) 16 12, .none⟩,
 ⟨some 99, none, .fa (.s 98) 8, .none⟩,
 ⟨none, none, .st (.s 99) (.s 95) 1, .none⟩]))))))))
def ir43 : F := { n := 100, res := [], body := bd43 }
@[go_sem] theorem n43 : ir43.n = 100 := rfl
@[go_sem] theorem r43 : ir43.res = [] := rfl
@[go_sem] theorem b43 : ir43.body = bd43 := rfl
@[go_sem] theorem ks44_0 (v0 v1 v2 v3 v4 v5 v6 v7 v8 v9 v10 v11 v12 v13 v14 v15 v16 v17 v18 v19 v20 v21 v22 v23 v24 v25 v26 v27 v28 v29 v30 v31 v32 v33 v34 v35 v36 v37 v38 v39 v40 v41 v42 v43 v44 v45 v46 v47 v48 v49 v50 v51 v52 : AV) : keepS [0, 1, 2, 8] [v0, v1, v2, v3, v4, v5, v6, v7, v8, v9, v10, v11, v12, v13, v14, v15, v16, v17, v18, v19, v20, v21, v22, v23, v24, v25, v26, v27, v28, v29, v30, v31, v32, v33, v34, v35, v36, v37, v38, v39, v40, v41, v42, v43, v44, v45, v46, v47, v48, v49, v50, v51, v52] 0 = [v0, v1, v2, .unk, .unk, .unk, .unk, .unk, v8, .unk, .unk, .unk, .unk, .unk, .unk, .unk, .unk, .unk, .unk, .unk, .unk, .unk, .unk, .unk, .unk, .unk, .unk, .unk, .unk, .unk, .unk, .unk, .unk, .unk, .unk, .unk, .unk, .unk, .unk, .unk, .unk, .unk, .unk, .unk, .unk, .unk, .unk, .unk, .unk, .unk, .unk, .unk, .unk] := rfl
@[go_sem] theorem ks44_1 (v0 v1 v2 v3 v4 v5 v6 v7 v8 v9 v10 v11 v12 v13 v14 v15 v16 v17 v18 v19 v20 v21 v22 v23 v24 v25 v26 v27 v28 v29 v30 v31 v32 v33 v34 v35 v36 v37 v38 v39 v40 v41 v42 v43 v44 v45 v46 v47 v48 v49 v50 v51 v52 : AV) : keepS [0, 1, 8] [v0, v1, v2, v3, v4, v5, v6, v7, v8, v9, v10, v11, v12, v13, v14, v15, v16, v17, v18, v19, v20, v21, v22, v23, v24, v25, v26, v27, v28, v29, v30, v31, v32, v33, v34, v35, v36, v37, v38, v39, v40, v41, v42, v43, v44, v45, v46, v47, v48, v49, v50, v51, v52] 0 = [v0, v1, .unk, .unk, .unk, .unk, .unk, .unk, v8, .unk, .unk, .unk, .unk, .unk, .unk, .unk, .unk, .unk, .unk, .unk, .unk, .unk, .unk, .unk, .unk, .unk, .unk, .unk, .unk, .unk, .unk, .unk, .unk, .unk, .unk, .unk, .unk, .unk, .unk, .unk, .unk, .unk, .unk, .unk, .unk, .unk, .unk, .unk, .unk, .unk, .unk, .unk, .unk] := rfl
/-- (*spence/spenceref17.Index).Forget -/
def bd44 : C :=
 (.seq (.reg [⟨some 7, none, .box 24 (.s 3), .none⟩])
 (.seq (.seq (.reg [⟨some 9, none, .mv (.s 1), .none⟩,
 ⟨some 10, none, .bin .lss (.s 9) (.c (.d (.int .i64 0))), .none⟩,
 ⟨some 11, none, .mv (.s 10), .none⟩,
 ⟨some 12, some (11, false), .mv (.s 1), .none⟩,
 ⟨some 13, some (11, false), .bin .gtr (.s 12) (.c (.d (.int .i64 15))), .none⟩,
 ⟨some 14, none, .pick (.s 11) (.c (.d (.bool true))) (.s 13), .none⟩])
 (.cond (.s 14)
 (.ret none)
 .skip))
 (.seq (.reg [⟨some 15, none, .mv (.s 0), .none⟩,
 ⟨some 16, none, .mv (.s 1), .none⟩,
 ⟨some 17, none, .nc (.s 15), .none⟩,
 ⟨some 18, none, .fa (.s 17) 0, .none⟩,
 ⟨some 19, none, .ia (.s 18) (.s 16) 16 12, .none⟩,
 ⟨some 20, none, .ld (.s 19) 12 true, .none⟩,
 ⟨some 8, none, .alloc 63 [.bool false, .int .i64 0, .int .i64 0, .str [], .int .i64 0, .int .i64 0, .int .i64 0, .int .i64 0, .nils, .int .i64 0, .int .i64 0, .int .i64 0], .cells [(8, 3, false)]⟩,
 ⟨none, none, .st (.s 8) (.s 20) 12, .none⟩])
 (.seq (.seq (.reg [⟨some 21, none, .mv (.s 2), .none⟩,
 ⟨some 22, none, .bin .gtr (.s 21) (.c (.d (.int .i64 0))), .none⟩,
 ⟨some 23, none, .mv (.s 22), .none⟩,
 ⟨some 24, some (23, true), .mv (.s 2), .none⟩,
 ⟨some 25, some (23, true), .fa (.s 8) 9, .none⟩,
 ⟨some 26, some (23, true), .ld (.s 25) 1 false, .none⟩,
 ⟨some 27, some (23, true), .bin .geq (.s 24) (.s 26), .none⟩,
 ⟨some 28, none, .pick (.s 23) (.s 27) (.c (.d (.bool false))), .none⟩])
 (.cond (.s 28)
 (.seq (.reg [⟨some 29, none, .mv (.s 2), .none⟩,
 ⟨some 30, none, .fa (.s 8) 9, .none⟩,
 ⟨none, none, .st (.s 30) (.s 29) 1, .none⟩])
 (.reg [⟨some 31, none, .ld (.s 7) 2 true, .none⟩,
 ⟨some 32, none, .fa (.s 8) 10, .none⟩,
 ⟨none, none, .st (.s 32) (.s 31) 2, .none⟩]))
 .skip))
 (.ann [0, 1, 2, 8] (.seq (.seq (.reg [⟨some 33, none, .fa (.s 8) 0, .none⟩,
 ⟨some 34, none, .ld (.s 33) 1 false, .none⟩,
 ⟨some 35, none, .mv (.s 34), .none⟩,
 ⟨some 36, some (35, true), .fa (.s 8) 1, .none⟩,
 ⟨some 37, some (35, true), .fa (.s 36) 1, .none⟩,
 ⟨some 38, some (35, true), .ld (.s 37) 1 false, .none⟩,
 ⟨some 39, some (35, true), .mv (.s 2), .none⟩,
 ⟨some 40, some (35, true), .bin .leq (.s 38) (.s 39), .none⟩,
 ⟨some 41, none, .pick (.s 35) (.s 40) (.c (.d (.bool false))), .none⟩])
 (.cond (.s 41)
 (.reg [⟨some 42, none, .fa (.s 8) 9, .none⟩,
 ⟨some 43, none, .ld (.s 42) 1 false, .none⟩,
 ⟨some 44, none, .fa (.s 8) 10, .none⟩,
 ⟨some 45, none, .ld (.s 44) 2 true, .none⟩,
 ⟨some 46, none, .build [.bool false, .int .i64 0, .int .i64 0, .str [], .int .i64 0, .int .i64 0, .int .i64 0, .int .i64 0, .nils, .int .i64 0, .int .i64 0, .int .i64 0] [(9, (1, .s 43)), (10, (2, .s 45))], .cells [(8, 3, false)]⟩,
 ⟨none, none, .st (.s 8) (.s 46) 12, .none⟩])
 .skip))
 (.ann [0, 1, 8] (.drw [⟨some 47, none, .mv (.s 0), .none⟩,
 ⟨some 48, none, .mv (.s 1), .none⟩,
 ⟨some 49, none, .ld (.s 8) 12 true, .none⟩,
 ⟨some 50, none, .nc (.s 47), .none⟩,
 ⟨some 51, none, .fa (.s 50) 0, .none⟩,
 ⟨some 52, none, .ia (.s 51) (.s 48) 16 12, .none⟩,
 ⟨none, none, .st (.s 52) (.s 49) 12, .none⟩]
 [[], [], [], [0], [3], [4, 1, 0, 1, 2], [5, 2, 0, 1, 2]] []))))))))
def ir44 : F := { n := 53, res := [], body := bd44 }
@[go_sem] theorem n44 : ir44.n = 53 := rfl
@[go_sem] theorem r44 : ir44.res = [] := rfl
@[go_sem] theorem b44 : ir44.body = bd44 := rfl
/-- spence/spenceref11.SameEntry -/
def bd45 : C :=
 (.seq (.reg [⟨some 2, none, .box 28 (.s 0), .none⟩,
 ⟨some 3, none, .box 28 (.s 1), .none⟩,
 ⟨some 4, none, .mv (.c (.d (.bool false))), .none⟩])
 (.seq (.reg [⟨some 5, none, .fa (.s 2) 0, .none⟩,
 ⟨some 6, none, .ld (.s 5) 2 true, .none⟩,
 ⟨some 7, none, .fa (.s 3) 0, .none⟩,
 ⟨some 8, none, .ld (.s 7) 2 true, .none⟩,
 ⟨some 9, none, .eqs false [1, 1] (.s 6) (.s 8), .none⟩,
 ⟨some 10, none, .mv (.s 9), .none⟩,
 ⟨some 11, some (10, true), .fa (.s 2) 2, .none⟩,
 ⟨some 12, some (10, true), .ld (.s 11) 1 false, .none⟩,
 ⟨some 13, some (10, true), .fa (.s 3) 2, .none⟩,
 ⟨some 14, some (10, true), .ld (.s 13) 1 false, .none⟩,
 ⟨some 15, some (10, true), .bin .eql (.s 12) (.s 14), .none⟩,
 ⟨some 16, none, .pick (.s 10) (.s 15) (.c (.d (.bool false))), .none⟩,
 ⟨some 17, none, .mv (.s 16), .none⟩,
 ⟨some 18, some (17, true), .fa (.s 2) 3, .none⟩,
 ⟨some 19, some (17, true), .ld (.s 18) 1 false, .none⟩,
 ⟨some 20, some (17, true), .fa (.s 3) 3, .none⟩,
 ⟨some 21, some (17, true), .ld (.s 20) 1 false, .none⟩,
 ⟨some 22, some (17, true), .bin .eql (.s 19) (.s 21), .none⟩,
 ⟨some 23, none, .pick (.s 17) (.s 22) (.c (.d (.bool false))), .none⟩,
 ⟨some 24, none, .mv (.s 23), .none⟩,
 ⟨some 25, some (24, true), .fa (.s 2) 4, .none⟩,
 ⟨some 26, some (24, true), .ld (.s 25) 1 false, .none⟩,
 ⟨some 27, some (24, true), .fa (.s 3) 4, .none⟩,
 ⟨some 28, some (24, true), .ld (.s 27) 1 false, .none⟩,
 ⟨some 29, some (24, true), .bin .eql (.s 26) (.s 28), .none⟩,
 ⟨some 30, none, .pick (.s 24) (.s 29) (.c (.d (.bool false))), .none⟩,
 ⟨some 31, none, .mv (.s 30), .none⟩,
 ⟨some 32, some (31, true), .fa (.s 2) 5, .none⟩,
 ⟨some 33, some (31, true), .ld (.s 32) 1 false, .none⟩,
 ⟨some 34, some (31, true), .fa (.s 3) 5, .none⟩,
 ⟨some 35, some (31, true), .ld (.s 34) 1 false, .none⟩,
 ⟨some 36, some (31, true), .call 68 [.s 33, .s 35] 2, .none⟩,
 ⟨some 37, none, .pick (.s 31) (.s 36) (.c (.d (.bool false))), .none⟩,
 ⟨some 4, none, .mv (.s 37), .none⟩])
 (.ret none)))
def ir45 : F := { n := 38, res := [.tmp 4], body := bd45 }
@[go_sem] theorem n45 : ir45.n = 38 := rfl
@[go_sem] theorem r45 : ir45.res = [.tmp 4] := rfl
@[go_sem] theorem b45 : ir45.body = bd45 := rfl
/-- spence/replay.gen -/
def bd47 : C :=
 (.seq (.reg [⟨some 1, none, .box 28 (.s 0), .none⟩,
 ⟨some 2, none, .mv (.c (.d (.int .i64 0))), .none⟩])
 (.seq (.seq (.reg [⟨some 9, none, .fa (.s 1) 4, .none⟩,
 ⟨some 10, none, .ld (.s 9) 1 false, .none⟩])
 (.block 0 (.seq (.reg [⟨some 12, none, .bin .eql (.s 10) (.c (.d (.int .u8 2))), .none⟩,
 ⟨some 11, none, .mv (.s 12), .none⟩])
 (.cond (.s 11)
 (.seq (.reg [⟨some 14, none, .fa (.s 1) 5, .none⟩,
 ⟨some 15, none, .ld (.s 14) 1 false, .none⟩,
 ⟨some 16, none, .call 32 [.s 15] 2, .none⟩,
 ⟨some 13, none, .mv (.s 16), .none⟩,
 ⟨some 17, none, .ext (.s 13) 0, .none⟩,
 ⟨some 18, none, .ext (.s 13) 1, .none⟩,
 ⟨some 3, none, .alloc 32 [.int .i64 0, .int .i64 0, .str [], .int .i64 0, .int .i64 0], .none⟩,
 ⟨none, none, .st (.s 3) (.s 17) 5, .none⟩,
 ⟨some 4, none, .mv (.s 18), .none⟩])
 (.seq (.reg [⟨some 19, none, .fa (.s 3) 1, .none⟩,
 ⟨some 20, none, .ld (.s 19) 1 false, .none⟩,
 ⟨some 2, none, .mv (.s 20), .none⟩])
 (.ret none)))
 (.seq (.reg [⟨some 22, none, .bin .eql (.s 10) (.c (.d (.int .u8 3))), .none⟩,
 ⟨some 21, none, .mv (.s 22), .none⟩])
 (.cond (.s 21)
 (.seq (.reg [⟨some 24, none, .fa (.s 1) 5, .none⟩,
 ⟨some 25, none, .ld (.s 24) 1 false, .none⟩,
 ⟨some 26, none, .call 34 [.s 25] 2, .none⟩,
 ⟨some 23, none, .mv (.s 26), .none⟩,
 ⟨some 27, none, .ext (.s 23) 0, .none⟩,
 ⟨some 28, none, .ext (.s 23) 1, .none⟩,
 ⟨some 5, none, .alloc 89 [.int .i64 0, .int .i64 0, .int .i64 0, .nils], .cells [(3, 1, false)]⟩,
 ⟨none, none, .st (.s 5) (.s 27) 4, .none⟩,
 ⟨some 6, none, .mv (.s 28), .none⟩])
 (.seq (.reg [⟨some 29, none, .fa (.s 5) 1, .none⟩,
 ⟨some 30, none, .ld (.s 29) 1 false, .none⟩,
 ⟨some 2, none, .mv (.s 30), .none⟩])
 (.ret none)))
 .skip))))))
 (.seq (.reg [⟨some 32, none, .fa (.s 1) 4, .none⟩,
 ⟨some 33, none, .ld (.s 32) 1 false, .none⟩,
 ⟨some 34, none, .fa (.s 1) 5, .none⟩,
 ⟨some 35, none, .ld (.s 34) 1 false, .none⟩,
 ⟨some 36, none, .call 35 [.s 33, .s 35] 2, .none⟩,
 ⟨some 31, none, .mv (.s 36), .none⟩,
 ⟨some 37, none, .ext (.s 31) 0, .none⟩,
 ⟨some 38, none, .ext (.s 31) 1, .none⟩,
 ⟨some 7, none, .alloc 56 [.int .i64 0, .int .i64 0, .bool false], .none⟩,
 ⟨none, none, .st (.s 7) (.s 37) 3, .none⟩,
 ⟨some 8, none, .mv (.s 38), .none⟩])
 (.seq (.reg [⟨some 39, none, .fa (.s 7) 1, .none⟩,
 ⟨some 40, none, .ld (.s 39) 1 false, .none⟩,
 ⟨some 2, none, .mv (.s 40), .none⟩])
 (.ret none)))))
def ir47 : F := { n := 41, res := [.tmp 2], body := bd47 }
@[go_sem] theorem n47 : ir47.n = 41 := rfl
@[go_sem] theorem r47 : ir47.res = [.tmp 2] := rfl
@[go_sem] theorem b47 : ir47.body = bd47 := rfl
/-- spence/spenceref17.begin -/
def bd48 : C :=
 (.seq (.reg [⟨some 4, none, .mv (.c (.d .nils)), .one 1 true⟩])
 (.seq (.reg [⟨some 5, none, .mv (.s 0), .none⟩,
 ⟨some 6, none, .cvi .u8 (.s 5), .none⟩,
 ⟨some 7, none, .bsl 5 1 1 [.int .u8 0] [(0, (1, .s 6))], .none⟩,
 ⟨some 8, none, .mv (.s 1), .none⟩,
 ⟨some 9, none, .cvi .u64 (.s 8), .none⟩,
 ⟨some 10, none, .call 49 [.s 9, .c (.d (.int .i64 4))] 2, .none⟩,
 ⟨some 11, none, .app 5 1 1 (.s 7) (.s 10), .none⟩,
 ⟨some 4, none, .mv (.s 11), .none⟩])
 (.ret none)))
def ir48 : F := { n := 12, res := [.tmp 4], body := bd48 }
@[go_sem] theorem n48 : ir48.n = 12 := rfl
@[go_sem] theorem r48 : ir48.res = [.tmp 4] := rfl
@[go_sem] theorem b48 : ir48.body = bd48 := rfl
def lb49_0 : C :=
 (.seq (.seq (.reg [⟨some 7, none, .mv (.s 6), .none⟩,
 ⟨some 8, none, .bin .lss (.s 7) (.c (.d (.int .i64 8))), .none⟩])
 (.cond (.s 8)
 .skip
 (.exit 0 (some [5]))))
 (.seq (.block 1 (.seq (.reg [⟨some 11, none, .mv (.s 6), .none⟩,
 ⟨some 12, none, .mv (.s 1), .none⟩,
 ⟨some 13, none, .bin .sub (.c (.d (.int .i64 8))) (.s 12), .none⟩,
 ⟨some 14, none, .bin .geq (.s 11) (.s 13), .none⟩])
 (.cond (.s 14)
 (.reg [⟨some 15, none, .mv (.s 5), .none⟩,
 ⟨some 16, none, .mv (.s 0), .none⟩,
 ⟨some 17, none, .mv (.s 6), .none⟩,
 ⟨some 18, none, .bin .mul (.c (.d (.int .i64 8))) (.s 17), .none⟩,
 ⟨some 19, none, .bin .sub (.c (.d (.int .i64 56))) (.s 18), .none⟩,
 ⟨some 20, none, .bin .shr (.s 16) (.s 19), .none⟩,
 ⟨some 21, none, .cvi .u8 (.s 20), .none⟩,
 ⟨some 22, none, .bsl 5 1 1 [.int .u8 0] [(0, (1, .s 21))], .none⟩,
 ⟨some 23, none, .app 5 1 1 (.s 15) (.s 22), .none⟩,
 ⟨some 5, none, .mv (.s 23), .none⟩])
 .skip)))
 (.reg [⟨some 9, none, .mv (.s 6), .none⟩,
 ⟨some 10, none, .bin .add (.s 9) (.c (.d (.int .i64 1))), .none⟩,
 ⟨some 6, none, .mv (.s 10), .none⟩])))
def lp49_0 : C := lb49_0
theorem u49_0 (c : Ev.Callee) (l : Ev.Looper) (s : St) : evC c l lp49_0 s = evC c l lb49_0 s := rfl
abbrev st49_0 (m : Nat) (s0 s1 s5 s6 : AV) (h : Heap) : St := ⟨m, [s0, s1, .unk, .unk, .unk, s5, s6, .unk, .unk, .unk, .unk, .unk, .unk, .unk, .unk, .unk, .unk, .unk, .unk, .unk, .unk, .unk, .unk, .unk, .unk], h⟩
@[go_sem] theorem ks49_0 (v0 v1 v2 v3 v4 v5 v6 v7 v8 v9 v10 v11 v12 v13 v14 v15 v16 v17 v18 v19 v20 v21 v22 v23 v24 : AV) : keepS [0, 1, 5, 6] [v0, v1, v2, v3, v4, v5, v6, v7, v8, v9, v10, v11, v12, v13, v14, v15, v16, v17, v18, v19, v20, v21, v22, v23, v24] 0 = [v0, v1, .unk, .unk, .unk, v5, v6, .unk, .unk, .unk, .unk, .unk, .unk, .unk, .unk, .unk, .unk, .unk, .unk, .unk, .unk, .unk, .unk, .unk, .unk] := rfl
@[go_sem] theorem ks49_1 (v0 v1 v2 v3 v4 v5 v6 v7 v8 v9 v10 v11 v12 v13 v14 v15 v16 v17 v18 v19 v20 v21 v22 v23 v24 : AV) : keepS [5] [v0, v1, v2, v3, v4, v5, v6, v7, v8, v9, v10, v11, v12, v13, v14, v15, v16, v17, v18, v19, v20, v21, v22, v23, v24] 0 = [.unk, .unk, .unk, .unk, .unk, v5, .unk, .unk, .unk, .unk, .unk, .unk, .unk, .unk, .unk, .unk, .unk, .unk, .unk, .unk, .unk, .unk, .unk, .unk, .unk] := rfl
/-- spence/spenceref01.Lay -/
def bd49 : C :=
 (.seq (.reg [⟨some 4, none, .mv (.c (.d .nils)), .one 1 true⟩])
 (.seq (.reg [⟨some 5, none, .mv (.c (.d .nils)), .one 1 true⟩])
 (.seq (.seq (.reg [⟨some 6, none, .mv (.c (.d (.int .i64 0))), .none⟩])
 (.block 0 (.loop [0, 1, 5, 6] lp49_0)))
 (.seq (.reg [⟨some 24, none, .mv (.s 5), .none⟩,
 ⟨some 4, none, .mv (.s 24), .none⟩])
 (.ret none)))))
def ir49 : F := { n := 25, res := [.tmp 4], body := bd49 }
@[go_sem] theorem n49 : ir49.n = 25 := rfl
@[go_sem] theorem r49 : ir49.res = [.tmp 4] := rfl
@[go_sem] theorem b49 : ir49.body = bd49 := rfl
/-- (spence/index.Index).slot -/
def bd50 : C :=
 (.seq (.reg [⟨some 2, none, .box 38 (.s 0), .none⟩,
 ⟨some 4, none, .alloc 35 [.bool false, .int .i64 0, .int .i64 0, .str [], .int .i64 0, .int .i64 0, .int .i64 0, .int .i64 0, .nilm, .int .i64 0, .int .i64 0, .int .i64 0], .none⟩])
 (.seq (.seq (.reg [⟨some 5, none, .mv (.s 1), .none⟩,
 ⟨some 6, none, .call 69 [.s 5] 2, .none⟩,
 ⟨some 7, none, .un .not (.s 6), .none⟩])
 (.cond (.s 7)
 (.seq (.reg [⟨some 8, none, .build [.bool false, .int .i64 0, .int .i64 0, .str [], .int .i64 0, .int .i64 0, .int .i64 0, .int .i64 0, .nilm, .int .i64 0, .int .i64 0, .int .i64 0] [], .none⟩,
 ⟨none, none, .st (.s 4) (.s 8) 12, .none⟩])
 (.ret none))
 .skip))
 (.seq (.reg [⟨some 9, none, .mv (.s 1), .none⟩,
 ⟨some 10, none, .fa (.s 2) 0, .none⟩,
 ⟨some 11, none, .ia (.s 10) (.s 9) 16 12, .none⟩,
 ⟨some 12, none, .ld (.s 11) 12 true, .none⟩,
 ⟨none, none, .st (.s 4) (.s 12) 12, .none⟩])
 (.ret none))))
def ir50 : F := { n := 13, res := [.cell 4 12 true], body := bd50 }
@[go_sem] theorem n50 : ir50.n = 13 := rfl
@[go_sem] theorem r50 : ir50.res = [.cell 4 12 true] := rfl
@[go_sem] theorem b50 : ir50.body = bd50 := rfl
/-- maps.Keys[map[int]spence/api.Addr,int,spence/api.Addr] -/
def bd52 : C :=
 (.seq (.reg [⟨some 1, none, .box 33 (.s 0), .none⟩,
 ⟨some 2, none, .mv (.c (.d .nilf)), .none⟩])
 (.seq (.reg [⟨some 3, none, .fn (.func 72) [] [.s 1], .none⟩,
 ⟨some 2, none, .mv (.s 3), .none⟩])
 (.ret none)))
def ir52 : F := { n := 4, res := [.tmp 2], body := bd52 }
@[go_sem] theorem n52 : ir52.n = 4 := rfl
@[go_sem] theorem r52 : ir52.res = [.tmp 2] := rfl
@[go_sem] theorem b52 : ir52.body = bd52 := rfl
def lb53_0 : C :=
 (.seq (.reg [⟨some 9, none, .bin .lss (.s 8) (.s 7), .none⟩])
 (.seq (.cond (.s 9)
 .skip
 (.exit 0 (some [2, 3])))
 (.seq (.block 1 (.seq (.reg [⟨some 10, none, .is (.s 6) (.s 8) 1, .none⟩,
 ⟨some 11, none, .ld (.s 10) 1 false, .none⟩,
 ⟨some 5, none, .mv (.s 11), .none⟩])
 (.reg [⟨some 12, none, .ld (.s 3) 65 true, .none⟩,
 ⟨some 13, none, .mv (.s 5), .none⟩,
 ⟨some 14, none, .call 73 [.s 12, .s 13] 2, .none⟩,
 ⟨none, none, .st (.s 3) (.s 14) 65, .none⟩])))
 (.reg [⟨some 15, none, .bin .add (.s 8) (.c (.d (.int .i64 1))), .none⟩,
 ⟨some 8, none, .mv (.s 15), .none⟩]))))
def lp53_0 : C := lb53_0
theorem u53_0 (c : Ev.Callee) (l : Ev.Looper) (s : St) : evC c l lp53_0 s = evC c l lb53_0 s := rfl
abbrev st53_0 (m : Nat) (s2 s3 s6 s7 s8 : AV) (h : Heap) : St := ⟨m, [.unk, .unk, s2, s3, .unk, .unk, s6, s7, s8, .unk, .unk, .unk, .unk, .unk, .unk, .unk, .unk], h⟩
@[go_sem] theorem ks53_0 (v0 v1 v2 v3 v4 v5 v6 v7 v8 v9 v10 v11 v12 v13 v14 v15 v16 : AV) : keepS [2, 3, 6, 7, 8] [v0, v1, v2, v3, v4, v5, v6, v7, v8, v9, v10, v11, v12, v13, v14, v15, v16] 0 = [.unk, .unk, v2, v3, .unk, .unk, v6, v7, v8, .unk, .unk, .unk, .unk, .unk, .unk, .unk, .unk] := rfl
@[go_sem] theorem ks53_1 (v0 v1 v2 v3 v4 v5 v6 v7 v8 v9 v10 v11 v12 v13 v14 v15 v16 : AV) : keepS [2, 3] [v0, v1, v2, v3, v4, v5, v6, v7, v8, v9, v10, v11, v12, v13, v14, v15, v16] 0 = [.unk, .unk, v2, v3, .unk, .unk, .unk, .unk, .unk, .unk, .unk, .unk, .unk, .unk, .unk, .unk, .unk] := rfl
/-- spence/bitmap.Of -/
def bd53 : C :=
 (.seq (.reg [⟨some 2, none, .alloc 79 [.int .u64 0, .int .u64 0, .int .u64 0, .int .u64 0, .int .u64 0, .int .u64 0, .int .u64 0, .int .u64 0, .int .u64 0, .int .u64 0, .int .u64 0, .int .u64 0, .int .u64 0, .int .u64 0, .int .u64 0, .int .u64 0, .int .u64 0, .int .u64 0, .int .u64 0, .int .u64 0, .int .u64 0, .int .u64 0, .int .u64 0, .int .u64 0, .int .u64 0, .int .u64 0, .int .u64 0, .int .u64 0, .int .u64 0, .int .u64 0, .int .u64 0, .int .u64 0, .int .u64 0, .int .u64 0, .int .u64 0, .int .u64 0, .int .u64 0, .int .u64 0, .int .u64 0, .int .u64 0, .int .u64 0, .int .u64 0, .int .u64 0, .int .u64 0, .int .u64 0, .int .u64 0, .int .u64 0, .int .u64 0, .int .u64 0, .int .u64 0, .int .u64 0, .int .u64 0, .int .u64 0, .int .u64 0, .int .u64 0, .int .u64 0, .int .u64 0, .int .u64 0, .int .u64 0, .int .u64 0, .int .u64 0, .int .u64 0, .int .u64 0, .int .u64 0, .int .u64 0], .none⟩])
 (.seq (.reg [⟨some 3, none, .alloc 79 [.int .u64 0, .int .u64 0, .int .u64 0, .int .u64 0, .int .u64 0, .int .u64 0, .int .u64 0, .int .u64 0, .int .u64 0, .int .u64 0, .int .u64 0, .int .u64 0, .int .u64 0, .int .u64 0, .int .u64 0, .int .u64 0, .int .u64 0, .int .u64 0, .int .u64 0, .int .u64 0, .int .u64 0, .int .u64 0, .int .u64 0, .int .u64 0, .int .u64 0, .int .u64 0, .int .u64 0, .int .u64 0, .int .u64 0, .int .u64 0, .int .u64 0, .int .u64 0, .int .u64 0, .int .u64 0, .int .u64 0, .int .u64 0, .int .u64 0, .int .u64 0, .int .u64 0, .int .u64 0, .int .u64 0, .int .u64 0, .int .u64 0, .int .u64 0, .int .u64 0, .int .u64 0, .int .u64 0, .int .u64 0, .int .u64 0, .int .u64 0, .int .u64 0, .int .u64 0, .int .u64 0, .int .u64 0, .int .u64 0, .int .u64 0, .int .u64 0, .int .u64 0, .int .u64 0, .int .u64 0, .int .u64 0, .int .u64 0, .int .u64 0, .int .u64 0, .int .u64 0], .none⟩])
 (.seq (.seq (.reg [⟨some 6, none, .mv (.s 0), .none⟩,
 ⟨some 7, none, .len (.s 6), .none⟩,
 ⟨some 8, none, .mv (.c (.d (.int .i64 0))), .none⟩])
 (.block 0 (.loop [2, 3, 6, 7, 8] lp53_0)))
 (.seq (.reg [⟨some 16, none, .ld (.s 3) 65 true, .none⟩,
 ⟨none, none, .st (.s 2) (.s 16) 65, .none⟩])
 (.ret none)))))
def ir53 : F := { n := 17, res := [.cell 2 65 true], body := bd53 }
@[go_sem] theorem n53 : ir53.n = 17 := rfl
@[go_sem] theorem r53 : ir53.res = [.cell 2 65 true] := rfl
@[go_sem] theorem b53 : ir53.body = bd53 := rfl
/-- (*spence/codec.reader).number -/
def bd55 : C :=
 (.seq (.reg [⟨some 4, none, .mv (.c (.d (.int .i64 0))), .none⟩])
 (.seq (.reg [⟨some 8, none, .mv (.s 0), .none⟩,
 ⟨some 9, none, .nc (.s 8), .none⟩,
 ⟨some 10, none, .fa (.s 9) 0, .none⟩,
 ⟨some 11, none, .ld (.s 10) 1 false, .none⟩,
 ⟨some 12, none, .mv (.s 1), .none⟩,
 ⟨some 13, none, .call 76 [.s 11, .c (.d (.int .i64 0)), .s 12] 2, .none⟩,
 ⟨some 7, none, .mv (.s 13), .none⟩,
 ⟨some 14, none, .ext (.s 7) 0, .none⟩,
 ⟨some 15, none, .ext (.s 7) 1, .none⟩,
 ⟨some 5, none, .mv (.s 14), .none⟩,
 ⟨some 6, none, .mv (.s 15), .none⟩])
 (.seq (.seq (.reg [⟨some 16, none, .mv (.s 6), .none⟩,
 ⟨some 17, none, .un .not (.s 16), .none⟩])
 (.cond (.s 17)
 (.seq (.reg [⟨some 18, none, .mv (.s 0), .none⟩,
 ⟨some 19, none, .nc (.s 18), .none⟩,
 ⟨some 20, none, .fa (.s 19) 1, .none⟩,
 ⟨none, none, .st (.s 20) (.c (.d (.bool false))) 1, .none⟩])
 (.seq (.reg [⟨some 4, none, .mv (.c (.d (.int .i64 0))), .none⟩])
 (.ret none)))
 .skip))
 (.seq (.reg [⟨some 21, none, .mv (.s 0), .none⟩,
 ⟨some 22, none, .mv (.s 0), .none⟩,
 ⟨some 23, none, .nc (.s 22), .none⟩,
 ⟨some 24, none, .fa (.s 23) 0, .none⟩,
 ⟨some 25, none, .ld (.s 24) 1 false, .none⟩,
 ⟨some 26, none, .mv (.s 1), .none⟩,
 ⟨some 27, none, .sl (.s 25) (some (.s 26)) none none 1, .none⟩,
 ⟨some 28, none, .nc (.s 21), .none⟩,
 ⟨some 29, none, .fa (.s 28) 0, .none⟩,
 ⟨none, none, .st (.s 29) (.s 27) 1, .none⟩])
 (.seq (.reg [⟨some 30, none, .mv (.s 5), .none⟩,
 ⟨some 31, none, .cvi .i64 (.s 30), .none⟩,
 ⟨some 4, none, .mv (.s 31), .none⟩])
 (.ret none))))))
def ir55 : F := { n := 32, res := [.tmp 4], body := bd55 }
@[go_sem] theorem n55 : ir55.n = 32 := rfl
@[go_sem] theorem r55 : ir55.res = [.tmp 4] := rfl
@[go_sem] theorem b55 : ir55.body = bd55 := rfl
/-- spence/codec.bind -/
def bd56 : C :=
 (.seq (.reg [⟨some 1, none, .box 32 (.s 0), .none⟩,
 ⟨some 2, none, .mv (.c (.d (.bool false))), .none⟩])
 (.seq (.reg [⟨some 3, none, .fa (.s 1) 0, .none⟩,
 ⟨some 4, none, .ld (.s 3) 1 false, .none⟩,
 ⟨some 5, none, .fa (.s 1) 1, .none⟩,
 ⟨some 6, none, .ld (.s 5) 1 false, .none⟩,
 ⟨some 7, none, .call 58 [.s 4, .s 6] 2, .none⟩,
 ⟨some 8, none, .mv (.s 7), .none⟩,
 ⟨some 9, some (8, true), .fa (.s 1) 3, .none⟩,
 ⟨some 10, some (8, true), .ld (.s 9) 1 false, .none⟩,
 ⟨some 11, some (8, true), .call 77 [.s 10, .c (.d (.int .i64 0)), .c (.d (.int .i64 4096))] 2, .none⟩,
 ⟨some 12, none, .pick (.s 8) (.s 11) (.c (.d (.bool false))), .none⟩,
 ⟨some 13, none, .mv (.s 12), .none⟩,
 ⟨some 14, some (13, true), .fa (.s 1) 4, .none⟩,
 ⟨some 15, some (13, true), .ld (.s 14) 1 false, .none⟩,
 ⟨some 16, some (13, true), .call 77 [.s 15, .c (.d (.int .i64 0)), .c (.d (.int .i64 4611686018427387903))] 2, .none⟩,
 ⟨some 17, none, .pick (.s 13) (.s 16) (.c (.d (.bool false))), .none⟩,
 ⟨some 18, none, .mv (.s 17), .none⟩,
 ⟨some 19, some (18, true), .fa (.s 1) 2, .none⟩,
 ⟨some 20, some (18, true), .ld (.s 19) 1 false, .none⟩,
 ⟨some 21, some (18, true), .build [.bool false, .str []] [(1, (1, .s 20))], .none⟩,
 ⟨some 22, some (18, true), .call 78 [.s 21] 2, .none⟩,
 ⟨some 23, none, .pick (.s 18) (.s 22) (.c (.d (.bool false))), .none⟩,
 ⟨some 2, none, .mv (.s 23), .none⟩])
 (.ret none)))
def ir56 : F := { n := 24, res := [.tmp 2], body := bd56 }
@[go_sem] theorem n56 : ir56.n = 24 := rfl
@[go_sem] theorem r56 : ir56.res = [.tmp 2] := rfl
@[go_sem] theorem b56 : ir56.body = bd56 := rfl
/-- spence/codec.piece -/
def bd57 : C :=
 (.seq (.reg [⟨some 1, none, .box 89 (.s 0), .none⟩,
 ⟨some 2, none, .mv (.c (.d (.bool false))), .none⟩])
 (.seq (.reg [⟨some 3, none, .fa (.s 1) 0, .none⟩,
 ⟨some 4, none, .ld (.s 3) 1 false, .none⟩,
 ⟨some 5, none, .fa (.s 1) 1, .none⟩,
 ⟨some 6, none, .ld (.s 5) 1 false, .none⟩,
 ⟨some 7, none, .call 58 [.s 4, .s 6] 2, .none⟩,
 ⟨some 8, none, .mv (.s 7), .none⟩,
 ⟨some 9, some (8, true), .fa (.s 1) 2, .none⟩,
 ⟨some 10, some (8, true), .ld (.s 9) 1 false, .none⟩,
 ⟨some 11, some (8, true), .call 77 [.s 10, .c (.d (.int .i64 0)), .c (.d (.int .i64 4096))] 2, .none⟩,
 ⟨some 12, none, .pick (.s 8) (.s 11) (.c (.d (.bool false))), .none⟩,
 ⟨some 13, none, .mv (.s 12), .none⟩,
 ⟨some 14, some (13, true), .fa (.s 1) 3, .none⟩,
 ⟨some 15, some (13, true), .ld (.s 14) 1 false, .none⟩,
 ⟨some 16, some (13, true), .len (.s 15), .none⟩,
 ⟨some 17, some (13, true), .call 77 [.s 16, .c (.d (.int .i64 1)), .c (.d (.int .i64 64))] 2, .none⟩,
 ⟨some 18, none, .pick (.s 13) (.s 17) (.c (.d (.bool false))), .none⟩,
 ⟨some 2, none, .mv (.s 18), .none⟩])
 (.ret none)))
def ir57 : F := { n := 19, res := [.tmp 2], body := bd57 }
@[go_sem] theorem n57 : ir57.n = 19 := rfl
@[go_sem] theorem r57 : ir57.res = [.tmp 2] := rfl
@[go_sem] theorem b57 : ir57.body = bd57 := rfl
/-- spence/codec.owner -/
def bd58 : C :=
 (.seq (.reg [⟨some 4, none, .mv (.c (.d (.bool false))), .none⟩])
 (.seq (.reg [⟨some 5, none, .mv (.s 0), .none⟩,
 ⟨some 6, none, .call 77 [.s 5, .c (.d (.int .i64 0)), .c (.d (.int .i64 15))] 2, .none⟩,
 ⟨some 7, none, .mv (.s 6), .none⟩,
 ⟨some 8, some (7, true), .mv (.s 1), .none⟩,
 ⟨some 9, some (7, true), .call 77 [.s 8, .c (.d (.int .i64 1)), .c (.d (.int .i64 2147483647))] 2, .none⟩,
 ⟨some 10, none, .pick (.s 7) (.s 9) (.c (.d (.bool false))), .none⟩,
 ⟨some 4, none, .mv (.s 10), .none⟩])
 (.ret none)))
def ir58 : F := { n := 11, res := [.tmp 4], body := bd58 }
@[go_sem] theorem n58 : ir58.n = 11 := rfl
@[go_sem] theorem r58 : ir58.res = [.tmp 4] := rfl
@[go_sem] theorem b58 : ir58.body = bd58 := rfl
def lb59_0 : C :=
 (.seq (.reg [⟨some 9, none, .bin .lss (.s 8) (.s 7), .none⟩])
 (.seq (.cond (.s 9)
 .skip
 (.exit 0 (some [3])))
 (.seq (.block 1 (.seq (.reg [⟨some 10, none, .is (.s 6) (.s 8) 1, .none⟩,
 ⟨some 11, none, .ld (.s 10) 1 false, .none⟩,
 ⟨some 5, none, .mv (.s 11), .none⟩])
 (.reg [⟨some 12, none, .mv (.s 3), .none⟩,
 ⟨some 13, none, .bin .mul (.s 12) (.c (.d (.int .u64 256))), .none⟩,
 ⟨some 14, none, .mv (.s 5), .none⟩,
 ⟨some 15, none, .cvi .u64 (.s 14), .none⟩,
 ⟨some 16, none, .bin .add (.s 13) (.s 15), .none⟩,
 ⟨some 3, none, .mv (.s 16), .none⟩])))
 (.reg [⟨some 17, none, .bin .add (.s 8) (.c (.d (.int .i64 1))), .none⟩,
 ⟨some 8, none, .mv (.s 17), .none⟩]))))
def lp59_0 : C := lb59_0
theorem u59_0 (c : Ev.Callee) (l : Ev.Looper) (s : St) : evC c l lp59_0 s = evC c l lb59_0 s := rfl
abbrev st59_0 (m : Nat) (s3 s6 s7 s8 : AV) (h : Heap) : St := ⟨m, [.unk, .unk, .unk, s3, .unk, .unk, s6, s7, s8, .unk, .unk, .unk, .unk, .unk, .unk, .unk, .unk, .unk, .unk, .unk], h⟩
@[go_sem] theorem ks59_0 (v0 v1 v2 v3 v4 v5 v6 v7 v8 v9 v10 v11 v12 v13 v14 v15 v16 v17 v18 v19 : AV) : keepS [3, 6, 7, 8] [v0, v1, v2, v3, v4, v5, v6, v7, v8, v9, v10, v11, v12, v13, v14, v15, v16, v17, v18, v19] 0 = [.unk, .unk, .unk, v3, .unk, .unk, v6, v7, v8, .unk, .unk, .unk, .unk, .unk, .unk, .unk, .unk, .unk, .unk, .unk] := rfl
@[go_sem] theorem ks59_1 (v0 v1 v2 v3 v4 v5 v6 v7 v8 v9 v10 v11 v12 v13 v14 v15 v16 v17 v18 v19 : AV) : keepS [3] [v0, v1, v2, v3, v4, v5, v6, v7, v8, v9, v10, v11, v12, v13, v14, v15, v16, v17, v18, v19] 0 = [.unk, .unk, .unk, v3, .unk, .unk, .unk, .unk, .unk, .unk, .unk, .unk, .unk, .unk, .unk, .unk, .unk, .unk, .unk, .unk] := rfl
/-- spence/spenceref17.number -/
def bd59 : C :=
 (.seq (.reg [⟨some 2, none, .mv (.c (.d (.int .i64 0))), .none⟩])
 (.seq (.reg [⟨some 3, none, .mv (.c (.d (.int .u64 0))), .none⟩])
 (.seq (.seq (.reg [⟨some 6, none, .mv (.s 0), .none⟩,
 ⟨some 7, none, .len (.s 6), .none⟩,
 ⟨some 8, none, .mv (.c (.d (.int .i64 0))), .none⟩])
 (.block 0 (.loop [3, 6, 7, 8] lp59_0)))
 (.seq (.reg [⟨some 18, none, .mv (.s 3), .none⟩,
 ⟨some 19, none, .cvi .i64 (.s 18), .none⟩,
 ⟨some 2, none, .mv (.s 19), .none⟩])
 (.ret none)))))
def ir59 : F := { n := 20, res := [.tmp 2], body := bd59 }
@[go_sem] theorem n59 : ir59.n = 20 := rfl
@[go_sem] theorem r59 : ir59.res = [.tmp 2] := rfl
@[go_sem] theorem b59 : ir59.body = bd59 := rfl
/-- spence/spenceref17.RightPiece -/
def bd60 : C :=
 (.seq (.reg [⟨some 1, none, .box 89 (.s 0), .none⟩,
 ⟨some 2, none, .mv (.c (.d (.bool false))), .none⟩])
 (.seq (.reg [⟨some 3, none, .fa (.s 1) 0, .none⟩,
 ⟨some 4, none, .ld (.s 3) 1 false, .none⟩,
 ⟨some 5, none, .fa (.s 1) 1, .none⟩,
 ⟨some 6, none, .ld (.s 5) 1 false, .none⟩,
 ⟨some 7, none, .call 79 [.s 4, .s 6] 2, .none⟩,
 ⟨some 8, none, .mv (.s 7), .none⟩,
 ⟨some 9, some (8, true), .fa (.s 1) 2, .none⟩,
 ⟨some 10, some (8, true), .ld (.s 9) 1 false, .none⟩,
 ⟨some 11, some (8, true), .bin .geq (.s 10) (.c (.d (.int .i64 0))), .none⟩,
 ⟨some 12, none, .pick (.s 8) (.s 11) (.c (.d (.bool false))), .none⟩,
 ⟨some 13, none, .mv (.s 12), .none⟩,
 ⟨some 14, some (13, true), .fa (.s 1) 2, .none⟩,
 ⟨some 15, some (13, true), .ld (.s 14) 1 false, .none⟩,
 ⟨some 16, some (13, true), .bin .leq (.s 15) (.c (.d (.int .i64 4096))), .none⟩,
 ⟨some 17, none, .pick (.s 13) (.s 16) (.c (.d (.bool false))), .none⟩,
 ⟨some 18, none, .mv (.s 17), .none⟩,
 ⟨some 19, some (18, true), .fa (.s 1) 3, .none⟩,
 ⟨some 20, some (18, true), .ld (.s 19) 1 false, .none⟩,
 ⟨some 21, some (18, true), .len (.s 20), .none⟩,
 ⟨some 22, some (18, true), .bin .geq (.s 21) (.c (.d (.int .i64 1))), .none⟩,
 ⟨some 23, none, .pick (.s 18) (.s 22) (.c (.d (.bool false))), .none⟩,
 ⟨some 24, none, .mv (.s 23), .none⟩,
 ⟨some 25, some (24, true), .fa (.s 1) 3, .none⟩,
 ⟨some 26, some (24, true), .ld (.s 25) 1 false, .none⟩,
 ⟨some 27, some (24, true), .len (.s 26), .none⟩,
 ⟨some 28, some (24, true), .bin .leq (.s 27) (.c (.d (.int .i64 64))), .none⟩,
 ⟨some 29, none, .pick (.s 24) (.s 28) (.c (.d (.bool false))), .none⟩,
 ⟨some 2, none, .mv (.s 29), .none⟩])
 (.ret none)))
def ir60 : F := { n := 30, res := [.tmp 2], body := bd60 }
@[go_sem] theorem n60 : ir60.n = 30 := rfl
@[go_sem] theorem r60 : ir60.res = [.tmp 2] := rfl
@[go_sem] theorem b60 : ir60.body = bd60 := rfl
/-- spence/spenceref17.RightBind -/
def bd61 : C :=
 (.seq (.reg [⟨some 1, none, .box 32 (.s 0), .none⟩,
 ⟨some 2, none, .mv (.c (.d (.bool false))), .none⟩])
 (.seq (.reg [⟨some 3, none, .fa (.s 1) 0, .none⟩,
 ⟨some 4, none, .ld (.s 3) 1 false, .none⟩,
 ⟨some 5, none, .fa (.s 1) 1, .none⟩,
 ⟨some 6, none, .ld (.s 5) 1 false, .none⟩,
 ⟨some 7, none, .call 79 [.s 4, .s 6] 2, .none⟩,
 ⟨some 8, none, .mv (.s 7), .none⟩,
 ⟨some 9, some (8, true), .fa (.s 1) 3, .none⟩,
 ⟨some 10, some (8, true), .ld (.s 9) 1 false, .none⟩,
 ⟨some 11, some (8, true), .bin .geq (.s 10) (.c (.d (.int .i64 0))), .none⟩,
 ⟨some 12, none, .pick (.s 8) (.s 11) (.c (.d (.bool false))), .none⟩,
 ⟨some 13, none, .mv (.s 12), .none⟩,
 ⟨some 14, some (13, true), .fa (.s 1) 3, .none⟩,
 ⟨some 15, some (13, true), .ld (.s 14) 1 false, .none⟩,
 ⟨some 16, some (13, true), .bin .leq (.s 15) (.c (.d (.int .i64 4096))), .none⟩,
 ⟨some 17, none, .pick (.s 13) (.s 16) (.c (.d (.bool false))), .none⟩,
 ⟨some 18, none, .mv (.s 17), .none⟩,
 ⟨some 19, some (18, true), .fa (.s 1) 4, .none⟩,
 ⟨some 20, some (18, true), .ld (.s 19) 1 false, .none⟩,
 ⟨some 21, some (18, true), .bin .geq (.s 20) (.c (.d (.int .i64 0))), .none⟩,
 ⟨some 22, none, .pick (.s 18) (.s 21) (.c (.d (.bool false))), .none⟩,
 ⟨some 23, none, .mv (.s 22), .none⟩,
 ⟨some 24, some (23, true), .fa (.s 1) 4, .none⟩,
 ⟨some 25, some (23, true), .ld (.s 24) 1 false, .none⟩,
 ⟨some 26, some (23, true), .bin .leq (.s 25) (.c (.d (.int .i64 4611686018427387903))), .none⟩,
 ⟨some 27, none, .pick (.s 23) (.s 26) (.c (.d (.bool false))), .none⟩,
 ⟨some 28, none, .mv (.s 27), .none⟩,
 ⟨some 29, some (28, true), .fa (.s 1) 2, .none⟩,
 ⟨some 30, some (28, true), .ld (.s 29) 1 false, .none⟩,
 ⟨some 31, some (28, true), .lens (.s 30), .none⟩,
 ⟨some 32, some (28, true), .bin .leq (.s 31) (.c (.d (.int .i64 40))), .none⟩,
 ⟨some 33, none, .pick (.s 28) (.s 32) (.c (.d (.bool false))), .none⟩,
 ⟨some 34, none, .mv (.s 33), .none⟩,
 ⟨some 35, some (34, true), .fa (.s 1) 2, .none⟩,
 ⟨some 36, some (34, true), .ld (.s 35) 1 false, .none⟩,
 ⟨some 37, some (34, true), .call 80 [.s 36] 2, .none⟩,
 ⟨some 38, none, .pick (.s 34) (.s 37) (.c (.d (.bool false))), .none⟩,
 ⟨some 2, none, .mv (.s 38), .none⟩])
 (.ret none)))
def ir61 : F := { n := 39, res := [.tmp 2], body := bd61 }
@[go_sem] theorem n61 : ir61.n = 39 := rfl
@[go_sem] theorem r61 : ir61.res = [.tmp 2] := rfl
@[go_sem] theorem b61 : ir61.body = bd61 := rfl
/-- spence/spenceref17.RightDrop -/
def bd62 : C :=
 (.seq (.reg [⟨some 1, none, .box 56 (.s 0), .none⟩,
 ⟨some 2, none, .mv (.c (.d (.bool false))), .none⟩])
 (.seq (.reg [⟨some 3, none, .fa (.s 1) 0, .none⟩,
 ⟨some 4, none, .ld (.s 3) 1 false, .none⟩,
 ⟨some 5, none, .fa (.s 1) 1, .none⟩,
 ⟨some 6, none, .ld (.s 5) 1 false, .none⟩,
 ⟨some 7, none, .call 79 [.s 4, .s 6] 2, .none⟩,
 ⟨some 2, none, .mv (.s 7), .none⟩])
 (.ret none)))
def ir62 : F := { n := 8, res := [.tmp 2], body := bd62 }
@[go_sem] theorem n62 : ir62.n = 8 := rfl
@[go_sem] theorem r62 : ir62.res = [.tmp 2] := rfl
@[go_sem] theorem b62 : ir62.body = bd62 := rfl
@[go_sem] theorem ks63_0 (v0 v1 v2 v3 v4 v5 v6 v7 v8 v9 v10 v11 v12 v13 v14 v15 v16 v17 v18 : AV) : keepS [3, 6] [v0, v1, v2, v3, v4, v5, v6, v7, v8, v9, v10, v11, v12, v13, v14, v15, v16, v17, v18] 0 = [.unk, .unk, .unk, v3, .unk, .unk, v6, .unk, .unk, .unk, .unk, .unk, .unk, .unk, .unk, .unk, .unk, .unk, .unk] := rfl
/-- (spence/index.Index).change -/
def bd63 : C :=
 (.seq (.reg [⟨some 3, none, .box 38 (.s 0), .none⟩,
 ⟨some 6, none, .alloc 38 [.bool false, .int .i64 0, .int .i64 0, .str [], .int .i64 0, .int .i64 0, .int .i64 0, .int .i64 0, .nilm, .int .i64 0, .int .i64 0, .int .i64 0, .bool false, .int .i64 0, .int .i64 0, .str [], .int .i64 0, .int .i64 0, .int .i64 0, .int .i64 0, .nilm, .int .i64 0, .int .i64 0, .int .i64 0, .bool false, .int .i64 0, .int .i64 0, .str [], .int .i64 0, .int .i64 0, .int .i64 0, .int .i64 0, .nilm, .int .i64 0, .int .i64 0, .int .i64 0, .bool false, .int .i64 0, .int .i64 0, .str [], .int .i64 0, .int .i64 0, .int .i64 0, .int .i64 0, .nilm, .int .i64 0, .int .i64 0, .int .i64 0, .bool false, .int .i64 0, .int .i64 0, .str [], .int .i64 0, .int .i64 0, .int .i64 0, .int .i64 0, .nilm, .int .i64 0, .int .i64 0, .int .i64 0, .bool false, .int .i64 0, .int .i64 0, .str [], .int .i64 0, .int .i64 0, .int .i64 0, .int .i64 0, .nilm, .int .i64 0, .int .i64 0, .int .i64 0, .bool false, .int .i64 0, .int .i64 0, .str [], .int .i64 0, .int .i64 0, .int .i64 0, .int .i64 0, .nilm, .int .i64 0, .int .i64 0, .int .i64 0, .bool false, .int .i64 0, .int .i64 0, .str [], .int .i64 0, .int .i64 0, .int .i64 0, .int .i64 0, .nilm, .int .i64 0, .int .i64 0, .int .i64 0, .bool false, .int .i64 0, .int .i64 0, .str [], .int .i64 0, .int .i64 0, .int .i64 0, .int .i64 0, .nilm, .int .i64 0, .int .i64 0, .int .i64 0, .bool false, .int .i64 0, .int .i64 0, .str [], .int .i64 0, .int .i64 0, .int .i64 0, .int .i64 0, .nilm, .int .i64 0, .int .i64 0, .int .i64 0, .bool false, .int .i64 0, .int .i64 0, .str [], .int .i64 0, .int .i64 0, .int .i64 0, .int .i64 0, .nilm, .int .i64 0, .int .i64 0, .int .i64 0, .bool false, .int .i64 0, .int .i64 0, .str [], .int .i64 0, .int .i64 0, .int .i64 0, .int .i64 0, .nilm, .int .i64 0, .int .i64 0, .int .i64 0, .bool false, .int .i64 0, .int .i64 0, .str [], .int .i64 0, .int .i64 0, .int .i64 0, .int .i64 0, .nilm, .int .i64 0, .int .i64 0, .int .i64 0, .bool false, .int .i64 0, .int .i64 0, .str [], .int .i64 0, .int .i64 0, .int .i64 0, .int .i64 0, .nilm, .int .i64 0, .int .i64 0, .int .i64 0, .bool false, .int .i64 0, .int .i64 0, .str [], .int .i64 0, .int .i64 0, .int .i64 0, .int .i64 0, .nilm, .int .i64 0, .int .i64 0, .int .i64 0, .bool false, .int .i64 0, .int .i64 0, .str [], .int .i64 0, .int .i64 0, .int .i64 0, .int .i64 0, .nilm, .int .i64 0, .int .i64 0, .int .i64 0], .none⟩])
 (.seq (.seq (.reg [⟨some 7, none, .mv (.s 1), .none⟩,
 ⟨some 8, none, .call 69 [.s 7] 2, .none⟩])
 (.cond (.s 8)
 (.reg [⟨some 9, none, .mv (.s 1), .none⟩,
 ⟨some 10, none, .mv (.s 2), .none⟩,
 ⟨some 11, none, .mv (.s 1), .none⟩,
 ⟨some 12, none, .fa (.s 3) 0, .none⟩,
 ⟨some 13, none, .ia (.s 12) (.s 11) 16 12, .none⟩,
 ⟨some 14, none, .ld (.s 13) 12 true, .none⟩,
 ⟨some 15, none, .callv (.s 10) [.s 14] 0, .none⟩,
 ⟨some 16, none, .fa (.s 3) 0, .none⟩,
 ⟨some 17, none, .ia (.s 16) (.s 9) 16 12, .none⟩,
 ⟨none, none, .st (.s 17) (.s 15) 12, .none⟩])
 .skip))
 (.ann [3, 6] (.seq (.reg [⟨some 18, none, .ld (.s 3) 192 true, .none⟩,
 ⟨none, none, .st (.s 6) (.s 18) 192, .none⟩])
 (.ret none)))))
def ir63 : F := { n := 19, res := [.cell 6 192 true], body := bd63 }
@[go_sem] theorem n63 : ir63.n = 19 := rfl
@[go_sem] theorem r63 : ir63.res = [.cell 6 192 true] := rfl
@[go_sem] theorem b63 : ir63.body = bd63 := rfl
/-- (spence/index.Index).Bound$1 -/
def bd64 : C :=
 (.seq (.reg [⟨some 3, none, .box 35 (.s 0), .none⟩,
 ⟨some 4, none, .alloc 35 [.bool false, .int .i64 0, .int .i64 0, .str [], .int .i64 0, .int .i64 0, .int .i64 0, .int .i64 0, .nilm, .int .i64 0, .int .i64 0, .int .i64 0], .none⟩])
 (.seq (.block 0 (.seq (.reg [⟨some 6, none, .fa (.s 1) 1, .none⟩,
 ⟨some 7, none, .ld (.s 6) 1 false, .none⟩,
 ⟨some 8, none, .fa (.s 3) 9, .none⟩,
 ⟨some 9, none, .ld (.s 8) 1 false, .none⟩,
 ⟨some 10, none, .bin .leq (.s 7) (.s 9), .none⟩,
 ⟨some 5, none, .mv (.s 10), .none⟩])
 (.cond (.s 5)
 .skip
 (.seq (.reg [⟨some 12, none, .fa (.s 3) 0, .none⟩,
 ⟨some 13, none, .ld (.s 12) 1 false, .none⟩,
 ⟨some 14, none, .un .not (.s 13), .none⟩,
 ⟨some 15, none, .mv (.s 14), .none⟩,
 ⟨some 16, some (15, false), .fa (.s 3) 1, .none⟩,
 ⟨some 17, some (15, false), .fa (.s 16) 1, .none⟩,
 ⟨some 18, some (15, false), .ld (.s 17) 1 false, .none⟩,
 ⟨some 19, some (15, false), .fa (.s 1) 1, .none⟩,
 ⟨some 20, some (15, false), .ld (.s 19) 1 false, .none⟩,
 ⟨some 21, some (15, false), .bin .lss (.s 18) (.s 20), .none⟩,
 ⟨some 22, none, .pick (.s 15) (.c (.d (.bool true))) (.s 21), .none⟩,
 ⟨some 11, none, .mv (.s 22), .none⟩])
 (.cond (.s 11)
 (.drw [⟨some 23, none, .ld (.s 1) 5 true, .none⟩,
 ⟨some 24, none, .ld (.s 2) 2 true, .none⟩,
 ⟨some 25, none, .fa (.s 3) 0, .none⟩,
 ⟨none, none, .st (.s 25) (.c (.d (.bool true))) 1, .none⟩,
 ⟨some 26, none, .fa (.s 3) 1, .none⟩,
 ⟨none, none, .st (.s 26) (.s 23) 5, .none⟩,
 ⟨some 27, none, .fa (.s 3) 6, .none⟩,
 ⟨none, none, .st (.s 27) (.s 24) 2, .none⟩,
 ⟨some 28, none, .fa (.s 3) 8, .none⟩,
 ⟨none, none, .st (.s 28) (.c (.d .nilm)) 1, .none⟩]
 [[], [], [], [2], [0, 2, 3], [4, 0, 3, 0, 2, 3], [0, 1, 2, 3, 4, 5], [6, 1, 5, 0, 1, 2, 3, 4, 5], [0, 1, 2, 3, 4, 5, 6, 7], [8, 7, 0, 1, 2, 3, 4, 5, 6, 7]] [(1, 25), (2, 25), (2, 26)])
 (.seq (.reg [⟨some 30, none, .fa (.s 3) 1, .none⟩,
 ⟨some 31, none, .fa (.s 30) 1, .none⟩,
 ⟨some 32, none, .ld (.s 31) 1 false, .none⟩,
 ⟨some 33, none, .fa (.s 1) 1, .none⟩,
 ⟨some 34, none, .ld (.s 33) 1 false, .none⟩,
 ⟨some 35, none, .bin .eql (.s 32) (.s 34), .none⟩,
 ⟨some 36, none, .mv (.s 35), .none⟩,
 ⟨some 37, some (36, true), .fa (.s 3) 1, .none⟩,
 ⟨some 38, some (36, true), .fa (.s 37) 2, .none⟩,
 ⟨some 39, some (36, true), .ld (.s 38) 1 false, .none⟩,
 ⟨some 40, some (36, true), .fa (.s 1) 2, .none⟩,
 ⟨some 41, some (36, true), .ld (.s 40) 1 false, .none⟩,
 ⟨some 42, some (36, true), .bin .eql (.s 39) (.s 41), .none⟩,
 ⟨some 43, none, .pick (.s 36) (.s 42) (.c (.d (.bool false))), .none⟩,
 ⟨some 44, none, .mv (.s 43), .none⟩,
 ⟨some 45, some (44, true), .fa (.s 3) 1, .none⟩,
 ⟨some 46, some (44, true), .fa (.s 45) 3, .none⟩,
 ⟨some 47, some (44, true), .ld (.s 46) 1 false, .none⟩,
 ⟨some 48, some (44, true), .fa (.s 1) 3, .none⟩,
 ⟨some 49, some (44, true), .ld (.s 48) 1 false, .none⟩,
 ⟨some 50, some (44, true), .bin .eql (.s 47) (.s 49), .none⟩,
 ⟨some 51, none, .pick (.s 44) (.s 50) (.c (.d (.bool false))), .none⟩,
 ⟨some 52, none, .mv (.s 51), .none⟩,
 ⟨some 53, some (52, true), .fa (.s 3) 1, .none⟩,
 ⟨some 54, some (52, true), .fa (.s 53) 4, .none⟩,
 ⟨some 55, some (52, true), .ld (.s 54) 1 false, .none⟩,
 ⟨some 56, some (52, true), .fa (.s 1) 4, .none⟩,
 ⟨some 57, some (52, true), .ld (.s 56) 1 false, .none⟩,
 ⟨some 58, some (52, true), .bin .leq (.s 55) (.s 57), .none⟩,
 ⟨some 59, none, .pick (.s 52) (.s 58) (.c (.d (.bool false))), .none⟩,
 ⟨some 29, none, .mv (.s 59), .none⟩])
 (.cond (.s 29)
 (.drw [⟨some 60, none, .fa (.s 1) 4, .none⟩,
 ⟨some 61, none, .ld (.s 60) 1 false, .none⟩,
 ⟨some 62, none, .ld (.s 2) 2 true, .none⟩,
 ⟨some 63, none, .fa (.s 3) 1, .none⟩,
 ⟨some 64, none, .fa (.s 63) 4, .none⟩,
 ⟨none, none, .st (.s 64) (.s 61) 1, .none⟩,
 ⟨some 65, none, .fa (.s 3) 6, .none⟩,
 ⟨none, none, .st (.s 65) (.s 62) 2, .none⟩]
 [[], [0], [], [0, 1], [3, 0, 1], [4, 1, 0, 1], [0, 1, 2, 3, 4, 5], [6, 2, 5, 0, 1, 2, 3, 4, 5]] [(2, 64)])
 .skip)))))))
 (.seq (.reg [⟨some 66, none, .ld (.s 3) 12 true, .none⟩,
 ⟨none, none, .st (.s 4) (.s 66) 12, .none⟩])
 (.ret none))))
def ir64 : F := { n := 67, res := [.cell 4 12 true], body := bd64 }
@[go_sem] theorem n64 : ir64.n = 67 := rfl
@[go_sem] theorem r64 : ir64.res = [.cell 4 12 true] := rfl
@[go_sem] theorem b64 : ir64.body = bd64 := rfl
@[go_sem] theorem ks65_0 (v0 v1 v2 v3 v4 v5 v6 v7 v8 v9 v10 v11 v12 v13 v14 v15 v16 v17 v18 v19 v20 v21 v22 v23 v24 v25 v26 v27 v28 v29 v30 v31 v32 v33 v34 v35 v36 v37 : AV) : keepS [2, 3, 4, 5, 6] [v0, v1, v2, v3, v4, v5, v6, v7, v8, v9, v10, v11, v12, v13, v14, v15, v16, v17, v18, v19, v20, v21, v22, v23, v24, v25, v26, v27, v28, v29, v30, v31, v32, v33, v34, v35, v36, v37] 0 = [.unk, .unk, v2, v3, v4, v5, v6, .unk, .unk, .unk, .unk, .unk, .unk, .unk, .unk, .unk, .unk, .unk, .unk, .unk, .unk, .unk, .unk, .unk, .unk, .unk, .unk, .unk, .unk, .unk, .unk, .unk, .unk, .unk, .unk, .unk, .unk, .unk] := rfl
/-- (spence/index.Index).Piece$1 -/
def bd65 : C :=
 (.seq (.reg [⟨some 4, none, .box 35 (.s 0), .none⟩,
 ⟨some 5, none, .alloc 35 [.bool false, .int .i64 0, .int .i64 0, .str [], .int .i64 0, .int .i64 0, .int .i64 0, .int .i64 0, .nilm, .int .i64 0, .int .i64 0, .int .i64 0], .none⟩])
 (.seq (.seq (.reg [⟨some 7, none, .fa (.s 4) 0, .none⟩,
 ⟨some 8, none, .ld (.s 7) 1 false, .none⟩,
 ⟨some 9, none, .un .not (.s 8), .none⟩,
 ⟨some 10, none, .mv (.s 9), .none⟩,
 ⟨some 11, some (10, false), .fa (.s 4) 1, .none⟩,
 ⟨some 12, some (10, false), .fa (.s 11) 1, .none⟩,
 ⟨some 13, some (10, false), .ld (.s 12) 1 false, .none⟩,
 ⟨some 14, some (10, false), .ld (.s 1) 1 false, .none⟩,
 ⟨some 15, some (10, false), .bin .neq (.s 13) (.s 14), .none⟩,
 ⟨some 16, none, .pick (.s 10) (.c (.d (.bool true))) (.s 15), .none⟩,
 ⟨some 17, none, .mv (.s 16), .none⟩,
 ⟨some 18, some (17, false), .ld (.s 2) 1 false, .none⟩,
 ⟨some 19, some (17, false), .bin .lss (.s 18) (.c (.d (.int .i64 0))), .none⟩,
 ⟨some 20, none, .pick (.s 17) (.c (.d (.bool true))) (.s 19), .none⟩,
 ⟨some 21, none, .mv (.s 20), .none⟩,
 ⟨some 22, some (21, false), .ld (.s 2) 1 false, .none⟩,
 ⟨some 23, some (21, false), .bin .gtr (.s 22) (.c (.d (.int .i64 4096))), .none⟩,
 ⟨some 24, none, .pick (.s 21) (.c (.d (.bool true))) (.s 23), .none⟩])
 (.cond (.s 24)
 (.seq (.reg [⟨some 25, none, .ld (.s 4) 12 true, .none⟩,
 ⟨none, none, .st (.s 5) (.s 25) 12, .none⟩])
 (.ret none))
 .skip))
 (.seq (.reg [⟨some 26, none, .fa (.s 4) 8, .none⟩,
 ⟨some 27, none, .ld (.s 26) 1 false, .none⟩,
 ⟨some 28, none, .call 66 [.s 27] 0, .none⟩,
 ⟨some 6, none, .mv (.s 28), .none⟩])
 (.seq (.seq (.reg [⟨some 29, none, .mv (.s 6), .none⟩,
 ⟨some 30, none, .isn false 2 (.s 29), .none⟩])
 (.cond (.s 30)
 (.reg [⟨some 31, none, .mmk, .none⟩,
 ⟨some 6, none, .mv (.s 31), .none⟩])
 .skip))
 (.ann [2, 3, 4, 5, 6] (.seq (.reg [⟨some 32, none, .mv (.s 6), .none⟩,
 ⟨some 33, none, .ld (.s 2) 1 false, .none⟩,
 ⟨some 34, none, .ld (.s 3) 2 true, .none⟩,
 ⟨none, none, .mput (.s 32) (.s 33) (.s 34), .none⟩])
 (.seq (.reg [⟨some 35, none, .mv (.s 6), .frz⟩,
 ⟨some 36, none, .fa (.s 4) 8, .none⟩,
 ⟨none, none, .st (.s 36) (.s 35) 1, .none⟩])
 (.seq (.reg [⟨some 37, none, .ld (.s 4) 12 true, .none⟩,
 ⟨none, none, .st (.s 5) (.s 37) 12, .none⟩])
 (.ret none)))))))))
def ir65 : F := { n := 38, res := [.cell 5 12 true], body := bd65 }
@[go_sem] theorem n65 : ir65.n = 38 := rfl
@[go_sem] theorem r65 : ir65.res = [.cell 5 12 true] := rfl
@[go_sem] theorem b65 : ir65.body = bd65 := rfl
@[go_sem] theorem ks67_0 (v0 v1 v2 v3 v4 v5 v6 v7 v8 v9 v10 v11 v12 v13 v14 v15 v16 v17 v18 v19 v20 v21 v22 v23 v24 v25 v26 v27 v28 v29 v30 v31 v32 : AV) : keepS [1, 3, 4] [v0, v1, v2, v3, v4, v5, v6, v7, v8, v9, v10, v11, v12, v13, v14, v15, v16, v17, v18, v19, v20, v21, v22, v23, v24, v25, v26, v27, v28, v29, v30, v31, v32] 0 = [.unk, v1, .unk, v3, v4, .unk, .unk, .unk, .unk, .unk, .unk, .unk, .unk, .unk, .unk, .unk, .unk, .unk, .unk, .unk, .unk, .unk, .unk, .unk, .unk, .unk, .unk, .unk, .unk, .unk, .unk, .unk, .unk] := rfl
@[go_sem] theorem ks67_1 (v0 v1 v2 v3 v4 v5 v6 v7 v8 v9 v10 v11 v12 v13 v14 v15 v16 v17 v18 v19 v20 v21 v22 v23 v24 v25 v26 v27 v28 v29 v30 v31 v32 : AV) : keepS [3, 4] [v0, v1, v2, v3, v4, v5, v6, v7, v8, v9, v10, v11, v12, v13, v14, v15, v16, v17, v18, v19, v20, v21, v22, v23, v24, v25, v26, v27, v28, v29, v30, v31, v32] 0 = [.unk, .unk, .unk, v3, v4, .unk, .unk, .unk, .unk, .unk, .unk, .unk, .unk, .unk, .unk, .unk, .unk, .unk, .unk, .unk, .unk, .unk, .unk, .unk, .unk, .unk, .unk, .unk, .unk, .unk, .unk, .unk, .unk] := rfl
/-- (spence/index.Index).Forget$1 -/
def bd67 : C :=
 (.seq (.reg [⟨some 3, none, .box 35 (.s 0), .none⟩,
 ⟨some 4, none, .alloc 35 [.bool false, .int .i64 0, .int .i64 0, .str [], .int .i64 0, .int .i64 0, .int .i64 0, .int .i64 0, .nilm, .int .i64 0, .int .i64 0, .int .i64 0], .none⟩])
 (.seq (.seq (.reg [⟨some 5, none, .ld (.s 1) 1 false, .none⟩,
 ⟨some 6, none, .fa (.s 3) 9, .none⟩,
 ⟨some 7, none, .ld (.s 6) 1 false, .none⟩,
 ⟨some 8, none, .bin .geq (.s 5) (.s 7), .none⟩,
 ⟨some 9, none, .mv (.s 8), .none⟩,
 ⟨some 10, some (9, true), .ld (.s 1) 1 false, .none⟩,
 ⟨some 11, some (9, true), .bin .gtr (.s 10) (.c (.d (.int .i64 0))), .none⟩,
 ⟨some 12, none, .pick (.s 9) (.s 11) (.c (.d (.bool false))), .none⟩])
 (.cond (.s 12)
 (.drw [⟨some 13, none, .ld (.s 1) 1 false, .none⟩,
 ⟨some 14, none, .ld (.s 2) 2 true, .none⟩,
 ⟨some 15, none, .fa (.s 3) 9, .none⟩,
 ⟨none, none, .st (.s 15) (.s 13) 1, .none⟩,
 ⟨some 16, none, .fa (.s 3) 10, .none⟩,
 ⟨none, none, .st (.s 16) (.s 14) 2, .none⟩]
 [[], [], [0], [2, 0, 0], [0, 1, 2, 3], [4, 1, 3, 0, 1, 2, 3]] [(2, 15)])
 .skip))
 (.ann [1, 3, 4] (.seq (.seq (.reg [⟨some 17, none, .fa (.s 3) 0, .none⟩,
 ⟨some 18, none, .ld (.s 17) 1 false, .none⟩,
 ⟨some 19, none, .mv (.s 18), .none⟩,
 ⟨some 20, some (19, true), .fa (.s 3) 1, .none⟩,
 ⟨some 21, some (19, true), .fa (.s 20) 1, .none⟩,
 ⟨some 22, some (19, true), .ld (.s 21) 1 false, .none⟩,
 ⟨some 23, some (19, true), .ld (.s 1) 1 false, .none⟩,
 ⟨some 24, some (19, true), .bin .leq (.s 22) (.s 23), .none⟩,
 ⟨some 25, none, .pick (.s 19) (.s 24) (.c (.d (.bool false))), .none⟩])
 (.cond (.s 25)
 (.reg [⟨some 26, none, .build [.int .i64 0, .int .i64 0, .str [], .int .i64 0, .int .i64 0] [], .none⟩,
 ⟨some 27, none, .build [.int .i64 0, .int .i64 0] [], .none⟩,
 ⟨some 28, none, .fa (.s 3) 0, .none⟩,
 ⟨none, none, .st (.s 28) (.c (.d (.bool false))) 1, .none⟩,
 ⟨some 29, none, .fa (.s 3) 1, .none⟩,
 ⟨none, none, .st (.s 29) (.s 26) 5, .none⟩,
 ⟨some 30, none, .fa (.s 3) 6, .none⟩,
 ⟨none, none, .st (.s 30) (.s 27) 2, .none⟩,
 ⟨some 31, none, .fa (.s 3) 8, .none⟩,
 ⟨none, none, .st (.s 31) (.c (.d .nilm)) 1, .none⟩])
 .skip))
 (.ann [3, 4] (.seq (.reg [⟨some 32, none, .ld (.s 3) 12 true, .none⟩,
 ⟨none, none, .st (.s 4) (.s 32) 12, .none⟩])
 (.ret none)))))))
def ir67 : F := { n := 33, res := [.cell 4 12 true], body := bd67 }
@[go_sem] theorem n67 : ir67.n = 33 := rfl
@[go_sem] theorem r67 : ir67.res = [.cell 4 12 true] := rfl
@[go_sem] theorem b67 : ir67.body = bd67 := rfl
def lb68_0 : C :=
 (.seq (.reg [⟨some 14, none, .bin .lss (.s 13) (.s 12), .none⟩])
 (.seq (.cond (.s 14)
 .skip
 (.exit 0 (some [])))
 (.seq (.block 1 (.seq (.reg [⟨some 15, none, .mv (.s 13), .none⟩,
 ⟨some 5, none, .mv (.s 15), .none⟩])
 (.seq (.drw [⟨some 16, none, .mv (.s 0), .none⟩,
 ⟨some 17, none, .mv (.s 5), .none⟩,
 ⟨some 18, none, .is (.s 16) (.s 17) 1, .none⟩,
 ⟨some 19, none, .ld (.s 18) 1 false, .none⟩,
 ⟨some 20, none, .mv (.s 1), .none⟩,
 ⟨some 21, none, .mv (.s 5), .none⟩,
 ⟨some 22, none, .is (.s 20) (.s 21) 1, .none⟩,
 ⟨some 23, none, .ld (.s 22) 1 false, .none⟩,
 ⟨some 24, none, .bin .neq (.s 19) (.s 23), .none⟩]
 [[], [], [0, 1], [2], [], [], [4, 5], [6], [3, 7]] [])
 (.cond (.s 24)
 (.seq (.reg [⟨some 4, none, .mv (.c (.d (.bool false))), .none⟩])
 (.ret (some [4])))
 .skip))))
 (.reg [⟨some 25, none, .bin .add (.s 13) (.c (.d (.int .i64 1))), .none⟩,
 ⟨some 13, none, .mv (.s 25), .none⟩]))))
def lp68_0 : C := lb68_0
theorem u68_0 (c : Ev.Callee) (l : Ev.Looper) (s : St) : evC c l lp68_0 s = evC c l lb68_0 s := rfl
abbrev st68_0 (m : Nat) (s0 s1 s12 s13 : AV) (h : Heap) : St := ⟨m, [s0, s1, .unk, .unk, .unk, .unk, .unk, .unk, .unk, .unk, .unk, .unk, s12, s13, .unk, .unk, .unk, .unk, .unk, .unk, .unk, .unk, .unk, .unk, .unk, .unk], h⟩
@[go_sem] theorem ks68_0 (v0 v1 v2 v3 v4 v5 v6 v7 v8 v9 v10 v11 v12 v13 v14 v15 v16 v17 v18 v19 v20 v21 v22 v23 v24 v25 : AV) : keepS [0, 1, 12, 13] [v0, v1, v2, v3, v4, v5, v6, v7, v8, v9, v10, v11, v12, v13, v14, v15, v16, v17, v18, v19, v20, v21, v22, v23, v24, v25] 0 = [v0, v1, .unk, .unk, .unk, .unk, .unk, .unk, .unk, .unk, .unk, .unk, v12, v13, .unk, .unk, .unk, .unk, .unk, .unk, .unk, .unk, .unk, .unk, .unk, .unk] := rfl
@[go_sem] theorem ks68_1 (v0 v1 v2 v3 v4 v5 v6 v7 v8 v9 v10 v11 v12 v13 v14 v15 v16 v17 v18 v19 v20 v21 v22 v23 v24 v25 : AV) : keepS [] [v0, v1, v2, v3, v4, v5, v6, v7, v8, v9, v10, v11, v12, v13, v14, v15, v16, v17, v18, v19, v20, v21, v22, v23, v24, v25] 0 = [.unk, .unk, .unk, .unk, .unk, .unk, .unk, .unk, .unk, .unk, .unk, .unk, .unk, .unk, .unk, .unk, .unk, .unk, .unk, .unk, .unk, .unk, .unk, .unk, .unk, .unk] := rfl
@[go_sem] theorem ks68_2 (v0 v1 v2 v3 v4 v5 v6 v7 v8 v9 v10 v11 v12 v13 v14 v15 v16 v17 v18 v19 v20 v21 v22 v23 v24 v25 : AV) : keepS [4] [v0, v1, v2, v3, v4, v5, v6, v7, v8, v9, v10, v11, v12, v13, v14, v15, v16, v17, v18, v19, v20, v21, v22, v23, v24, v25] 0 = [.unk, .unk, .unk, .unk, v4, .unk, .unk, .unk, .unk, .unk, .unk, .unk, .unk, .unk, .unk, .unk, .unk, .unk, .unk, .unk, .unk, .unk, .unk, .unk, .unk, .unk] := rfl
/-- spence/spenceref01.Bytes -/
def bd68 : C :=
 (.seq (.reg [⟨some 4, none, .mv (.c (.d (.bool false))), .none⟩])
 (.seq (.seq (.reg [⟨some 6, none, .mv (.s 0), .none⟩,
 ⟨some 7, none, .len (.s 6), .none⟩,
 ⟨some 8, none, .mv (.s 1), .none⟩,
 ⟨some 9, none, .len (.s 8), .none⟩,
 ⟨some 10, none, .bin .neq (.s 7) (.s 9), .none⟩])
 (.cond (.s 10)
 (.seq (.reg [⟨some 4, none, .mv (.c (.d (.bool false))), .none⟩])
 (.ret none))
 .skip))
 (.seq (.seq (.reg [⟨some 11, none, .mv (.s 0), .none⟩,
 ⟨some 12, none, .len (.s 11), .none⟩,
 ⟨some 13, none, .mv (.c (.d (.int .i64 0))), .none⟩])
 (.block 0 (.loop [0, 1, 12, 13] lp68_0)))
 (.seq (.reg [⟨some 4, none, .mv (.c (.d (.bool true))), .none⟩])
 (.ret none)))))
def ir68 : F := { n := 26, res := [.tmp 4], body := bd68 }
@[go_sem] theorem n68 : ir68.n = 26 := rfl
@[go_sem] theorem r68 : ir68.res = [.tmp 4] := rfl
@[go_sem] theorem b68 : ir68.body = bd68 := rfl
/-- spence/index.may -/
def bd69 : C :=
 (.seq (.reg [⟨some 2, none, .mv (.c (.d (.bool false))), .none⟩])
 (.seq (.reg [⟨some 3, none, .mv (.s 0), .none⟩,
 ⟨some 4, none, .bin .geq (.s 3) (.c (.d (.int .i64 0))), .none⟩,
 ⟨some 5, none, .mv (.s 4), .none⟩,
 ⟨some 6, some (5, true), .mv (.s 0), .none⟩,
 ⟨some 7, some (5, true), .bin .lss (.s 6) (.c (.d (.int .i64 16))), .none⟩,
 ⟨some 8, none, .pick (.s 5) (.s 7) (.c (.d (.bool false))), .none⟩,
 ⟨some 2, none, .mv (.s 8), .none⟩])
 (.ret none)))
def ir69 : F := { n := 9, res := [.tmp 2], body := bd69 }
@[go_sem] theorem n69 : ir69.n = 9 := rfl
@[go_sem] theorem r69 : ir69.res = [.tmp 2] := rfl
@[go_sem] theorem b69 : ir69.body = bd69 := rfl
def lb72_0 : C :=
 (.seq (.reg [⟨some 6, none, .bad, .none⟩,
 ⟨some 7, none, .ext (.s 6) 0, .none⟩])
 (.seq (.cond (.s 7)
 .skip
 (.exit 0 (some [])))
 (.block 1 (.seq (.reg [⟨some 8, none, .bad, .none⟩,
 ⟨some 9, none, .ext (.s 8) 0, .none⟩,
 ⟨some 3, none, .mv (.s 9), .none⟩])
 (.seq (.reg [⟨some 10, none, .mv (.s 0), .none⟩,
 ⟨some 11, none, .mv (.s 3), .none⟩,
 ⟨some 12, none, .callv (.s 10) [.s 11] 0, .none⟩,
 ⟨some 13, none, .un .not (.s 12), .none⟩])
 (.cond (.s 13)
 (.ret (some []))
 .skip))))))
def lp72_0 : C := lb72_0
theorem u72_0 (c : Ev.Callee) (l : Ev.Looper) (s : St) : evC c l lp72_0 s = evC c l lb72_0 s := rfl
abbrev st72_0 (m : Nat) (s0 : AV) (h : Heap) : St := ⟨m, [s0, .unk, .unk, .unk, .unk, .unk, .unk, .unk, .unk, .unk, .unk, .unk, .unk, .unk], h⟩
@[go_sem] theorem ks72_0 (v0 v1 v2 v3 v4 v5 v6 v7 v8 v9 v10 v11 v12 v13 : AV) : keepS [0] [v0, v1, v2, v3, v4, v5, v6, v7, v8, v9, v10, v11, v12, v13] 0 = [v0, .unk, .unk, .unk, .unk, .unk, .unk, .unk, .unk, .unk, .unk, .unk, .unk, .unk] := rfl
@[go_sem] theorem ks72_1 (v0 v1 v2 v3 v4 v5 v6 v7 v8 v9 v10 v11 v12 v13 : AV) : keepS [] [v0, v1, v2, v3, v4, v5, v6, v7, v8, v9, v10, v11, v12, v13] 0 = [.unk, .unk, .unk, .unk, .unk, .unk, .unk, .unk, .unk, .unk, .unk, .unk, .unk, .unk] := rfl
/-- maps.Keys[map[int]spence/api.Addr,int,spence/api.Addr]$1 -/
def bd72 : C :=
 (.seq (.reg [⟨some 4, none, .ld (.s 1) 1 false, .none⟩,
 ⟨some 5, none, .bad, .none⟩])
 (.block 0 (.loop [0] lp72_0)))
def ir72 : F := { n := 14, res := [], body := bd72 }
@[go_sem] theorem n72 : ir72.n = 14 := rfl
@[go_sem] theorem r72 : ir72.res = [] := rfl
@[go_sem] theorem b72 : ir72.body = bd72 := rfl
@[go_sem] theorem ks73_0 (v0 v1 v2 v3 v4 v5 v6 v7 v8 v9 v10 v11 v12 v13 v14 v15 v16 v17 v18 : AV) : keepS [2, 4] [v0, v1, v2, v3, v4, v5, v6, v7, v8, v9, v10, v11, v12, v13, v14, v15, v16, v17, v18] 0 = [.unk, .unk, v2, .unk, v4, .unk, .unk, .unk, .unk, .unk, .unk, .unk, .unk, .unk, .unk, .unk, .unk, .unk, .unk] := rfl
/-- (spence/bitmap.Map).With -/
def bd73 : C :=
 (.seq (.reg [⟨some 2, none, .box 79 (.s 0), .none⟩,
 ⟨some 4, none, .alloc 79 [.int .u64 0, .int .u64 0, .int .u64 0, .int .u64 0, .int .u64 0, .int .u64 0, .int .u64 0, .int .u64 0, .int .u64 0, .int .u64 0, .int .u64 0, .int .u64 0, .int .u64 0, .int .u64 0, .int .u64 0, .int .u64 0, .int .u64 0, .int .u64 0, .int .u64 0, .int .u64 0, .int .u64 0, .int .u64 0, .int .u64 0, .int .u64 0, .int .u64 0, .int .u64 0, .int .u64 0, .int .u64 0, .int .u64 0, .int .u64 0, .int .u64 0, .int .u64 0, .int .u64 0, .int .u64 0, .int .u64 0, .int .u64 0, .int .u64 0, .int .u64 0, .int .u64 0, .int .u64 0, .int .u64 0, .int .u64 0, .int .u64 0, .int .u64 0, .int .u64 0, .int .u64 0, .int .u64 0, .int .u64 0, .int .u64 0, .int .u64 0, .int .u64 0, .int .u64 0, .int .u64 0, .int .u64 0, .int .u64 0, .int .u64 0, .int .u64 0, .int .u64 0, .int .u64 0, .int .u64 0, .int .u64 0, .int .u64 0, .int .u64 0, .int .u64 0, .int .u64 0], .none⟩])
 (.seq (.seq (.reg [⟨some 5, none, .mv (.s 1), .none⟩,
 ⟨some 6, none, .call 85 [.s 5] 2, .none⟩])
 (.cond (.s 6)
 (.drw [⟨some 7, none, .mv (.s 1), .none⟩,
 ⟨some 8, none, .bin .quo (.s 7) (.c (.d (.int .i64 64))), .none⟩,
 ⟨some 9, none, .fa (.s 2) 0, .none⟩,
 ⟨some 10, none, .ia (.s 9) (.s 8) 65 1, .none⟩,
 ⟨some 11, none, .ld (.s 10) 1 false, .none⟩,
 ⟨some 12, none, .mv (.s 1), .none⟩,
 ⟨some 13, none, .bin .rem (.s 12) (.c (.d (.int .i64 64))), .none⟩,
 ⟨some 14, none, .bin .shl (.c (.d (.int .u64 1))) (.s 13), .none⟩,
 ⟨some 15, none, .bin .or (.s 11) (.s 14), .none⟩,
 ⟨some 16, none, .fa (.s 2) 0, .none⟩,
 ⟨some 17, none, .ia (.s 16) (.s 8) 65 1, .none⟩,
 ⟨none, none, .st (.s 17) (.s 15) 1, .none⟩]
 [[], [0], [], [2, 1], [3], [], [5], [6], [4, 7], [], [9, 1, 0, 1, 2, 3, 4, 5, 6, 7, 8], [10, 8, 0, 1, 2, 3, 4, 5, 6, 7, 8]] [])
 .skip))
 (.ann [2, 4] (.seq (.reg [⟨some 18, none, .ld (.s 2) 65 true, .none⟩,
 ⟨none, none, .st (.s 4) (.s 18) 65, .none⟩])
 (.ret none)))))
def ir73 : F := { n := 19, res := [.cell 4 65 true], body := bd73 }
@[go_sem] theorem n73 : ir73.n = 19 := rfl
@[go_sem] theorem r73 : ir73.res = [.cell 4 65 true] := rfl
@[go_sem] theorem b73 : ir73.body = bd73 := rfl
def lb76_0 : C :=
 (.seq (.reg [⟨some 40, none, .bin .lss (.s 39) (.s 38), .none⟩])
 (.seq (.cond (.s 40)
 .skip
 (.exit 0 (some [8])))
 (.seq (.block 1 (.seq (.reg [⟨some 41, none, .is (.s 37) (.s 39) 1, .none⟩,
 ⟨some 42, none, .ld (.s 41) 1 false, .none⟩,
 ⟨some 10, none, .mv (.s 42), .none⟩])
 (.reg [⟨some 43, none, .mv (.s 8), .none⟩,
 ⟨some 44, none, .bin .shl (.s 43) (.c (.d (.int .u64 8))), .none⟩,
 ⟨some 45, none, .mv (.s 10), .none⟩,
 ⟨some 46, none, .cvi .u64 (.s 45), .none⟩,
 ⟨some 47, none, .bin .or (.s 44) (.s 46), .none⟩,
 ⟨some 8, none, .mv (.s 47), .none⟩])))
 (.reg [⟨some 48, none, .bin .add (.s 39) (.c (.d (.int .i64 1))), .none⟩,
 ⟨some 39, none, .mv (.s 48), .none⟩]))))
def lp76_0 : C := lb76_0
theorem u76_0 (c : Ev.Callee) (l : Ev.Looper) (s : St) : evC c l lp76_0 s = evC c l lb76_0 s := rfl
abbrev st76_0 (m : Nat) (s8 s37 s38 s39 : AV) (h : Heap) : St := ⟨m, [.unk, .unk, .unk, .unk, .unk, .unk, .unk, .unk, s8, .unk, .unk, .unk, .unk, .unk, .unk, .unk, .unk, .unk, .unk, .unk, .unk, .unk, .unk, .unk, .unk, .unk, .unk, .unk, .unk, .unk, .unk, .unk, .unk, .unk, .unk, .unk, .unk, s37, s38, s39, .unk, .unk, .unk, .unk, .unk, .unk, .unk, .unk, .unk, .unk], h⟩
@[go_sem] theorem ks76_0 (v0 v1 v2 v3 v4 v5 v6 v7 v8 v9 v10 v11 v12 v13 v14 v15 v16 v17 v18 v19 v20 v21 v22 v23 v24 v25 v26 v27 v28 v29 v30 v31 v32 v33 v34 v35 v36 v37 v38 v39 v40 v41 v42 v43 v44 v45 v46 v47 v48 v49 : AV) : keepS [8, 37, 38, 39] [v0, v1, v2, v3, v4, v5, v6, v7, v8, v9, v10, v11, v12, v13, v14, v15, v16, v17, v18, v19, v20, v21, v22, v23, v24, v25, v26, v27, v28, v29, v30, v31, v32, v33, v34, v35, v36, v37, v38, v39, v40, v41, v42, v43, v44, v45, v46, v47, v48, v49] 0 = [.unk, .unk, .unk, .unk, .unk, .unk, .unk, .unk, v8, .unk, .unk, .unk, .unk, .unk, .unk, .unk, .unk, .unk, .unk, .unk, .unk, .unk, .unk, .unk, .unk, .unk, .unk, .unk, .unk, .unk, .unk, .unk, .unk, .unk, .unk, .unk, .unk, v37, v38, v39, .unk, .unk, .unk, .unk, .unk, .unk, .unk, .unk, .unk, .unk] := rfl
@[go_sem] theorem ks76_1 (v0 v1 v2 v3 v4 v5 v6 v7 v8 v9 v10 v11 v12 v13 v14 v15 v16 v17 v18 v19 v20 v21 v22 v23 v24 v25 v26 v27 v28 v29 v30 v31 v32 v33 v34 v35 v36 v37 v38 v39 v40 v41 v42 v43 v44 v45 v46 v47 v48 v49 : AV) : keepS [8] [v0, v1, v2, v3, v4, v5, v6, v7, v8, v9, v10, v11, v12, v13, v14, v15, v16, v17, v18, v19, v20, v21, v22, v23, v24, v25, v26, v27, v28, v29, v30, v31, v32, v33, v34, v35, v36, v37, v38, v39, v40, v41, v42, v43, v44, v45, v46, v47, v48, v49] 0 = [.unk, .unk, .unk, .unk, .unk, .unk, .unk, .unk, v8, .unk, .unk, .unk, .unk, .unk, .unk, .unk, .unk, .unk, .unk, .unk, .unk, .unk, .unk, .unk, .unk, .unk, .unk, .unk, .unk, .unk, .unk, .unk, .unk, .unk, .unk, .unk, .unk, .unk, .unk, .unk, .unk, .unk, .unk, .unk, .unk, .unk, .unk, .unk, .unk, .unk] := rfl
/-- spence/nums.Get -/
def bd76 : C :=
 (.seq (.reg [⟨some 6, none, .mv (.c (.d (.int .u64 0))), .none⟩,
 ⟨some 7, none, .mv (.c (.d (.bool false))), .none⟩])
 (.seq (.seq (.reg [⟨some 11, none, .mv (.s 2), .none⟩,
 ⟨some 12, none, .call 77 [.s 11, .c (.d (.int .i64 0)), .c (.d (.int .i64 8))] 2, .none⟩,
 ⟨some 13, none, .un .not (.s 12), .none⟩,
 ⟨some 14, none, .mv (.s 13), .none⟩,
 ⟨some 15, some (14, false), .mv (.s 1), .none⟩,
 ⟨some 16, some (14, false), .bin .lss (.s 15) (.c (.d (.int .i64 0))), .none⟩,
 ⟨some 17, none, .pick (.s 14) (.c (.d (.bool true))) (.s 16), .none⟩,
 ⟨some 18, none, .mv (.s 17), .none⟩,
 ⟨some 19, some (18, false), .mv (.s 1), .none⟩,
 ⟨some 20, some (18, false), .mv (.s 0), .none⟩,
 ⟨some 21, some (18, false), .len (.s 20), .none⟩,
 ⟨some 22, some (18, false), .bin .gtr (.s 19) (.s 21), .none⟩,
 ⟨some 23, none, .pick (.s 18) (.c (.d (.bool true))) (.s 22), .none⟩,
 ⟨some 24, none, .mv (.s 23), .none⟩,
 ⟨some 25, some (24, false), .mv (.s 2), .none⟩,
 ⟨some 26, some (24, false), .mv (.s 0), .none⟩,
 ⟨some 27, some (24, false), .len (.s 26), .none⟩,
 ⟨some 28, some (24, false), .mv (.s 1), .none⟩,
 ⟨some 29, some (24, false), .bin .sub (.s 27) (.s 28), .none⟩,
 ⟨some 30, some (24, false), .bin .gtr (.s 25) (.s 29), .none⟩,
 ⟨some 31, none, .pick (.s 24) (.c (.d (.bool true))) (.s 30), .none⟩])
 (.cond (.s 31)
 (.seq (.reg [⟨some 6, none, .mv (.c (.d (.int .u64 0))), .none⟩,
 ⟨some 7, none, .mv (.c (.d (.bool false))), .none⟩])
 (.ret none))
 .skip))
 (.seq (.reg [⟨some 8, none, .mv (.c (.d (.int .u64 0))), .none⟩])
 (.seq (.seq (.reg [⟨some 32, none, .mv (.s 0), .none⟩,
 ⟨some 33, none, .mv (.s 1), .none⟩,
 ⟨some 34, none, .mv (.s 1), .none⟩,
 ⟨some 35, none, .mv (.s 2), .none⟩,
 ⟨some 36, none, .bin .add (.s 34) (.s 35), .none⟩,
 ⟨some 37, none, .sl (.s 32) (some (.s 33)) (some (.s 36)) none 1, .none⟩,
 ⟨some 38, none, .len (.s 37), .none⟩,
 ⟨some 39, none, .mv (.c (.d (.int .i64 0))), .none⟩])
 (.block 0 (.loop [8, 37, 38, 39] lp76_0)))
 (.seq (.reg [⟨some 49, none, .mv (.s 8), .none⟩,
 ⟨some 6, none, .mv (.s 49), .none⟩,
 ⟨some 7, none, .mv (.c (.d (.bool true))), .none⟩])
 (.ret none))))))
def ir76 : F := { n := 50, res := [.tmp 6, .tmp 7], body := bd76 }
@[go_sem] theorem n76 : ir76.n = 50 := rfl
@[go_sem] theorem r76 : ir76.res = [.tmp 6, .tmp 7] := rfl
@[go_sem] theorem b76 : ir76.body = bd76 := rfl
/-- spence/nums.Fits -/
def bd77 : C :=
 (.seq (.reg [⟨some 6, none, .mv (.c (.d (.bool false))), .none⟩])
 (.seq (.reg [⟨some 7, none, .mv (.s 0), .none⟩,
 ⟨some 8, none, .mv (.s 1), .none⟩,
 ⟨some 9, none, .bin .geq (.s 7) (.s 8), .none⟩,
 ⟨some 10, none, .mv (.s 9), .none⟩,
 ⟨some 11, some (10, true), .mv (.s 0), .none⟩,
 ⟨some 12, some (10, true), .mv (.s 2), .none⟩,
 ⟨some 13, some (10, true), .bin .leq (.s 11) (.s 12), .none⟩,
 ⟨some 14, none, .pick (.s 10) (.s 13) (.c (.d (.bool false))), .none⟩,
 ⟨some 6, none, .mv (.s 14), .none⟩])
 (.ret none)))
def ir77 : F := { n := 15, res := [.tmp 6], body := bd77 }
@[go_sem] theorem n77 : ir77.n = 15 := rfl
@[go_sem] theorem r77 : ir77.res = [.tmp 6] := rfl
@[go_sem] theorem b77 : ir77.body = bd77 := rfl
/-- spence/etag.Right -/
def bd78 : C :=
 (.seq (.reg [⟨some 1, none, .box 137 (.s 0), .none⟩,
 ⟨some 2, none, .mv (.c (.d (.bool false))), .none⟩])
 (.seq (.reg [⟨some 3, none, .fa (.s 1) 1, .none⟩,
 ⟨some 4, none, .ld (.s 3) 1 false, .none⟩,
 ⟨some 5, none, .call 86 [.s 4] 2, .none⟩,
 ⟨some 6, none, .mv (.s 5), .none⟩,
 ⟨some 7, some (6, true), .fa (.s 1) 1, .none⟩,
 ⟨some 8, some (6, true), .ld (.s 7) 1 false, .none⟩,
 ⟨some 9, some (6, true), .lens (.s 8), .none⟩,
 ⟨some 10, some (6, true), .bin .leq (.s 9) (.c (.d (.int .i64 40))), .none⟩,
 ⟨some 11, none, .pick (.s 6) (.s 10) (.c (.d (.bool false))), .none⟩,
 ⟨some 2, none, .mv (.s 11), .none⟩])
 (.ret none)))
def ir78 : F := { n := 12, res := [.tmp 2], body := bd78 }
@[go_sem] theorem n78 : ir78.n = 12 := rfl
@[go_sem] theorem r78 : ir78.res = [.tmp 2] := rfl
@[go_sem] theorem b78 : ir78.body = bd78 := rfl
/-- spence/spenceref17.owner -/
def bd79 : C :=
 (.seq (.reg [⟨some 4, none, .mv (.c (.d (.bool false))), .none⟩])
 (.seq (.reg [⟨some 5, none, .mv (.s 0), .none⟩,
 ⟨some 6, none, .bin .geq (.s 5) (.c (.d (.int .i64 0))), .none⟩,
 ⟨some 7, none, .mv (.s 6), .none⟩,
 ⟨some 8, some (7, true), .mv (.s 0), .none⟩,
 ⟨some 9, some (7, true), .bin .leq (.s 8) (.c (.d (.int .i64 15))), .none⟩,
 ⟨some 10, none, .pick (.s 7) (.s 9) (.c (.d (.bool false))), .none⟩,
 ⟨some 11, none, .mv (.s 10), .none⟩,
 ⟨some 12, some (11, true), .mv (.s 1), .none⟩,
 ⟨some 13, some (11, true), .bin .geq (.s 12) (.c (.d (.int .i64 1))), .none⟩,
 ⟨some 14, none, .pick (.s 11) (.s 13) (.c (.d (.bool false))), .none⟩,
 ⟨some 15, none, .mv (.s 14), .none⟩,
 ⟨some 16, some (15, true), .mv (.s 1), .none⟩,
 ⟨some 17, some (15, true), .bin .leq (.s 16) (.c (.d (.int .i64 2147483647))), .none⟩,
 ⟨some 18, none, .pick (.s 15) (.s 17) (.c (.d (.bool false))), .none⟩,
 ⟨some 4, none, .mv (.s 18), .none⟩])
 (.ret none)))
def ir79 : F := { n := 19, res := [.tmp 4], body := bd79 }
@[go_sem] theorem n79 : ir79.n = 19 := rfl
@[go_sem] theorem r79 : ir79.res = [.tmp 4] := rfl
@[go_sem] theorem b79 : ir79.body = bd79 := rfl
def lb80_0 : C :=
 (.seq (.seq (.reg [⟨some 5, none, .mv (.s 3), .none⟩,
 ⟨some 6, none, .mv (.s 0), .none⟩,
 ⟨some 7, none, .lens (.s 6), .none⟩,
 ⟨some 8, none, .bin .lss (.s 5) (.s 7), .none⟩])
 (.cond (.s 8)
 .skip
 (.exit 0 (some []))))
 (.seq (.block 1 (.seq (.reg [⟨some 11, none, .mv (.s 0), .none⟩,
 ⟨some 12, none, .mv (.s 3), .none⟩,
 ⟨some 13, none, .sti (.s 11) (.s 12), .none⟩,
 ⟨some 4, none, .mv (.s 13), .none⟩])
 (.seq (.reg [⟨some 14, none, .mv (.s 4), .none⟩,
 ⟨some 15, none, .bin .neq (.s 14) (.c (.d (.int .u8 33))), .none⟩,
 ⟨some 16, none, .mv (.s 15), .none⟩,
 ⟨some 17, some (16, true), .mv (.s 4), .none⟩,
 ⟨some 18, some (16, true), .bin .lss (.s 17) (.c (.d (.int .u8 35))), .none⟩,
 ⟨some 19, some (16, true), .mv (.s 18), .none⟩,
 ⟨some 20, some (19, false), .mv (.s 4), .none⟩,
 ⟨some 21, some (19, false), .bin .eql (.s 20) (.c (.d (.int .u8 127))), .none⟩,
 ⟨some 22, some (16, true), .pick (.s 19) (.c (.d (.bool true))) (.s 21), .none⟩,
 ⟨some 23, none, .pick (.s 16) (.s 22) (.c (.d (.bool false))), .none⟩])
 (.cond (.s 23)
 (.seq (.reg [⟨some 2, none, .mv (.c (.d (.bool false))), .none⟩])
 (.ret (some [2])))
 .skip))))
 (.reg [⟨some 9, none, .mv (.s 3), .none⟩,
 ⟨some 10, none, .bin .add (.s 9) (.c (.d (.int .i64 1))), .none⟩,
 ⟨some 3, none, .mv (.s 10), .none⟩])))
def lp80_0 : C := lb80_0
theorem u80_0 (c : Ev.Callee) (l : Ev.Looper) (s : St) : evC c l lp80_0 s = evC c l lb80_0 s := rfl
abbrev st80_0 (m : Nat) (s0 s3 : AV) (h : Heap) : St := ⟨m, [s0, .unk, .unk, s3, .unk, .unk, .unk, .unk, .unk, .unk, .unk, .unk, .unk, .unk, .unk, .unk, .unk, .unk, .unk, .unk, .unk, .unk, .unk, .unk], h⟩
@[go_sem] theorem ks80_0 (v0 v1 v2 v3 v4 v5 v6 v7 v8 v9 v10 v11 v12 v13 v14 v15 v16 v17 v18 v19 v20 v21 v22 v23 : AV) : keepS [0, 3] [v0, v1, v2, v3, v4, v5, v6, v7, v8, v9, v10, v11, v12, v13, v14, v15, v16, v17, v18, v19, v20, v21, v22, v23] 0 = [v0, .unk, .unk, v3, .unk, .unk, .unk, .unk, .unk, .unk, .unk, .unk, .unk, .unk, .unk, .unk, .unk, .unk, .unk, .unk, .unk, .unk, .unk, .unk] := rfl
@[go_sem] theorem ks80_1 (v0 v1 v2 v3 v4 v5 v6 v7 v8 v9 v10 v11 v12 v13 v14 v15 v16 v17 v18 v19 v20 v21 v22 v23 : AV) : keepS [] [v0, v1, v2, v3, v4, v5, v6, v7, v8, v9, v10, v11, v12, v13, v14, v15, v16, v17, v18, v19, v20, v21, v22, v23] 0 = [.unk, .unk, .unk, .unk, .unk, .unk, .unk, .unk, .unk, .unk, .unk, .unk, .unk, .unk, .unk, .unk, .unk, .unk, .unk, .unk, .unk, .unk, .unk, .unk] := rfl
@[go_sem] theorem ks80_2 (v0 v1 v2 v3 v4 v5 v6 v7 v8 v9 v10 v11 v12 v13 v14 v15 v16 v17 v18 v19 v20 v21 v22 v23 : AV) : keepS [2] [v0, v1, v2, v3, v4, v5, v6, v7, v8, v9, v10, v11, v12, v13, v14, v15, v16, v17, v18, v19, v20, v21, v22, v23] 0 = [.unk, .unk, v2, .unk, .unk, .unk, .unk, .unk, .unk, .unk, .unk, .unk, .unk, .unk, .unk, .unk, .unk, .unk, .unk, .unk, .unk, .unk, .unk, .unk] := rfl
/-- spence/spenceref04.Tag -/
def bd80 : C :=
 (.seq (.reg [⟨some 2, none, .mv (.c (.d (.bool false))), .none⟩])
 (.seq (.seq (.reg [⟨some 3, none, .mv (.c (.d (.int .i64 0))), .none⟩])
 (.block 0 (.loop [0, 3] lp80_0)))
 (.seq (.reg [⟨some 2, none, .mv (.c (.d (.bool true))), .none⟩])
 (.ret none))))
def ir80 : F := { n := 24, res := [.tmp 2], body := bd80 }
@[go_sem] theorem n80 : ir80.n = 24 := rfl
@[go_sem] theorem r80 : ir80.res = [.tmp 2] := rfl
@[go_sem] theorem b80 : ir80.body = bd80 := rfl
/-- spence/bitmap.may -/
def bd85 : C :=
 (.seq (.reg [⟨some 2, none, .mv (.c (.d (.bool false))), .none⟩])
 (.seq (.reg [⟨some 3, none, .mv (.s 0), .none⟩,
 ⟨some 4, none, .bin .geq (.s 3) (.c (.d (.int .i64 0))), .none⟩,
 ⟨some 5, none, .mv (.s 4), .none⟩,
 ⟨some 6, some (5, true), .mv (.s 0), .none⟩,
 ⟨some 7, some (5, true), .bin .leq (.s 6) (.c (.d (.int .i64 4096))), .none⟩,
 ⟨some 8, none, .pick (.s 5) (.s 7) (.c (.d (.bool false))), .none⟩,
 ⟨some 2, none, .mv (.s 8), .none⟩])
 (.ret none)))
def ir85 : F := { n := 9, res := [.tmp 2], body := bd85 }
@[go_sem] theorem n85 : ir85.n = 9 := rfl
@[go_sem] theorem r85 : ir85.res = [.tmp 2] := rfl
@[go_sem] theorem b85 : ir85.body = bd85 := rfl
def lb86_0 : C :=
 (.seq (.reg [⟨some 7, none, .bin .lss (.s 6) (.s 5), .none⟩])
 (.seq (.cond (.s 7)
 .skip
 (.exit 0 (some [])))
 (.seq (.block 1 (.seq (.reg [⟨some 8, none, .mv (.s 6), .none⟩,
 ⟨some 3, none, .mv (.s 8), .none⟩])
 (.seq (.reg [⟨some 9, none, .mv (.s 0), .none⟩,
 ⟨some 10, none, .mv (.s 3), .none⟩,
 ⟨some 11, none, .sti (.s 9) (.s 10), .none⟩,
 ⟨some 12, none, .call 98 [.s 11] 2, .none⟩,
 ⟨some 13, none, .un .not (.s 12), .none⟩])
 (.cond (.s 13)
 (.seq (.reg [⟨some 2, none, .mv (.c (.d (.bool false))), .none⟩])
 (.ret (some [2])))
 .skip))))
 (.reg [⟨some 14, none, .bin .add (.s 6) (.c (.d (.int .i64 1))), .none⟩,
 ⟨some 6, none, .mv (.s 14), .none⟩]))))
def lp86_0 : C := lb86_0
theorem u86_0 (c : Ev.Callee) (l : Ev.Looper) (s : St) : evC c l lp86_0 s = evC c l lb86_0 s := rfl
abbrev st86_0 (m : Nat) (s0 s5 s6 : AV) (h : Heap) : St := ⟨m, [s0, .unk, .unk, .unk, .unk, s5, s6, .unk, .unk, .unk, .unk, .unk, .unk, .unk, .unk], h⟩
@[go_sem] theorem ks86_0 (v0 v1 v2 v3 v4 v5 v6 v7 v8 v9 v10 v11 v12 v13 v14 : AV) : keepS [0, 5, 6] [v0, v1, v2, v3, v4, v5, v6, v7, v8, v9, v10, v11, v12, v13, v14] 0 = [v0, .unk, .unk, .unk, .unk, v5, v6, .unk, .unk, .unk, .unk, .unk, .unk, .unk, .unk] := rfl
@[go_sem] theorem ks86_1 (v0 v1 v2 v3 v4 v5 v6 v7 v8 v9 v10 v11 v12 v13 v14 : AV) : keepS [] [v0, v1, v2, v3, v4, v5, v6, v7, v8, v9, v10, v11, v12, v13, v14] 0 = [.unk, .unk, .unk, .unk, .unk, .unk, .unk, .unk, .unk, .unk, .unk, .unk, .unk, .unk, .unk] := rfl
@[go_sem] theorem ks86_2 (v0 v1 v2 v3 v4 v5 v6 v7 v8 v9 v10 v11 v12 v13 v14 : AV) : keepS [2] [v0, v1, v2, v3, v4, v5, v6, v7, v8, v9, v10, v11, v12, v13, v14] 0 = [.unk, .unk, v2, .unk, .unk, .unk, .unk, .unk, .unk, .unk, .unk, .unk, .unk, .unk, .unk] := rfl
/-- spence/etag.plain -/
def bd86 : C :=
 (.seq (.reg [⟨some 2, none, .mv (.c (.d (.bool false))), .none⟩])
 (.seq (.seq (.reg [⟨some 4, none, .mv (.s 0), .none⟩,
 ⟨some 5, none, .lens (.s 4), .none⟩,
 ⟨some 6, none, .mv (.c (.d (.int .i64 0))), .none⟩])
 (.block 0 (.loop [0, 5, 6] lp86_0)))
 (.seq (.reg [⟨some 2, none, .mv (.c (.d (.bool true))), .none⟩])
 (.ret none))))
def ir86 : F := { n := 15, res := [.tmp 2], body := bd86 }
@[go_sem] theorem n86 : ir86.n = 15 := rfl
@[go_sem] theorem r86 : ir86.res = [.tmp 2] := rfl
@[go_sem] theorem b86 : ir86.body = bd86 := rfl
/-- spence/etag.may -/
def bd98 : C :=
 (.seq (.reg [⟨some 2, none, .mv (.c (.d (.bool false))), .none⟩])
 (.seq (.block 0 (.seq (.block 3 (.seq (.block 2 (.block 1 (.seq (.seq (.seq (.reg [⟨some 4, none, .mv (.s 0), .none⟩,
 ⟨some 5, none, .bin .geq (.s 4) (.c (.d (.int .u8 128))), .none⟩,
 ⟨some 3, none, .mv (.s 5), .none⟩])
 (.cond (.s 3)
 (.exit 1 none)
 .skip))
 (.seq (.seq (.reg [⟨some 7, none, .mv (.s 0), .none⟩,
 ⟨some 8, none, .bin .eql (.s 7) (.c (.d (.int .u8 33))), .none⟩,
 ⟨some 6, none, .mv (.s 8), .none⟩])
 (.cond (.s 6)
 (.exit 2 none)
 .skip))
 (.seq (.reg [⟨some 10, none, .mv (.s 0), .none⟩,
 ⟨some 11, none, .bin .eql (.s 10) (.c (.d (.int .u8 127))), .none⟩,
 ⟨some 9, none, .mv (.s 11), .none⟩])
 (.cond (.s 9)
 (.exit 3 none)
 .skip))))
 (.exit 0 none))))
 (.seq (.seq (.reg [⟨some 2, none, .mv (.c (.d (.bool true))), .none⟩])
 (.ret none))
 (.exit 0 none))))
 (.seq (.seq (.reg [⟨some 2, none, .mv (.c (.d (.bool false))), .none⟩])
 (.ret none))
 (.exit 0 none))))
 (.seq (.reg [⟨some 12, none, .mv (.s 0), .none⟩,
 ⟨some 13, none, .bin .geq (.s 12) (.c (.d (.int .u8 35))), .none⟩,
 ⟨some 2, none, .mv (.s 13), .none⟩])
 (.ret none))))
def ir98 : F := { n := 14, res := [.tmp 2], body := bd98 }
@[go_sem] theorem n98 : ir98.n = 14 := rfl
@[go_sem] theorem r98 : ir98.res = [.tmp 2] := rfl
@[go_sem] theorem b98 : ir98.body = bd98 := rfl

def irf : FuncId → Option F
 | 3 => some ir3
 | 4 => some ir4
 | 5 => some ir5
 | 6 => some ir6
 | 7 => some ir7
 | 8 => some ir8
 | 9 => some ir9
 | 10 => some ir10
 | 11 => some ir11
 | 12 => some ir12
 | 13 => some ir13
 | 14 => some ir14
 | 15 => some ir15
 | 16 => some ir16
 | 17 => some ir17
 | 18 => some ir18
 | 19 => some ir19
 | 20 => some ir20
 | 21 => some ir21
 | 22 => some ir22
 | 23 => some ir23
 | 24 => some ir24
 | 25 => some ir25
 | 26 => some ir26
 | 27 => some ir27
 | 28 => some ir28
 | 30 => some ir30
 | 31 => some ir31
 | 32 => some ir32
 | 33 => some ir33
 | 34 => some ir34
 | 35 => some ir35
 | 36 => some ir36
 | 37 => some ir37
 | 38 => some ir38
 | 39 => some ir39
 | 40 => some ir40
 | 41 => some ir41
 | 42 => some ir42
 | 43 => some ir43
 | 44 => some ir44
 | 45 => some ir45
 | 47 => some ir47
 | 48 => some ir48
 | 49 => some ir49
 | 50 => some ir50
 | 52 => some ir52
 | 53 => some ir53
 | 55 => some ir55
 | 56 => some ir56
 | 57 => some ir57
 | 58 => some ir58
 | 59 => some ir59
 | 60 => some ir60
 | 61 => some ir61
 | 62 => some ir62
 | 63 => some ir63
 | 64 => some ir64
 | 65 => some ir65
 | 67 => some ir67
 | 68 => some ir68
 | 69 => some ir69
 | 72 => some ir72
 | 73 => some ir73
 | 76 => some ir76
 | 77 => some ir77
 | 78 => some ir78
 | 79 => some ir79
 | 80 => some ir80
 | 85 => some ir85
 | 86 => some ir86
 | 98 => some ir98
 | _ => none
def ir : IR := ⟨irf, natOr (natMC 66) (natOr (natBC 46) (natOr (natSO 51 72) (natOr (natBL 29) (natNo))))⟩
theorem c3 : cF Tryz.prog 3 = some ir3.strip := by kernel_rfl
theorem k3 : ir3.body.okD = true := by kernel_rfl
theorem c4 : cF Tryz.prog 4 = some ir4.strip := by kernel_rfl
theorem k4 : ir4.body.okD = true := by kernel_rfl
theorem c5 : cF Tryz.prog 5 = some ir5.strip := by kernel_rfl
theorem k5 : ir5.body.okD = true := by kernel_rfl
theorem c6 : cF Tryz.prog 6 = some ir6.strip := by kernel_rfl
theorem k6 : ir6.body.okD = true := by kernel_rfl
theorem c7 : cF Tryz.prog 7 = some ir7.strip := by kernel_rfl
theorem k7 : ir7.body.okD = true := by kernel_rfl
theorem c8 : cF Tryz.prog 8 = some ir8.strip := by kernel_rfl
theorem k8 : ir8.body.okD = true := by kernel_rfl
theorem c9 : cF Tryz.prog 9 = some ir9.strip := by kernel_rfl
theorem k9 : ir9.body.okD = true := by kernel_rfl
theorem c10 : cF Tryz.prog 10 = some ir10.strip := by kernel_rfl
theorem k10 : ir10.body.okD = true := by kernel_rfl
theorem c11 : cF Tryz.prog 11 = some ir11.strip := by kernel_rfl
theorem k11 : ir11.body.okD = true := by kernel_rfl
theorem c12 : cF Tryz.prog 12 = some ir12.strip := by kernel_rfl
theorem k12 : ir12.body.okD = true := by kernel_rfl
theorem c13 : cF Tryz.prog 13 = some ir13.strip := by kernel_rfl
theorem k13 : ir13.body.okD = true := by kernel_rfl
theorem c14 : cF Tryz.prog 14 = some ir14.strip := by kernel_rfl
theorem k14 : ir14.body.okD = true := by kernel_rfl
theorem c15 : cF Tryz.prog 15 = some ir15.strip := by kernel_rfl
theorem k15 : ir15.body.okD = true := by kernel_rfl
theorem c16 : cF Tryz.prog 16 = some ir16.strip := by kernel_rfl
theorem k16 : ir16.body.okD = true := by kernel_rfl
theorem c17 : cF Tryz.prog 17 = some ir17.strip := by kernel_rfl
theorem k17 : ir17.body.okD = true := by kernel_rfl
theorem c18 : cF Tryz.prog 18 = some ir18.strip := by kernel_rfl
theorem k18 : ir18.body.okD = true := by kernel_rfl
theorem c19 : cF Tryz.prog 19 = some ir19.strip := by kernel_rfl
theorem k19 : ir19.body.okD = true := by kernel_rfl
theorem c20 : cF Tryz.prog 20 = some ir20.strip := by kernel_rfl
theorem k20 : ir20.body.okD = true := by kernel_rfl
theorem c21 : cF Tryz.prog 21 = some ir21.strip := by kernel_rfl
theorem k21 : ir21.body.okD = true := by kernel_rfl
theorem c22 : cF Tryz.prog 22 = some ir22.strip := by kernel_rfl
theorem k22 : ir22.body.okD = true := by kernel_rfl
theorem c23 : cF Tryz.prog 23 = some ir23.strip := by kernel_rfl
theorem k23 : ir23.body.okD = true := by kernel_rfl
theorem c24 : cF Tryz.prog 24 = some ir24.strip := by kernel_rfl
theorem k24 : ir24.body.okD = true := by kernel_rfl
theorem c25 : cF Tryz.prog 25 = some ir25.strip := by kernel_rfl
theorem k25 : ir25.body.okD = true := by kernel_rfl
theorem c26 : cF Tryz.prog 26 = some ir26.strip := by kernel_rfl
theorem k26 : ir26.body.okD = true := by kernel_rfl
theorem c27 : cF Tryz.prog 27 = some ir27.strip := by kernel_rfl
theorem k27 : ir27.body.okD = true := by kernel_rfl
theorem c28 : cF Tryz.prog 28 = some ir28.strip := by kernel_rfl
theorem k28 : ir28.body.okD = true := by kernel_rfl
theorem c30 : cF Tryz.prog 30 = some ir30.strip := by kernel_rfl
theorem k30 : ir30.body.okD = true := by kernel_rfl
theorem c31 : cF Tryz.prog 31 = some ir31.strip := by kernel_rfl
theorem k31 : ir31.body.okD = true := by kernel_rfl
theorem c32 : cF Tryz.prog 32 = some ir32.strip := by kernel_rfl
theorem k32 : ir32.body.okD = true := by kernel_rfl
theorem c33 : cF Tryz.prog 33 = some ir33.strip := by kernel_rfl
theorem k33 : ir33.body.okD = true := by kernel_rfl
theorem c34 : cF Tryz.prog 34 = some ir34.strip := by kernel_rfl
theorem k34 : ir34.body.okD = true := by kernel_rfl
theorem c35 : cF Tryz.prog 35 = some ir35.strip := by kernel_rfl
theorem k35 : ir35.body.okD = true := by kernel_rfl
theorem c36 : cF Tryz.prog 36 = some ir36.strip := by kernel_rfl
theorem k36 : ir36.body.okD = true := by kernel_rfl
theorem c37 : cF Tryz.prog 37 = some ir37.strip := by kernel_rfl
theorem k37 : ir37.body.okD = true := by kernel_rfl
theorem c38 : cF Tryz.prog 38 = some ir38.strip := by kernel_rfl
theorem k38 : ir38.body.okD = true := by kernel_rfl
theorem c39 : cF Tryz.prog 39 = some ir39.strip := by kernel_rfl
theorem k39 : ir39.body.okD = true := by kernel_rfl
theorem c40 : cF Tryz.prog 40 = some ir40.strip := by kernel_rfl
theorem k40 : ir40.body.okD = true := by kernel_rfl
theorem c41 : cF Tryz.prog 41 = some ir41.strip := by kernel_rfl
theorem k41 : ir41.body.okD = true := by kernel_rfl
theorem c42 : cF Tryz.prog 42 = some ir42.strip := by kernel_rfl
theorem k42 : ir42.body.okD = true := by kernel_rfl
theorem c43 : cF Tryz.prog 43 = some ir43.strip := by kernel_rfl
theorem k43 : ir43.body.okD = true := by kernel_rfl
theorem c44 : cF Tryz.prog 44 = some ir44.strip := by kernel_rfl
theorem k44 : ir44.body.okD = true := by kernel_rfl
theorem c45 : cF Tryz.prog 45 = some ir45.strip := by kernel_rfl
theorem k45 : ir45.body.okD = true := by kernel_rfl
theorem c47 : cF Tryz.prog 47 = some ir47.strip := by kernel_rfl
theorem k47 : ir47.body.okD = true := by kernel_rfl
theorem c48 : cF Tryz.prog 48 = some ir48.strip := by kernel_rfl
theorem k48 : ir48.body.okD = true := by kernel_rfl
theorem c49 : cF Tryz.prog 49 = some ir49.strip := by kernel_rfl
theorem k49 : ir49.body.okD = true := by kernel_rfl
theorem c50 : cF Tryz.prog 50 = some ir50.strip := by kernel_rfl
theorem k50 : ir50.body.okD = true := by kernel_rfl
theorem c52 : cF Tryz.prog 52 = some ir52.strip := by kernel_rfl
theorem k52 : ir52.body.okD = true := by kernel_rfl
theorem c53 : cF Tryz.prog 53 = some ir53.strip := by kernel_rfl
theorem k53 : ir53.body.okD = true := by kernel_rfl
theorem c55 : cF Tryz.prog 55 = some ir55.strip := by kernel_rfl
theorem k55 : ir55.body.okD = true := by kernel_rfl
theorem c56 : cF Tryz.prog 56 = some ir56.strip := by kernel_rfl
theorem k56 : ir56.body.okD = true := by kernel_rfl
theorem c57 : cF Tryz.prog 57 = some ir57.strip := by kernel_rfl
theorem k57 : ir57.body.okD = true := by kernel_rfl
theorem c58 : cF Tryz.prog 58 = some ir58.strip := by kernel_rfl
theorem k58 : ir58.body.okD = true := by kernel_rfl
theorem c59 : cF Tryz.prog 59 = some ir59.strip := by kernel_rfl
theorem k59 : ir59.body.okD = true := by kernel_rfl
theorem c60 : cF Tryz.prog 60 = some ir60.strip := by kernel_rfl
theorem k60 : ir60.body.okD = true := by kernel_rfl
theorem c61 : cF Tryz.prog 61 = some ir61.strip := by kernel_rfl
theorem k61 : ir61.body.okD = true := by kernel_rfl
theorem c62 : cF Tryz.prog 62 = some ir62.strip := by kernel_rfl
theorem k62 : ir62.body.okD = true := by kernel_rfl
theorem c63 : cF Tryz.prog 63 = some ir63.strip := by kernel_rfl
theorem k63 : ir63.body.okD = true := by kernel_rfl
theorem c64 : cF Tryz.prog 64 = some ir64.strip := by kernel_rfl
theorem k64 : ir64.body.okD = true := by kernel_rfl
theorem c65 : cF Tryz.prog 65 = some ir65.strip := by kernel_rfl
theorem k65 : ir65.body.okD = true := by kernel_rfl
theorem c67 : cF Tryz.prog 67 = some ir67.strip := by kernel_rfl
theorem k67 : ir67.body.okD = true := by kernel_rfl
theorem c68 : cF Tryz.prog 68 = some ir68.strip := by kernel_rfl
theorem k68 : ir68.body.okD = true := by kernel_rfl
theorem c69 : cF Tryz.prog 69 = some ir69.strip := by kernel_rfl
theorem k69 : ir69.body.okD = true := by kernel_rfl
theorem c72 : cF Tryz.prog 72 = some ir72.strip := by kernel_rfl
theorem k72 : ir72.body.okD = true := by kernel_rfl
theorem c73 : cF Tryz.prog 73 = some ir73.strip := by kernel_rfl
theorem k73 : ir73.body.okD = true := by kernel_rfl
theorem c76 : cF Tryz.prog 76 = some ir76.strip := by kernel_rfl
theorem k76 : ir76.body.okD = true := by kernel_rfl
theorem c77 : cF Tryz.prog 77 = some ir77.strip := by kernel_rfl
theorem k77 : ir77.body.okD = true := by kernel_rfl
theorem c78 : cF Tryz.prog 78 = some ir78.strip := by kernel_rfl
theorem k78 : ir78.body.okD = true := by kernel_rfl
theorem c79 : cF Tryz.prog 79 = some ir79.strip := by kernel_rfl
theorem k79 : ir79.body.okD = true := by kernel_rfl
theorem c80 : cF Tryz.prog 80 = some ir80.strip := by kernel_rfl
theorem k80 : ir80.body.okD = true := by kernel_rfl
theorem c85 : cF Tryz.prog 85 = some ir85.strip := by kernel_rfl
theorem k85 : ir85.body.okD = true := by kernel_rfl
theorem c86 : cF Tryz.prog 86 = some ir86.strip := by kernel_rfl
theorem k86 : ir86.body.okD = true := by kernel_rfl
theorem c98 : cF Tryz.prog 98 = some ir98.strip := by kernel_rfl
theorem k98 : ir98.body.okD = true := by kernel_rfl
theorem tab : Tab Tryz.prog ir := by
 refine ⟨by kernel_rfl, fun f fn h => ?_, natOr_snd (Tryz.cloneN) (natOr_snd (Tryz.bcloneN) (natOr_snd (Tryz.sortedN) (natOr_snd (Tryz.listN) (natNo_snd))))⟩
 change irf f = some fn at h
 unfold irf at h
 split at h
 · cases h; exact ⟨c3, k3⟩
 · cases h; exact ⟨c4, k4⟩
 · cases h; exact ⟨c5, k5⟩
 · cases h; exact ⟨c6, k6⟩
 · cases h; exact ⟨c7, k7⟩
 · cases h; exact ⟨c8, k8⟩
 · cases h; exact ⟨c9, k9⟩
 · cases h; exact ⟨c10, k10⟩
 · cases h; exact ⟨c11, k11⟩
 · cases h; exact ⟨c12, k12⟩
 · cases h; exact ⟨c13, k13⟩
 · cases h; exact ⟨c14, k14⟩
 · cases h; exact ⟨c15, k15⟩
 · cases h; exact ⟨c16, k16⟩
 · cases h; exact ⟨c17, k17⟩
 · cases h; exact ⟨c18, k18⟩
 · cases h; exact ⟨c19, k19⟩
 · cases h; exact ⟨c20, k20⟩
 · cases h; exact ⟨c21, k21⟩
 · cases h; exact ⟨c22, k22⟩
 · cases h; exact ⟨c23, k23⟩
 · cases h; exact ⟨c24, k24⟩
 · cases h; exact ⟨c25, k25⟩
 · cases h; exact ⟨c26, k26⟩
 · cases h; exact ⟨c27, k27⟩
 · cases h; exact ⟨c28, k28⟩
 · cases h; exact ⟨c30, k30⟩
 · cases h; exact ⟨c31, k31⟩
 · cases h; exact ⟨c32, k32⟩
 · cases h; exact ⟨c33, k33⟩
 · cases h; exact ⟨c34, k34⟩
 · cases h; exact ⟨c35, k35⟩
 · cases h; exact ⟨c36, k36⟩
 · cases h; exact ⟨c37, k37⟩
 · cases h; exact ⟨c38, k38⟩
 · cases h; exact ⟨c39, k39⟩
 · cases h; exact ⟨c40, k40⟩
 · cases h; exact ⟨c41, k41⟩
 · cases h; exact ⟨c42, k42⟩
 · cases h; exact ⟨c43, k43⟩
 · cases h; exact ⟨c44, k44⟩
 · cases h; exact ⟨c45, k45⟩
 · cases h; exact ⟨c47, k47⟩
 · cases h; exact ⟨c48, k48⟩
 · cases h; exact ⟨c49, k49⟩
 · cases h; exact ⟨c50, k50⟩
 · cases h; exact ⟨c52, k52⟩
 · cases h; exact ⟨c53, k53⟩
 · cases h; exact ⟨c55, k55⟩
 · cases h; exact ⟨c56, k56⟩
 · cases h; exact ⟨c57, k57⟩
 · cases h; exact ⟨c58, k58⟩
 · cases h; exact ⟨c59, k59⟩
 · cases h; exact ⟨c60, k60⟩
 · cases h; exact ⟨c61, k61⟩
 · cases h; exact ⟨c62, k62⟩
 · cases h; exact ⟨c63, k63⟩
 · cases h; exact ⟨c64, k64⟩
 · cases h; exact ⟨c65, k65⟩
 · cases h; exact ⟨c67, k67⟩
 · cases h; exact ⟨c68, k68⟩
 · cases h; exact ⟨c69, k69⟩
 · cases h; exact ⟨c72, k72⟩
 · cases h; exact ⟨c73, k73⟩
 · cases h; exact ⟨c76, k76⟩
 · cases h; exact ⟨c77, k77⟩
 · cases h; exact ⟨c78, k78⟩
 · cases h; exact ⟨c79, k79⟩
 · cases h; exact ⟨c80, k80⟩
 · cases h; exact ⟨c85, k85⟩
 · cases h; exact ⟨c86, k86⟩
 · cases h; exact ⟨c98, k98⟩
 · cases h
end Go.Proofs.YtoipfdbdifoecaaGreatDoor.Ir
