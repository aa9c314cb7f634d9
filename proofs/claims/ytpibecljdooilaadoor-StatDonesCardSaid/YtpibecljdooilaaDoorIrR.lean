/- The texts of the functions in the small language. Printed by a program of my own (irgen.py). -/
import Derived.Test.YtpibecljdooilaaDoorEvSim
import Derived.Test.YtpibecljdooilaaDoorProg
import Derived.Test.YtpibecljdooilaaDoorEvNatM
import Derived.Test.YtpibecljdooilaaDoorShBc
import Derived.Test.YtpibecljdooilaaDoorEvNatW
import Derived.Test.YtpibecljdooilaaDoorEvNatX
import Derived.Test.YtpibecljdooilaaDoorShWhy
import Derived.Test.YtpibecljdooilaaDoorShCut
import Derived.Test.YtpibecljdooilaaDoorShIxb
namespace Go.Proofs.YtpibecljdooilaaDoor.Ir
open Go Go.Ev
set_option maxRecDepth 10000

/-- spence/spencelaw08.MultiPuts -/
def bd3 : C :=
  (.seq (.reg [⟨some 6, none, .mv (.c (.d (.bool false))), .none⟩])
  (.seq (.seq (.reg [⟨some 11, none, .call 9 [] 2, .none⟩,
       ⟨some 12, none, .un .not (.s 11), .none⟩])
   (.cond (.s 12)
    (.seq (.reg [⟨some 6, none, .mv (.c (.d (.bool false))), .none⟩])
    (.ret none))
    .skip))
  (.seq (.seq (.reg [⟨some 13, none, .mv (.s 0), .none⟩,
       ⟨some 14, none, .call 10 [.s 13] 2, .none⟩,
       ⟨some 15, none, .un .not (.s 14), .none⟩,
       ⟨some 16, none, .mv (.s 15), .none⟩,
       ⟨some 17, some (16, false), .mv (.s 2), .none⟩,
       ⟨some 18, some (16, false), .lens (.s 17), .none⟩,
       ⟨some 19, some (16, false), .bin .gtr (.s 18) (.c (.d (.int .i64 100))), .none⟩,
       ⟨some 20, none, .pick (.s 16) (.c (.d (.bool true))) (.s 19), .none⟩])
   (.cond (.s 20)
    (.seq (.reg [⟨some 6, none, .mv (.c (.d (.bool true))), .none⟩])
    (.ret none))
    .skip))
  (.seq (.reg [⟨some 22, none, .mv (.s 0), .none⟩,
      ⟨some 23, none, .mv (.s 1), .none⟩,
      ⟨some 24, none, .mv (.s 2), .none⟩,
      ⟨some 25, none, .call 11 [.s 22, .s 23, .s 24] 0, .none⟩,
      ⟨some 21, none, .mv (.s 25), .none⟩,
      ⟨some 26, none, .ext (.s 21) 0, .none⟩,
      ⟨some 27, none, .ext (.s 21) 1, .none⟩,
      ⟨some 7, none, .mv (.s 26), .none⟩,
      ⟨some 8, none, .mv (.s 27), .none⟩])
  (.seq (.reg [⟨some 29, none, .mv (.s 0), .none⟩,
      ⟨some 30, none, .mv (.s 1), .none⟩,
      ⟨some 31, none, .mv (.s 2), .none⟩,
      ⟨some 32, none, .call 12 [.s 29, .s 30, .s 31] 2, .none⟩,
      ⟨some 28, none, .mv (.s 32), .none⟩,
      ⟨some 33, none, .ext (.s 28) 0, .none⟩,
      ⟨some 34, none, .ext (.s 28) 1, .none⟩,
      ⟨some 9, none, .mv (.s 33), .none⟩,
      ⟨some 10, none, .mv (.s 34), .none⟩])
  (.seq (.seq (.reg [⟨some 35, none, .mv (.s 10), .none⟩,
       ⟨some 36, none, .mv (.s 8), .none⟩,
       ⟨some 37, none, .bin .eql (.s 36) (.c (.d (.int .i64 0))), .none⟩,
       ⟨some 38, none, .beq true (.s 35) (.s 37), .none⟩,
       ⟨some 39, none, .mv (.s 38), .none⟩,
       ⟨some 40, some (39, false), .mv (.s 10), .none⟩,
       ⟨some 41, some (39, false), .un .not (.s 40), .none⟩,
       ⟨some 42, some (39, false), .mv (.s 41), .none⟩,
       ⟨some 43, some (42, true), .mv (.s 8), .none⟩,
       ⟨some 44, some (42, true), .bin .neq (.s 43) (.c (.d (.int .i64 1))), .none⟩,
       ⟨some 45, some (39, false), .pick (.s 42) (.s 44) (.c (.d (.bool false))), .none⟩,
       ⟨some 46, none, .pick (.s 39) (.c (.d (.bool true))) (.s 45), .none⟩,
       ⟨some 47, none, .mv (.s 46), .none⟩,
       ⟨some 48, some (47, false), .mv (.s 0), .none⟩,
       ⟨some 49, some (47, false), .mv (.s 1), .none⟩,
       ⟨some 50, some (47, false), .call 13 [.s 48, .s 49] 2, .none⟩,
       ⟨some 51, some (47, false), .mv (.s 0), .none⟩,
       ⟨some 52, some (47, false), .mv (.s 1), .none⟩,
       ⟨some 53, some (47, false), .call 14 [.s 51, .s 52] 2, .none⟩,
       ⟨some 54, some (47, false), .beq true (.s 50) (.s 53), .none⟩,
       ⟨some 55, none, .pick (.s 47) (.c (.d (.bool true))) (.s 54), .none⟩])
   (.cond (.s 55)
    (.seq (.reg [⟨some 6, none, .mv (.c (.d (.bool false))), .none⟩])
    (.ret none))
    .skip))
  (.seq (.reg [⟨some 56, none, .mv (.s 7), .none⟩,
      ⟨some 57, none, .mv (.s 9), .none⟩,
      ⟨some 58, none, .call 15 [.s 56, .s 57] 2, .none⟩,
      ⟨some 59, none, .mv (.s 58), .none⟩,
      ⟨some 60, some (59, true), .mv (.s 0), .none⟩,
      ⟨some 61, some (59, true), .mv (.s 1), .none⟩,
      ⟨some 62, some (59, true), .mv (.s 2), .none⟩,
      ⟨some 63, some (59, true), .call 16 [.s 60, .s 61, .s 62] 2, .none⟩,
      ⟨some 64, some (59, true), .mv (.s 9), .none⟩,
      ⟨some 65, some (59, true), .len (.s 64), .none⟩,
      ⟨some 66, some (59, true), .bin .eql (.s 63) (.s 65), .none⟩,
      ⟨some 67, none, .pick (.s 59) (.s 66) (.c (.d (.bool false))), .none⟩,
      ⟨some 6, none, .mv (.s 67), .none⟩])
  (.ret none))))))))
def ir3 : F := { n := 68, res := [.tmp 6], body := bd3 }
@[go_sem] theorem n3 : ir3.n = 68 := rfl
@[go_sem] theorem r3 : ir3.res = [.tmp 6] := rfl
@[go_sem] theorem b3 : ir3.body = bd3 := rfl
/-- spence/spencelaw08.MultiBack -/
def bd4 : C :=
  (.seq (.reg [⟨some 6, none, .mv (.c (.d (.bool false))), .none⟩])
  (.seq (.seq (.reg [⟨some 12, none, .call 9 [] 2, .none⟩,
       ⟨some 13, none, .un .not (.s 12), .none⟩])
   (.cond (.s 13)
    (.seq (.reg [⟨some 6, none, .mv (.c (.d (.bool false))), .none⟩])
    (.ret none))
    .skip))
  (.seq (.seq (.reg [⟨some 14, none, .mv (.s 0), .none⟩,
       ⟨some 15, none, .call 10 [.s 14] 2, .none⟩,
       ⟨some 16, none, .un .not (.s 15), .none⟩,
       ⟨some 17, none, .mv (.s 16), .none⟩,
       ⟨some 18, some (17, false), .mv (.s 2), .none⟩,
       ⟨some 19, some (17, false), .lens (.s 18), .none⟩,
       ⟨some 20, some (17, false), .bin .gtr (.s 19) (.c (.d (.int .i64 100))), .none⟩,
       ⟨some 21, none, .pick (.s 17) (.c (.d (.bool true))) (.s 20), .none⟩])
   (.cond (.s 21)
    (.seq (.reg [⟨some 6, none, .mv (.c (.d (.bool true))), .none⟩])
    (.ret none))
    .skip))
  (.seq (.reg [⟨some 23, none, .mv (.s 0), .none⟩,
      ⟨some 24, none, .mv (.s 1), .none⟩,
      ⟨some 25, none, .mv (.s 2), .none⟩,
      ⟨some 26, none, .call 11 [.s 23, .s 24, .s 25] 0, .none⟩,
      ⟨some 22, none, .mv (.s 26), .none⟩,
      ⟨some 27, none, .ext (.s 22) 0, .none⟩,
      ⟨some 28, none, .ext (.s 22) 1, .none⟩,
      ⟨some 7, none, .mv (.s 27), .none⟩,
      ⟨some 8, none, .mv (.s 28), .none⟩])
  (.seq (.seq (.reg [⟨some 29, none, .mv (.s 8), .none⟩,
       ⟨some 30, none, .bin .neq (.s 29) (.c (.d (.int .i64 0))), .none⟩])
   (.cond (.s 30)
    (.seq (.reg [⟨some 6, none, .mv (.c (.d (.bool true))), .none⟩])
    (.ret none))
    .skip))
  (.seq (.reg [⟨some 32, none, .mv (.s 7), .none⟩,
      ⟨some 33, none, .mv (.s 2), .none⟩,
      ⟨some 34, none, .call 17 [.s 32, .s 33] 2, .none⟩,
      ⟨some 31, none, .mv (.s 34), .none⟩,
      ⟨some 35, none, .ext (.s 31) 0, .none⟩,
      ⟨some 36, none, .ext (.s 31) 1, .none⟩,
      ⟨some 37, none, .ext (.s 31) 2, .none⟩,
      ⟨some 9, none, .mv (.s 35), .none⟩,
      ⟨some 10, none, .mv (.s 36), .none⟩,
      ⟨some 11, none, .mv (.s 37), .none⟩])
  (.seq (.reg [⟨some 38, none, .mv (.s 11), .none⟩,
      ⟨some 39, none, .bin .eql (.s 38) (.c (.d (.int .i64 0))), .none⟩,
      ⟨some 40, none, .mv (.s 39), .none⟩,
      ⟨some 41, some (40, true), .mv (.s 10), .none⟩,
      ⟨some 42, some (40, true), .mv (.s 1), .none⟩,
      ⟨some 43, some (40, true), .bin .eql (.s 41) (.s 42), .none⟩,
      ⟨some 44, none, .pick (.s 40) (.s 43) (.c (.d (.bool false))), .none⟩,
      ⟨some 45, none, .mv (.s 44), .none⟩,
      ⟨some 46, some (45, true), .mv (.s 9), .none⟩,
      ⟨some 47, some (45, true), .mv (.s 0), .none⟩,
      ⟨some 48, some (45, true), .call 18 [.s 46, .s 47] 2, .none⟩,
      ⟨some 49, none, .pick (.s 45) (.s 48) (.c (.d (.bool false))), .none⟩,
      ⟨some 6, none, .mv (.s 49), .none⟩])
  (.ret none))))))))
def ir4 : F := { n := 50, res := [.tmp 6], body := bd4 }
@[go_sem] theorem n4 : ir4.n = 50 := rfl
@[go_sem] theorem r4 : ir4.res = [.tmp 6] := rfl
@[go_sem] theorem b4 : ir4.body = bd4 := rfl
@[go_sem] theorem ks5_0 (v0 v1 v2 v3 v4 v5 v6 v7 v8 v9 v10 v11 v12 v13 v14 v15 v16 v17 v18 v19 v20 v21 v22 v23 v24 v25 v26 v27 v28 v29 v30 v31 v32 v33 v34 v35 v36 v37 v38 v39 v40 v41 v42 v43 v44 v45 v46 v47 v48 v49 v50 v51 v52 v53 v54 v55 v56 v57 v58 v59 v60 v61 v62 v63 v64 v65 v66 v67 v68 v69 v70 v71 v72 v73 v74 v75 v76 v77 v78 v79 v80 v81 v82 v83 v84 v85 v86 v87 v88 v89 v90 v91 v92 v93 v94 v95 v96 v97 v98 v99 v100 v101 v102 v103 v104 v105 v106 v107 v108 v109 v110 v111 v112 v113 v114 v115 v116 v117 v118 v119 v120 v121 v122 v123 v124 v125 v126 v127 v128 v129 : AV) : keepS [1, 2, 3, 4] [v0, v1, v2, v3, v4, v5, v6, v7, v8, v9, v10, v11, v12, v13, v14, v15, v16, v17, v18, v19, v20, v21, v22, v23, v24, v25, v26, v27, v28, v29, v30, v31, v32, v33, v34, v35, v36, v37, v38, v39, v40, v41, v42, v43, v44, v45, v46, v47, v48, v49, v50, v51, v52, v53, v54, v55, v56, v57, v58, v59, v60, v61, v62, v63, v64, v65, v66, v67, v68, v69, v70, v71, v72, v73, v74, v75, v76, v77, v78, v79, v80, v81, v82, v83, v84, v85, v86, v87, v88, v89, v90, v91, v92, v93, v94, v95, v96, v97, v98, v99, v100, v101, v102, v103, v104, v105, v106, v107, v108, v109, v110, v111, v112, v113, v114, v115, v116, v117, v118, v119, v120, v121, v122, v123, v124, v125, v126, v127, v128, v129] 0 = [.unk, v1, v2, v3, v4, .unk, .unk, .unk, .unk, .unk, .unk, .unk, .unk, .unk, .unk, .unk, .unk, .unk, .unk, .unk, .unk, .unk, .unk, .unk, .unk, .unk, .unk, .unk, .unk, .unk, .unk, .unk, .unk, .unk, .unk, .unk, .unk, .unk, .unk, .unk, .unk, .unk, .unk, .unk, .unk, .unk, .unk, .unk, .unk, .unk, .unk, .unk, .unk, .unk, .unk, .unk, .unk, .unk, .unk, .unk, .unk, .unk, .unk, .unk, .unk, .unk, .unk, .unk, .unk, .unk, .unk, .unk, .unk, .unk, .unk, .unk, .unk, .unk, .unk, .unk, .unk, .unk, .unk, .unk, .unk, .unk, .unk, .unk, .unk, .unk, .unk, .unk, .unk, .unk, .unk, .unk, .unk, .unk, .unk, .unk, .unk, .unk, .unk, .unk, .unk, .unk, .unk, .unk, .unk, .unk, .unk, .unk, .unk, .unk, .unk, .unk, .unk, .unk, .unk, .unk, .unk, .unk, .unk, .unk, .unk, .unk, .unk, .unk, .unk, .unk] := rfl
/-- spence/spencelaw08.MultiReads -/
def bd5 : C :=
  (.seq (.reg [⟨some 10, none, .mv (.c (.d (.bool false))), .none⟩])
  (.seq (.seq (.reg [⟨some 24, none, .call 9 [] 2, .none⟩,
       ⟨some 25, none, .un .not (.s 24), .none⟩])
   (.cond (.s 25)
    (.seq (.reg [⟨some 10, none, .mv (.c (.d (.bool false))), .none⟩])
    (.ret none))
    .skip))
  (.seq (.seq (.reg [⟨some 26, none, .mv (.s 0), .none⟩,
       ⟨some 27, none, .len (.s 26), .none⟩,
       ⟨some 28, none, .bin .gtr (.s 27) (.c (.d (.int .i64 2000))), .none⟩,
       ⟨some 29, none, .mv (.s 28), .none⟩,
       ⟨some 30, some (29, false), .mv (.s 2), .none⟩,
       ⟨some 31, some (29, false), .call 10 [.s 30] 2, .none⟩,
       ⟨some 32, some (29, false), .un .not (.s 31), .none⟩,
       ⟨some 33, none, .pick (.s 29) (.c (.d (.bool true))) (.s 32), .none⟩,
       ⟨some 34, none, .mv (.s 33), .none⟩,
       ⟨some 35, some (34, false), .mv (.s 1), .none⟩,
       ⟨some 36, some (34, false), .lens (.s 35), .none⟩,
       ⟨some 37, some (34, false), .bin .gtr (.s 36) (.c (.d (.int .i64 100))), .none⟩,
       ⟨some 38, none, .pick (.s 34) (.c (.d (.bool true))) (.s 37), .none⟩])
   (.cond (.s 38)
    (.seq (.reg [⟨some 10, none, .mv (.c (.d (.bool true))), .none⟩])
    (.ret none))
    .skip))
  (.seq (.reg [⟨some 40, none, .mv (.s 0), .none⟩,
      ⟨some 41, none, .mv (.s 1), .none⟩,
      ⟨some 42, none, .call 17 [.s 40, .s 41] 2, .none⟩,
      ⟨some 39, none, .mv (.s 42), .none⟩,
      ⟨some 43, none, .ext (.s 39) 0, .none⟩,
      ⟨some 44, none, .ext (.s 39) 1, .none⟩,
      ⟨some 45, none, .ext (.s 39) 2, .none⟩,
      ⟨some 11, none, .mv (.s 43), .none⟩,
      ⟨some 12, none, .mv (.s 44), .none⟩,
      ⟨some 13, none, .mv (.s 45), .none⟩])
  (.seq (.seq (.reg [⟨some 46, none, .mv (.s 1), .none⟩,
       ⟨some 47, none, .call 19 [.s 46] 2, .none⟩,
       ⟨some 48, none, .un .not (.s 47), .none⟩,
       ⟨some 49, none, .mv (.s 48), .none⟩,
       ⟨some 50, some (49, false), .mv (.s 1), .none⟩,
       ⟨some 51, some (49, false), .lens (.s 50), .none⟩,
       ⟨some 52, some (49, false), .bin .gtr (.s 51) (.c (.d (.int .i64 40))), .none⟩,
       ⟨some 53, none, .pick (.s 49) (.c (.d (.bool true))) (.s 52), .none⟩])
   (.cond (.s 53)
    (.seq (.reg [⟨some 54, none, .mv (.s 13), .none⟩,
        ⟨some 55, none, .bin .eql (.s 54) (.c (.d (.int .i64 1))), .none⟩,
        ⟨some 56, none, .mv (.s 55), .none⟩,
        ⟨some 57, some (56, true), .mv (.s 11), .none⟩,
        ⟨some 58, some (56, true), .len (.s 57), .none⟩,
        ⟨some 59, some (56, true), .bin .eql (.s 58) (.c (.d (.int .i64 0))), .none⟩,
        ⟨some 60, none, .pick (.s 56) (.s 59) (.c (.d (.bool false))), .none⟩,
        ⟨some 61, none, .mv (.s 60), .none⟩,
        ⟨some 62, some (61, true), .mv (.s 12), .none⟩,
        ⟨some 63, some (61, true), .bin .eql (.s 62) (.c (.d (.int .i64 0))), .none⟩,
        ⟨some 64, none, .pick (.s 61) (.s 63) (.c (.d (.bool false))), .none⟩,
        ⟨some 10, none, .mv (.s 64), .none⟩])
    (.ret none))
    .skip))
  (.seq (.seq (.reg [⟨some 65, none, .mv (.s 13), .none⟩,
       ⟨some 66, none, .bin .eql (.s 65) (.c (.d (.int .i64 0))), .none⟩])
   (.cond (.s 66)
    (.seq (.reg [⟨some 68, none, .mv (.s 11), .none⟩,
        ⟨some 69, none, .mv (.s 12), .none⟩,
        ⟨some 70, none, .mv (.s 1), .none⟩,
        ⟨some 71, none, .call 12 [.s 68, .s 69, .s 70] 2, .none⟩,
        ⟨some 67, none, .mv (.s 71), .none⟩,
        ⟨some 72, none, .ext (.s 67) 0, .none⟩,
        ⟨some 73, none, .ext (.s 67) 1, .none⟩,
        ⟨some 14, none, .mv (.s 72), .none⟩,
        ⟨some 15, none, .mv (.s 73), .none⟩])
    (.seq (.reg [⟨some 74, none, .mv (.s 15), .none⟩,
        ⟨some 75, none, .un .not (.s 74), .none⟩,
        ⟨some 76, none, .mv (.s 75), .none⟩,
        ⟨some 77, some (76, false), .mv (.s 0), .none⟩,
        ⟨some 78, some (76, false), .mv (.s 14), .none⟩,
        ⟨some 79, some (76, false), .call 15 [.s 77, .s 78] 2, .none⟩,
        ⟨some 80, some (76, false), .un .not (.s 79), .none⟩,
        ⟨some 81, none, .pick (.s 76) (.c (.d (.bool true))) (.s 80), .none⟩])
    (.cond (.s 81)
     (.seq (.reg [⟨some 10, none, .mv (.c (.d (.bool false))), .none⟩])
     (.ret none))
     .skip)))
    (.seq (.reg [⟨some 82, none, .mv (.s 13), .none⟩,
        ⟨some 83, none, .bin .neq (.s 82) (.c (.d (.int .i64 3))), .none⟩,
        ⟨some 84, none, .mv (.s 83), .none⟩,
        ⟨some 85, some (84, false), .mv (.s 11), .none⟩,
        ⟨some 86, some (84, false), .len (.s 85), .none⟩,
        ⟨some 87, some (84, false), .bin .neq (.s 86) (.c (.d (.int .i64 0))), .none⟩,
        ⟨some 88, none, .pick (.s 84) (.c (.d (.bool true))) (.s 87), .none⟩,
        ⟨some 89, none, .mv (.s 88), .none⟩,
        ⟨some 90, some (89, false), .mv (.s 12), .none⟩,
        ⟨some 91, some (89, false), .bin .neq (.s 90) (.c (.d (.int .i64 0))), .none⟩,
        ⟨some 92, none, .pick (.s 89) (.c (.d (.bool true))) (.s 91), .none⟩])
    (.cond (.s 92)
     (.seq (.reg [⟨some 10, none, .mv (.c (.d (.bool false))), .none⟩])
     (.ret none))
     .skip))))
  (.ann [1, 2, 3, 4] (.seq (.reg [⟨some 94, none, .mv (.s 2), .none⟩,
      ⟨some 95, none, .mv (.s 3), .none⟩,
      ⟨some 96, none, .mv (.s 1), .none⟩,
      ⟨some 97, none, .call 12 [.s 94, .s 95, .s 96] 2, .none⟩,
      ⟨some 93, none, .mv (.s 97), .none⟩,
      ⟨some 98, none, .ext (.s 93) 0, .none⟩,
      ⟨some 99, none, .ext (.s 93) 1, .none⟩,
      ⟨some 16, none, .mv (.s 98), .none⟩,
      ⟨some 17, none, .mv (.s 99), .none⟩])
  (.seq (.seq (.reg [⟨some 100, none, .mv (.s 17), .none⟩,
       ⟨some 101, none, .un .not (.s 100), .none⟩])
   (.cond (.s 101)
    (.seq (.reg [⟨some 10, none, .mv (.c (.d (.bool true))), .none⟩])
    (.ret none))
    .skip))
  (.seq (.reg [⟨some 103, none, .mv (.s 16), .none⟩,
      ⟨some 104, none, .app 5 1 1 (.c (.d .nils)) (.s 103), .none⟩,
      ⟨some 105, none, .mv (.s 4), .none⟩,
      ⟨some 106, none, .bsl 5 1 1 [.int .u8 0] [(0, (1, .s 105))], .none⟩,
      ⟨some 107, none, .app 5 1 1 (.s 104) (.s 106), .none⟩,
      ⟨some 108, none, .mv (.s 1), .none⟩,
      ⟨some 109, none, .call 17 [.s 107, .s 108] 0, .none⟩,
      ⟨some 102, none, .mv (.s 109), .none⟩,
      ⟨some 110, none, .ext (.s 102) 0, .none⟩,
      ⟨some 111, none, .ext (.s 102) 1, .none⟩,
      ⟨some 112, none, .ext (.s 102) 2, .none⟩,
      ⟨some 18, none, .mv (.s 110), .none⟩,
      ⟨some 19, none, .mv (.s 111), .none⟩,
      ⟨some 20, none, .mv (.s 112), .none⟩])
  (.seq (.reg [⟨some 114, none, .mv (.s 16), .none⟩,
      ⟨some 115, none, .mv (.s 16), .none⟩,
      ⟨some 116, none, .len (.s 115), .none⟩,
      ⟨some 117, none, .bin .sub (.s 116) (.c (.d (.int .i64 1))), .none⟩,
      ⟨some 118, none, .sl (.s 114) none (some (.s 117)) none 1, .none⟩,
      ⟨some 119, none, .mv (.s 1), .none⟩,
      ⟨some 120, none, .call 17 [.s 118, .s 119] 2, .none⟩,
      ⟨some 113, none, .mv (.s 120), .none⟩,
      ⟨some 121, none, .ext (.s 113) 0, .none⟩,
      ⟨some 122, none, .ext (.s 113) 1, .none⟩,
      ⟨some 123, none, .ext (.s 113) 2, .none⟩,
      ⟨some 21, none, .mv (.s 121), .none⟩,
      ⟨some 22, none, .mv (.s 122), .none⟩,
      ⟨some 23, none, .mv (.s 123), .none⟩])
  (.seq (.reg [⟨some 124, none, .mv (.s 20), .none⟩,
      ⟨some 125, none, .bin .eql (.s 124) (.c (.d (.int .i64 3))), .none⟩,
      ⟨some 126, none, .mv (.s 125), .none⟩,
      ⟨some 127, some (126, true), .mv (.s 23), .none⟩,
      ⟨some 128, some (126, true), .bin .eql (.s 127) (.c (.d (.int .i64 3))), .none⟩,
      ⟨some 129, none, .pick (.s 126) (.s 128) (.c (.d (.bool false))), .none⟩,
      ⟨some 10, none, .mv (.s 129), .none⟩])
  (.ret none)))))))))))))
def ir5 : F := { n := 130, res := [.tmp 10], body := bd5 }
@[go_sem] theorem n5 : ir5.n = 130 := rfl
@[go_sem] theorem r5 : ir5.res = [.tmp 10] := rfl
@[go_sem] theorem b5 : ir5.body = bd5 := rfl
def lb6_1 : C :=
  (.seq (.reg [⟨some 69, none, .bin .lss (.s 68) (.s 67), .none⟩])
  (.seq (.cond (.s 69)
    .skip
    (.exit 3 (some [0, 1, 5, 6, 7, 8, 27, 28, 29])))
  (.seq (.block 4 (.seq (.reg [⟨some 70, none, .is (.s 66) (.s 68) 3, .none⟩,
        ⟨some 71, none, .ld (.s 70) 3 true, .none⟩,
        ⟨some 13, none, .alloc 54 [.int .i64 0, .int .i64 0, .nils], .cells [(2, 1, false)]⟩,
        ⟨none, none, .st (.s 13) (.s 71) 3, .none⟩])
    (.reg [⟨some 72, none, .fa (.s 5) 4, .none⟩,
       ⟨some 73, none, .ld (.s 72) 1 false, .none⟩,
       ⟨some 74, none, .fa (.s 13) 2, .none⟩,
       ⟨some 75, none, .ld (.s 74) 1 false, .none⟩,
       ⟨some 76, none, .len (.s 75), .none⟩,
       ⟨some 77, none, .bin .add (.s 73) (.s 76), .none⟩,
       ⟨some 78, none, .fa (.s 5) 4, .none⟩,
       ⟨none, none, .st (.s 78) (.s 77) 1, .none⟩])))
  (.reg [⟨some 79, none, .bin .add (.s 68) (.c (.d (.int .i64 1))), .none⟩,
     ⟨some 68, none, .mv (.s 79), .none⟩]))))
def lp6_1 : C := lb6_1
theorem u6_1 (c : Ev.Callee) (l : Ev.Looper) (s : St) : evC c l lp6_1 s = evC c l lb6_1 s := rfl
abbrev st6_1 (m : Nat) (s0 s1 s5 s6 s7 s8 s27 s28 s29 s66 s67 s68 : AV) (h : Heap) : St := ⟨m, [s0, s1, .unk, .unk, .unk, s5, s6, s7, s8, .unk, .unk, .unk, .unk, .unk, .unk, .unk, .unk, .unk, .unk, .unk, .unk, .unk, .unk, .unk, .unk, .unk, .unk, s27, s28, s29, .unk, .unk, .unk, .unk, .unk, .unk, .unk, .unk, .unk, .unk, .unk, .unk, .unk, .unk, .unk, .unk, .unk, .unk, .unk, .unk, .unk, .unk, .unk, .unk, .unk, .unk, .unk, .unk, .unk, .unk, .unk, .unk, .unk, .unk, .unk, .unk, s66, s67, s68, .unk, .unk, .unk, .unk, .unk, .unk, .unk, .unk, .unk, .unk, .unk, .unk, .unk, .unk, .unk, .unk, .unk, .unk, .unk, .unk, .unk, .unk, .unk, .unk, .unk, .unk, .unk, .unk, .unk, .unk, .unk, .unk, .unk, .unk, .unk, .unk, .unk, .unk, .unk, .unk, .unk, .unk, .unk, .unk, .unk, .unk, .unk, .unk, .unk, .unk, .unk, .unk, .unk, .unk, .unk, .unk, .unk, .unk, .unk, .unk, .unk, .unk, .unk, .unk, .unk, .unk, .unk, .unk, .unk, .unk, .unk, .unk, .unk, .unk, .unk, .unk, .unk, .unk, .unk, .unk, .unk, .unk, .unk, .unk, .unk, .unk, .unk, .unk, .unk, .unk, .unk, .unk, .unk, .unk, .unk, .unk, .unk, .unk, .unk, .unk, .unk, .unk, .unk, .unk, .unk], h⟩
def lb6_0 : C :=
  (.seq (.reg [⟨some 30, none, .bin .lss (.s 29) (.s 28), .none⟩])
  (.seq (.cond (.s 30)
    .skip
    (.exit 0 (some [0, 1, 5, 6])))
  (.seq (.block 1 (.seq (.reg [⟨some 31, none, .mv (.s 29), .none⟩,
        ⟨some 32, none, .is (.s 27) (.s 29) 11, .none⟩,
        ⟨some 33, none, .ld (.s 32) 11 true, .none⟩,
        ⟨some 8, none, .alloc 49 [.int .i64 0, .str [], .str [], .int .i64 0, .int .i64 0, .int .i64 0, .int .i64 0, .int .i64 0, .str [], .str [], .nils], .cells [(10, 1, false)]⟩,
        ⟨some 7, none, .mv (.s 31), .none⟩,
        ⟨none, none, .st (.s 8) (.s 33) 11, .none⟩])
    (.seq (.seq (.reg [⟨some 34, none, .fa (.s 8) 7, .none⟩,
         ⟨some 35, none, .fa (.s 34) 0, .none⟩,
         ⟨some 36, none, .ld (.s 35) 1 false, .none⟩])
     (.block 2 (.seq (.reg [⟨some 42, none, .bin .eql (.s 36) (.c (.d (.int .i64 200))), .none⟩,
          ⟨some 41, none, .mv (.s 42), .none⟩])
      (.cond (.s 41)
       (.reg [⟨some 43, none, .fa (.s 5) 0, .none⟩,
          ⟨some 44, none, .ld (.s 43) 1 false, .none⟩,
          ⟨some 45, none, .bin .add (.s 44) (.c (.d (.int .i64 1))), .none⟩,
          ⟨some 46, none, .fa (.s 5) 0, .none⟩,
          ⟨none, none, .st (.s 46) (.s 45) 1, .none⟩])
       (.seq (.reg [⟨some 48, none, .bin .eql (.s 36) (.c (.d (.int .i64 206))), .none⟩,
           ⟨some 47, none, .mv (.s 48), .none⟩])
       (.cond (.s 47)
        (.reg [⟨some 49, none, .fa (.s 5) 1, .none⟩,
           ⟨some 50, none, .ld (.s 49) 1 false, .none⟩,
           ⟨some 51, none, .bin .add (.s 50) (.c (.d (.int .i64 1))), .none⟩,
           ⟨some 52, none, .fa (.s 5) 1, .none⟩,
           ⟨none, none, .st (.s 52) (.s 51) 1, .none⟩])
        (.seq (.reg [⟨some 54, none, .bin .eql (.s 36) (.c (.d (.int .i64 416))), .none⟩,
            ⟨some 53, none, .mv (.s 54), .none⟩])
        (.cond (.s 53)
         (.reg [⟨some 55, none, .fa (.s 5) 2, .none⟩,
            ⟨some 56, none, .ld (.s 55) 1 false, .none⟩,
            ⟨some 57, none, .bin .add (.s 56) (.c (.d (.int .i64 1))), .none⟩,
            ⟨some 58, none, .fa (.s 5) 2, .none⟩,
            ⟨none, none, .st (.s 58) (.s 57) 1, .none⟩])
         (.reg [⟨some 37, none, .fa (.s 5) 3, .none⟩,
            ⟨some 38, none, .ld (.s 37) 1 false, .none⟩,
            ⟨some 39, none, .bin .add (.s 38) (.c (.d (.int .i64 1))), .none⟩,
            ⟨some 40, none, .fa (.s 5) 3, .none⟩,
            ⟨none, none, .st (.s 40) (.s 39) 1, .none⟩])))))))))
    (.seq (.reg [⟨some 60, none, .fa (.s 8) 7, .none⟩,
        ⟨some 61, none, .ld (.s 60) 4 true, .none⟩,
        ⟨some 62, none, .call 22 [.s 61] 2, .none⟩,
        ⟨some 59, none, .mv (.s 62), .none⟩,
        ⟨some 63, none, .ext (.s 59) 0, .none⟩,
        ⟨some 64, none, .ext (.s 59) 1, .none⟩,
        ⟨some 65, none, .ext (.s 59) 2, .none⟩,
        ⟨some 9, none, .mv (.s 63), .none⟩,
        ⟨some 10, none, .mv (.s 64), .none⟩,
        ⟨some 11, none, .mv (.s 65), .none⟩])
    (.seq (.seq (.reg [⟨some 66, none, .mv (.s 9), .none⟩,
         ⟨some 67, none, .len (.s 66), .none⟩,
         ⟨some 68, none, .mv (.c (.d (.int .i64 0))), .none⟩])
     (.block 3 (.loop [0, 1, 5, 6, 7, 8, 27, 28, 29, 66, 67, 68] lp6_1)))
    (.seq (.seq (.reg [⟨some 80, none, .fa (.s 8) 4, .none⟩,
         ⟨some 81, none, .ld (.s 80) 1 false, .none⟩,
         ⟨some 82, none, .fa (.s 8) 3, .none⟩,
         ⟨some 83, none, .ld (.s 82) 1 false, .none⟩,
         ⟨some 84, none, .bin .sub (.s 81) (.s 83), .none⟩,
         ⟨some 85, none, .fa (.s 5) 5, .none⟩,
         ⟨some 86, none, .ld (.s 85) 1 false, .none⟩,
         ⟨some 87, none, .bin .gtr (.s 84) (.s 86), .none⟩])
     (.cond (.s 87)
      (.reg [⟨some 88, none, .fa (.s 8) 4, .none⟩,
         ⟨some 89, none, .ld (.s 88) 1 false, .none⟩,
         ⟨some 90, none, .fa (.s 8) 3, .none⟩,
         ⟨some 91, none, .ld (.s 90) 1 false, .none⟩,
         ⟨some 92, none, .bin .sub (.s 89) (.s 91), .none⟩,
         ⟨some 93, none, .fa (.s 5) 5, .none⟩,
         ⟨none, none, .st (.s 93) (.s 92) 1, .none⟩])
      .skip))
    (.ann [0, 1, 5, 6, 7, 8, 27, 28, 29] (.seq (.drw [⟨some 94, none, .fa (.s 8) 4, .none⟩,
        ⟨some 95, none, .ld (.s 94) 1 false, .none⟩,
        ⟨some 96, none, .fa (.s 8) 3, .none⟩,
        ⟨some 97, none, .ld (.s 96) 1 false, .none⟩,
        ⟨some 98, none, .bin .sub (.s 95) (.s 97), .none⟩,
        ⟨some 99, none, .mv (.s 0), .none⟩,
        ⟨some 100, none, .mv (.s 6), .none⟩,
        ⟨some 101, none, .is (.s 99) (.s 100) 11, .none⟩,
        ⟨some 102, none, .fa (.s 101) 4, .none⟩,
        ⟨some 103, none, .ld (.s 102) 1 false, .none⟩,
        ⟨some 104, none, .mv (.s 0), .none⟩,
        ⟨some 105, none, .mv (.s 6), .none⟩,
        ⟨some 106, none, .is (.s 104) (.s 105) 11, .none⟩,
        ⟨some 107, none, .fa (.s 106) 3, .none⟩,
        ⟨some 108, none, .ld (.s 107) 1 false, .none⟩,
        ⟨some 109, none, .bin .sub (.s 103) (.s 108), .none⟩,
        ⟨some 110, none, .bin .gtr (.s 98) (.s 109), .none⟩]
       [[], [0], [], [2], [1, 3], [], [], [5, 6], [7], [8], [], [], [10, 11], [12], [13], [9, 14], [4, 15]] [])
    (.cond (.s 110)
     (.reg [⟨some 111, none, .mv (.s 7), .none⟩,
        ⟨some 6, none, .mv (.s 111), .none⟩])
     .skip)))))))))
  (.reg [⟨some 112, none, .bin .add (.s 29) (.c (.d (.int .i64 1))), .none⟩,
     ⟨some 29, none, .mv (.s 112), .none⟩]))))
def lp6_0 : C := lb6_0
theorem u6_0 (c : Ev.Callee) (l : Ev.Looper) (s : St) : evC c l lp6_0 s = evC c l lb6_0 s := rfl
abbrev st6_0 (m : Nat) (s0 s1 s5 s6 s27 s28 s29 : AV) (h : Heap) : St := ⟨m, [s0, s1, .unk, .unk, .unk, s5, s6, .unk, .unk, .unk, .unk, .unk, .unk, .unk, .unk, .unk, .unk, .unk, .unk, .unk, .unk, .unk, .unk, .unk, .unk, .unk, .unk, s27, s28, s29, .unk, .unk, .unk, .unk, .unk, .unk, .unk, .unk, .unk, .unk, .unk, .unk, .unk, .unk, .unk, .unk, .unk, .unk, .unk, .unk, .unk, .unk, .unk, .unk, .unk, .unk, .unk, .unk, .unk, .unk, .unk, .unk, .unk, .unk, .unk, .unk, .unk, .unk, .unk, .unk, .unk, .unk, .unk, .unk, .unk, .unk, .unk, .unk, .unk, .unk, .unk, .unk, .unk, .unk, .unk, .unk, .unk, .unk, .unk, .unk, .unk, .unk, .unk, .unk, .unk, .unk, .unk, .unk, .unk, .unk, .unk, .unk, .unk, .unk, .unk, .unk, .unk, .unk, .unk, .unk, .unk, .unk, .unk, .unk, .unk, .unk, .unk, .unk, .unk, .unk, .unk, .unk, .unk, .unk, .unk, .unk, .unk, .unk, .unk, .unk, .unk, .unk, .unk, .unk, .unk, .unk, .unk, .unk, .unk, .unk, .unk, .unk, .unk, .unk, .unk, .unk, .unk, .unk, .unk, .unk, .unk, .unk, .unk, .unk, .unk, .unk, .unk, .unk, .unk, .unk, .unk, .unk, .unk, .unk, .unk, .unk, .unk, .unk, .unk, .unk, .unk, .unk, .unk, .unk], h⟩
@[go_sem] theorem ks6_0 (v0 v1 v2 v3 v4 v5 v6 v7 v8 v9 v10 v11 v12 v13 v14 v15 v16 v17 v18 v19 v20 v21 v22 v23 v24 v25 v26 v27 v28 v29 v30 v31 v32 v33 v34 v35 v36 v37 v38 v39 v40 v41 v42 v43 v44 v45 v46 v47 v48 v49 v50 v51 v52 v53 v54 v55 v56 v57 v58 v59 v60 v61 v62 v63 v64 v65 v66 v67 v68 v69 v70 v71 v72 v73 v74 v75 v76 v77 v78 v79 v80 v81 v82 v83 v84 v85 v86 v87 v88 v89 v90 v91 v92 v93 v94 v95 v96 v97 v98 v99 v100 v101 v102 v103 v104 v105 v106 v107 v108 v109 v110 v111 v112 v113 v114 v115 v116 v117 v118 v119 v120 v121 v122 v123 v124 v125 v126 v127 v128 v129 v130 v131 v132 v133 v134 v135 v136 v137 v138 v139 v140 v141 v142 v143 v144 v145 v146 v147 v148 v149 v150 v151 v152 v153 v154 v155 v156 v157 v158 v159 v160 v161 v162 v163 v164 v165 v166 v167 v168 v169 v170 v171 v172 v173 : AV) : keepS [0, 1, 5, 6, 27, 28, 29] [v0, v1, v2, v3, v4, v5, v6, v7, v8, v9, v10, v11, v12, v13, v14, v15, v16, v17, v18, v19, v20, v21, v22, v23, v24, v25, v26, v27, v28, v29, v30, v31, v32, v33, v34, v35, v36, v37, v38, v39, v40, v41, v42, v43, v44, v45, v46, v47, v48, v49, v50, v51, v52, v53, v54, v55, v56, v57, v58, v59, v60, v61, v62, v63, v64, v65, v66, v67, v68, v69, v70, v71, v72, v73, v74, v75, v76, v77, v78, v79, v80, v81, v82, v83, v84, v85, v86, v87, v88, v89, v90, v91, v92, v93, v94, v95, v96, v97, v98, v99, v100, v101, v102, v103, v104, v105, v106, v107, v108, v109, v110, v111, v112, v113, v114, v115, v116, v117, v118, v119, v120, v121, v122, v123, v124, v125, v126, v127, v128, v129, v130, v131, v132, v133, v134, v135, v136, v137, v138, v139, v140, v141, v142, v143, v144, v145, v146, v147, v148, v149, v150, v151, v152, v153, v154, v155, v156, v157, v158, v159, v160, v161, v162, v163, v164, v165, v166, v167, v168, v169, v170, v171, v172, v173] 0 = [v0, v1, .unk, .unk, .unk, v5, v6, .unk, .unk, .unk, .unk, .unk, .unk, .unk, .unk, .unk, .unk, .unk, .unk, .unk, .unk, .unk, .unk, .unk, .unk, .unk, .unk, v27, v28, v29, .unk, .unk, .unk, .unk, .unk, .unk, .unk, .unk, .unk, .unk, .unk, .unk, .unk, .unk, .unk, .unk, .unk, .unk, .unk, .unk, .unk, .unk, .unk, .unk, .unk, .unk, .unk, .unk, .unk, .unk, .unk, .unk, .unk, .unk, .unk, .unk, .unk, .unk, .unk, .unk, .unk, .unk, .unk, .unk, .unk, .unk, .unk, .unk, .unk, .unk, .unk, .unk, .unk, .unk, .unk, .unk, .unk, .unk, .unk, .unk, .unk, .unk, .unk, .unk, .unk, .unk, .unk, .unk, .unk, .unk, .unk, .unk, .unk, .unk, .unk, .unk, .unk, .unk, .unk, .unk, .unk, .unk, .unk, .unk, .unk, .unk, .unk, .unk, .unk, .unk, .unk, .unk, .unk, .unk, .unk, .unk, .unk, .unk, .unk, .unk, .unk, .unk, .unk, .unk, .unk, .unk, .unk, .unk, .unk, .unk, .unk, .unk, .unk, .unk, .unk, .unk, .unk, .unk, .unk, .unk, .unk, .unk, .unk, .unk, .unk, .unk, .unk, .unk, .unk, .unk, .unk, .unk, .unk, .unk, .unk, .unk, .unk, .unk, .unk, .unk, .unk, .unk, .unk, .unk] := rfl
@[go_sem] theorem ks6_1 (v0 v1 v2 v3 v4 v5 v6 v7 v8 v9 v10 v11 v12 v13 v14 v15 v16 v17 v18 v19 v20 v21 v22 v23 v24 v25 v26 v27 v28 v29 v30 v31 v32 v33 v34 v35 v36 v37 v38 v39 v40 v41 v42 v43 v44 v45 v46 v47 v48 v49 v50 v51 v52 v53 v54 v55 v56 v57 v58 v59 v60 v61 v62 v63 v64 v65 v66 v67 v68 v69 v70 v71 v72 v73 v74 v75 v76 v77 v78 v79 v80 v81 v82 v83 v84 v85 v86 v87 v88 v89 v90 v91 v92 v93 v94 v95 v96 v97 v98 v99 v100 v101 v102 v103 v104 v105 v106 v107 v108 v109 v110 v111 v112 v113 v114 v115 v116 v117 v118 v119 v120 v121 v122 v123 v124 v125 v126 v127 v128 v129 v130 v131 v132 v133 v134 v135 v136 v137 v138 v139 v140 v141 v142 v143 v144 v145 v146 v147 v148 v149 v150 v151 v152 v153 v154 v155 v156 v157 v158 v159 v160 v161 v162 v163 v164 v165 v166 v167 v168 v169 v170 v171 v172 v173 : AV) : keepS [0, 1, 5, 6] [v0, v1, v2, v3, v4, v5, v6, v7, v8, v9, v10, v11, v12, v13, v14, v15, v16, v17, v18, v19, v20, v21, v22, v23, v24, v25, v26, v27, v28, v29, v30, v31, v32, v33, v34, v35, v36, v37, v38, v39, v40, v41, v42, v43, v44, v45, v46, v47, v48, v49, v50, v51, v52, v53, v54, v55, v56, v57, v58, v59, v60, v61, v62, v63, v64, v65, v66, v67, v68, v69, v70, v71, v72, v73, v74, v75, v76, v77, v78, v79, v80, v81, v82, v83, v84, v85, v86, v87, v88, v89, v90, v91, v92, v93, v94, v95, v96, v97, v98, v99, v100, v101, v102, v103, v104, v105, v106, v107, v108, v109, v110, v111, v112, v113, v114, v115, v116, v117, v118, v119, v120, v121, v122, v123, v124, v125, v126, v127, v128, v129, v130, v131, v132, v133, v134, v135, v136, v137, v138, v139, v140, v141, v142, v143, v144, v145, v146, v147, v148, v149, v150, v151, v152, v153, v154, v155, v156, v157, v158, v159, v160, v161, v162, v163, v164, v165, v166, v167, v168, v169, v170, v171, v172, v173] 0 = [v0, v1, .unk, .unk, .unk, v5, v6, .unk, .unk, .unk, .unk, .unk, .unk, .unk, .unk, .unk, .unk, .unk, .unk, .unk, .unk, .unk, .unk, .unk, .unk, .unk, .unk, .unk, .unk, .unk, .unk, .unk, .unk, .unk, .unk, .unk, .unk, .unk, .unk, .unk, .unk, .unk, .unk, .unk, .unk, .unk, .unk, .unk, .unk, .unk, .unk, .unk, .unk, .unk, .unk, .unk, .unk, .unk, .unk, .unk, .unk, .unk, .unk, .unk, .unk, .unk, .unk, .unk, .unk, .unk, .unk, .unk, .unk, .unk, .unk, .unk, .unk, .unk, .unk, .unk, .unk, .unk, .unk, .unk, .unk, .unk, .unk, .unk, .unk, .unk, .unk, .unk, .unk, .unk, .unk, .unk, .unk, .unk, .unk, .unk, .unk, .unk, .unk, .unk, .unk, .unk, .unk, .unk, .unk, .unk, .unk, .unk, .unk, .unk, .unk, .unk, .unk, .unk, .unk, .unk, .unk, .unk, .unk, .unk, .unk, .unk, .unk, .unk, .unk, .unk, .unk, .unk, .unk, .unk, .unk, .unk, .unk, .unk, .unk, .unk, .unk, .unk, .unk, .unk, .unk, .unk, .unk, .unk, .unk, .unk, .unk, .unk, .unk, .unk, .unk, .unk, .unk, .unk, .unk, .unk, .unk, .unk, .unk, .unk, .unk, .unk, .unk, .unk, .unk, .unk, .unk, .unk, .unk, .unk] := rfl
@[go_sem] theorem ks6_2 (v0 v1 v2 v3 v4 v5 v6 v7 v8 v9 v10 v11 v12 v13 v14 v15 v16 v17 v18 v19 v20 v21 v22 v23 v24 v25 v26 v27 v28 v29 v30 v31 v32 v33 v34 v35 v36 v37 v38 v39 v40 v41 v42 v43 v44 v45 v46 v47 v48 v49 v50 v51 v52 v53 v54 v55 v56 v57 v58 v59 v60 v61 v62 v63 v64 v65 v66 v67 v68 v69 v70 v71 v72 v73 v74 v75 v76 v77 v78 v79 v80 v81 v82 v83 v84 v85 v86 v87 v88 v89 v90 v91 v92 v93 v94 v95 v96 v97 v98 v99 v100 v101 v102 v103 v104 v105 v106 v107 v108 v109 v110 v111 v112 v113 v114 v115 v116 v117 v118 v119 v120 v121 v122 v123 v124 v125 v126 v127 v128 v129 v130 v131 v132 v133 v134 v135 v136 v137 v138 v139 v140 v141 v142 v143 v144 v145 v146 v147 v148 v149 v150 v151 v152 v153 v154 v155 v156 v157 v158 v159 v160 v161 v162 v163 v164 v165 v166 v167 v168 v169 v170 v171 v172 v173 : AV) : keepS [0, 1, 5, 6, 7, 8, 27, 28, 29, 66, 67, 68] [v0, v1, v2, v3, v4, v5, v6, v7, v8, v9, v10, v11, v12, v13, v14, v15, v16, v17, v18, v19, v20, v21, v22, v23, v24, v25, v26, v27, v28, v29, v30, v31, v32, v33, v34, v35, v36, v37, v38, v39, v40, v41, v42, v43, v44, v45, v46, v47, v48, v49, v50, v51, v52, v53, v54, v55, v56, v57, v58, v59, v60, v61, v62, v63, v64, v65, v66, v67, v68, v69, v70, v71, v72, v73, v74, v75, v76, v77, v78, v79, v80, v81, v82, v83, v84, v85, v86, v87, v88, v89, v90, v91, v92, v93, v94, v95, v96, v97, v98, v99, v100, v101, v102, v103, v104, v105, v106, v107, v108, v109, v110, v111, v112, v113, v114, v115, v116, v117, v118, v119, v120, v121, v122, v123, v124, v125, v126, v127, v128, v129, v130, v131, v132, v133, v134, v135, v136, v137, v138, v139, v140, v141, v142, v143, v144, v145, v146, v147, v148, v149, v150, v151, v152, v153, v154, v155, v156, v157, v158, v159, v160, v161, v162, v163, v164, v165, v166, v167, v168, v169, v170, v171, v172, v173] 0 = [v0, v1, .unk, .unk, .unk, v5, v6, v7, v8, .unk, .unk, .unk, .unk, .unk, .unk, .unk, .unk, .unk, .unk, .unk, .unk, .unk, .unk, .unk, .unk, .unk, .unk, v27, v28, v29, .unk, .unk, .unk, .unk, .unk, .unk, .unk, .unk, .unk, .unk, .unk, .unk, .unk, .unk, .unk, .unk, .unk, .unk, .unk, .unk, .unk, .unk, .unk, .unk, .unk, .unk, .unk, .unk, .unk, .unk, .unk, .unk, .unk, .unk, .unk, .unk, v66, v67, v68, .unk, .unk, .unk, .unk, .unk, .unk, .unk, .unk, .unk, .unk, .unk, .unk, .unk, .unk, .unk, .unk, .unk, .unk, .unk, .unk, .unk, .unk, .unk, .unk, .unk, .unk, .unk, .unk, .unk, .unk, .unk, .unk, .unk, .unk, .unk, .unk, .unk, .unk, .unk, .unk, .unk, .unk, .unk, .unk, .unk, .unk, .unk, .unk, .unk, .unk, .unk, .unk, .unk, .unk, .unk, .unk, .unk, .unk, .unk, .unk, .unk, .unk, .unk, .unk, .unk, .unk, .unk, .unk, .unk, .unk, .unk, .unk, .unk, .unk, .unk, .unk, .unk, .unk, .unk, .unk, .unk, .unk, .unk, .unk, .unk, .unk, .unk, .unk, .unk, .unk, .unk, .unk, .unk, .unk, .unk, .unk, .unk, .unk, .unk, .unk, .unk, .unk, .unk, .unk, .unk] := rfl
@[go_sem] theorem ks6_3 (v0 v1 v2 v3 v4 v5 v6 v7 v8 v9 v10 v11 v12 v13 v14 v15 v16 v17 v18 v19 v20 v21 v22 v23 v24 v25 v26 v27 v28 v29 v30 v31 v32 v33 v34 v35 v36 v37 v38 v39 v40 v41 v42 v43 v44 v45 v46 v47 v48 v49 v50 v51 v52 v53 v54 v55 v56 v57 v58 v59 v60 v61 v62 v63 v64 v65 v66 v67 v68 v69 v70 v71 v72 v73 v74 v75 v76 v77 v78 v79 v80 v81 v82 v83 v84 v85 v86 v87 v88 v89 v90 v91 v92 v93 v94 v95 v96 v97 v98 v99 v100 v101 v102 v103 v104 v105 v106 v107 v108 v109 v110 v111 v112 v113 v114 v115 v116 v117 v118 v119 v120 v121 v122 v123 v124 v125 v126 v127 v128 v129 v130 v131 v132 v133 v134 v135 v136 v137 v138 v139 v140 v141 v142 v143 v144 v145 v146 v147 v148 v149 v150 v151 v152 v153 v154 v155 v156 v157 v158 v159 v160 v161 v162 v163 v164 v165 v166 v167 v168 v169 v170 v171 v172 v173 : AV) : keepS [0, 1, 5, 6, 7, 8, 27, 28, 29] [v0, v1, v2, v3, v4, v5, v6, v7, v8, v9, v10, v11, v12, v13, v14, v15, v16, v17, v18, v19, v20, v21, v22, v23, v24, v25, v26, v27, v28, v29, v30, v31, v32, v33, v34, v35, v36, v37, v38, v39, v40, v41, v42, v43, v44, v45, v46, v47, v48, v49, v50, v51, v52, v53, v54, v55, v56, v57, v58, v59, v60, v61, v62, v63, v64, v65, v66, v67, v68, v69, v70, v71, v72, v73, v74, v75, v76, v77, v78, v79, v80, v81, v82, v83, v84, v85, v86, v87, v88, v89, v90, v91, v92, v93, v94, v95, v96, v97, v98, v99, v100, v101, v102, v103, v104, v105, v106, v107, v108, v109, v110, v111, v112, v113, v114, v115, v116, v117, v118, v119, v120, v121, v122, v123, v124, v125, v126, v127, v128, v129, v130, v131, v132, v133, v134, v135, v136, v137, v138, v139, v140, v141, v142, v143, v144, v145, v146, v147, v148, v149, v150, v151, v152, v153, v154, v155, v156, v157, v158, v159, v160, v161, v162, v163, v164, v165, v166, v167, v168, v169, v170, v171, v172, v173] 0 = [v0, v1, .unk, .unk, .unk, v5, v6, v7, v8, .unk, .unk, .unk, .unk, .unk, .unk, .unk, .unk, .unk, .unk, .unk, .unk, .unk, .unk, .unk, .unk, .unk, .unk, v27, v28, v29, .unk, .unk, .unk, .unk, .unk, .unk, .unk, .unk, .unk, .unk, .unk, .unk, .unk, .unk, .unk, .unk, .unk, .unk, .unk, .unk, .unk, .unk, .unk, .unk, .unk, .unk, .unk, .unk, .unk, .unk, .unk, .unk, .unk, .unk, .unk, .unk, .unk, .unk, .unk, .unk, .unk, .unk, .unk, .unk, .unk, .unk, .unk, .unk, .unk, .unk, .unk, .unk, .unk, .unk, .unk, .unk, .unk, .unk, .unk, .unk, .unk, .unk, .unk, .unk, .unk, .unk, .unk, .unk, .unk, .unk, .unk, .unk, .unk, .unk, .unk, .unk, .unk, .unk, .unk, .unk, .unk, .unk, .unk, .unk, .unk, .unk, .unk, .unk, .unk, .unk, .unk, .unk, .unk, .unk, .unk, .unk, .unk, .unk, .unk, .unk, .unk, .unk, .unk, .unk, .unk, .unk, .unk, .unk, .unk, .unk, .unk, .unk, .unk, .unk, .unk, .unk, .unk, .unk, .unk, .unk, .unk, .unk, .unk, .unk, .unk, .unk, .unk, .unk, .unk, .unk, .unk, .unk, .unk, .unk, .unk, .unk, .unk, .unk, .unk, .unk, .unk, .unk, .unk, .unk] := rfl
/-- spence/spencelaw45.StatDones -/
def bd6 : C :=
  (.seq (.reg [⟨some 4, none, .mv (.c (.d (.bool false))), .none⟩])
  (.seq (.seq (.reg [⟨some 17, none, .call 20 [] 2, .none⟩,
       ⟨some 18, none, .un .not (.s 17), .none⟩])
   (.cond (.s 18)
    (.seq (.reg [⟨some 4, none, .mv (.c (.d (.bool false))), .none⟩])
    (.ret none))
    .skip))
  (.seq (.seq (.reg [⟨some 19, none, .mv (.s 0), .none⟩,
       ⟨some 20, none, .call 21 [.s 19] 2, .none⟩,
       ⟨some 21, none, .un .not (.s 20), .none⟩,
       ⟨some 22, none, .mv (.s 21), .none⟩,
       ⟨some 23, some (22, false), .mv (.s 1), .none⟩,
       ⟨some 24, some (22, false), .call 21 [.s 23] 2, .none⟩,
       ⟨some 25, some (22, false), .un .not (.s 24), .none⟩,
       ⟨some 26, none, .pick (.s 22) (.c (.d (.bool true))) (.s 25), .none⟩])
   (.cond (.s 26)
    (.seq (.reg [⟨some 4, none, .mv (.c (.d (.bool true))), .none⟩])
    (.ret none))
    .skip))
  (.seq (.reg [⟨some 5, none, .alloc 43 [.int .i64 0, .int .i64 0, .int .i64 0, .int .i64 0, .int .i64 0, .int .i64 0], .none⟩])
  (.seq (.reg [⟨some 6, none, .mv (.c (.d (.int .i64 0))), .none⟩])
  (.seq (.seq (.reg [⟨some 27, none, .mv (.s 0), .none⟩,
       ⟨some 28, none, .len (.s 27), .none⟩,
       ⟨some 29, none, .mv (.c (.d (.int .i64 0))), .none⟩])
   (.block 0 (.loop [0, 1, 5, 6, 27, 28, 29] lp6_0)))
  (.seq (.reg [⟨some 114, none, .mv (.s 0), .none⟩,
      ⟨some 115, none, .call 23 [.s 114] 2, .none⟩,
      ⟨some 113, none, .mv (.s 115), .none⟩,
      ⟨some 116, none, .ext (.s 113) 0, .none⟩,
      ⟨some 117, none, .ext (.s 113) 1, .none⟩,
      ⟨some 14, none, .alloc 49 [.int .i64 0, .str [], .str [], .int .i64 0, .int .i64 0, .int .i64 0, .int .i64 0, .int .i64 0, .str [], .str [], .nils], .cells [(10, 1, false)]⟩,
      ⟨none, none, .st (.s 14) (.s 116) 11, .none⟩,
      ⟨some 15, none, .mv (.s 117), .none⟩])
  (.seq (.seq (.drw [⟨some 118, none, .mv (.s 15), .none⟩,
       ⟨some 119, none, .mv (.s 0), .none⟩,
       ⟨some 120, none, .len (.s 119), .none⟩,
       ⟨some 121, none, .bin .gtr (.s 120) (.c (.d (.int .i64 0))), .none⟩,
       ⟨some 122, none, .beq true (.s 118) (.s 121), .none⟩,
       ⟨some 123, none, .mv (.s 122), .none⟩,
       ⟨some 124, some (123, false), .mv (.s 15), .none⟩,
       ⟨some 125, some (123, false), .mv (.s 124), .none⟩,
       ⟨some 126, some (125, true), .fa (.s 14) 3, .none⟩,
       ⟨some 127, some (125, true), .ld (.s 126) 1 false, .none⟩,
       ⟨some 128, some (125, true), .mv (.s 0), .none⟩,
       ⟨some 129, some (125, true), .mv (.s 6), .none⟩,
       ⟨some 130, some (125, true), .is (.s 128) (.s 129) 11, .none⟩,
       ⟨some 131, some (125, true), .fa (.s 130) 3, .none⟩,
       ⟨some 132, some (125, true), .ld (.s 131) 1 false, .none⟩,
       ⟨some 133, some (125, true), .bin .neq (.s 127) (.s 132), .none⟩,
       ⟨some 134, some (125, true), .mv (.s 133), .none⟩,
       ⟨some 135, some (134, false), .fa (.s 14) 4, .none⟩,
       ⟨some 136, some (134, false), .ld (.s 135) 1 false, .none⟩,
       ⟨some 137, some (134, false), .mv (.s 0), .none⟩,
       ⟨some 138, some (134, false), .mv (.s 6), .none⟩,
       ⟨some 139, some (134, false), .is (.s 137) (.s 138) 11, .none⟩,
       ⟨some 140, some (134, false), .fa (.s 139) 4, .none⟩,
       ⟨some 141, some (134, false), .ld (.s 140) 1 false, .none⟩,
       ⟨some 142, some (134, false), .bin .neq (.s 136) (.s 141), .none⟩,
       ⟨some 143, some (125, true), .pick (.s 134) (.c (.d (.bool true))) (.s 142), .none⟩,
       ⟨some 144, some (125, true), .mv (.s 143), .none⟩,
       ⟨some 145, some (144, false), .fa (.s 14) 0, .none⟩,
       ⟨some 146, some (144, false), .ld (.s 145) 3 true, .none⟩,
       ⟨some 147, some (144, false), .mv (.s 0), .none⟩,
       ⟨some 148, some (144, false), .mv (.s 6), .none⟩,
       ⟨some 149, some (144, false), .is (.s 147) (.s 148) 11, .none⟩,
       ⟨some 150, some (144, false), .fa (.s 149) 0, .none⟩,
       ⟨some 151, some (144, false), .ld (.s 150) 3 true, .none⟩,
       ⟨some 152, some (144, false), .eqs true [1, 2, 2] (.s 146) (.s 151), .none⟩,
       ⟨some 153, some (125, true), .pick (.s 144) (.c (.d (.bool true))) (.s 152), .none⟩,
       ⟨some 154, some (123, false), .pick (.s 125) (.s 153) (.c (.d (.bool false))), .none⟩,
       ⟨some 155, none, .pick (.s 123) (.c (.d (.bool true))) (.s 154), .none⟩]
      [[], [], [1], [2], [0, 3], [4], [5], [6, 5, 5], [7], [8, 7], [7], [7], [10, 11, 7], [12, 7], [13, 7], [9, 14, 7], [15, 7, 7], [16], [17, 16], [16], [16], [19, 20, 16], [21, 16], [22, 16], [18, 23, 16], [16, 24, 7], [25, 16, 7], [26], [27, 26], [26], [26], [29, 30, 26], [31, 26], [32, 26], [28, 33, 26], [26, 34, 7], [7, 35, 5], [5, 36]] [])
   (.cond (.s 155)
    (.seq (.reg [⟨some 4, none, .mv (.c (.d (.bool false))), .none⟩])
    (.ret none))
    .skip))
  (.seq (.reg [⟨some 156, none, .mv (.s 0), .none⟩,
      ⟨some 157, none, .app 49 11 136 (.c (.d .nils)) (.s 156), .none⟩,
      ⟨some 158, none, .mv (.s 1), .none⟩,
      ⟨some 159, none, .app 49 11 136 (.s 157) (.s 158), .none⟩,
      ⟨some 16, none, .mv (.s 159), .none⟩])
  (.seq (.drw [⟨some 160, none, .mv (.s 0), .none⟩,
      ⟨some 161, none, .call 24 [.s 160] 2, .none⟩,
      ⟨some 162, none, .ld (.s 5) 6 true, .none⟩,
      ⟨some 163, none, .eqs false [1, 1, 1, 1, 1, 1] (.s 161) (.s 162), .none⟩,
      ⟨some 164, none, .mv (.s 163), .none⟩,
      ⟨some 165, some (164, true), .mv (.s 0), .none⟩,
      ⟨some 166, some (164, true), .call 24 [.s 165] 2, .none⟩,
      ⟨some 167, some (164, true), .mv (.s 1), .none⟩,
      ⟨some 168, some (164, true), .call 24 [.s 167] 2, .none⟩,
      ⟨some 169, some (164, true), .call 25 [.s 166, .s 168] 2, .none⟩,
      ⟨some 170, some (164, true), .mv (.s 16), .none⟩,
      ⟨some 171, some (164, true), .call 24 [.s 170] 2, .none⟩,
      ⟨some 172, some (164, true), .eqs false [1, 1, 1, 1, 1, 1] (.s 169) (.s 171), .none⟩,
      ⟨some 173, none, .pick (.s 164) (.s 172) (.c (.d (.bool false))), .none⟩,
      ⟨some 4, none, .mv (.s 173), .none⟩]
     [[], [0], [], [1, 2], [3, 1], [4], [5, 4, 4], [4], [7, 6, 4], [6, 8, 8, 4], [4], [10, 9, 4], [9, 11, 4], [4, 12], [13, 11, 0, 1, 2, 3, 4, 5, 6, 7, 8, 9, 10, 11, 12, 13]] [])
  (.ret none)))))))))))
def ir6 : F := { n := 174, res := [.tmp 4], body := bd6 }
@[go_sem] theorem n6 : ir6.n = 174 := rfl
@[go_sem] theorem r6 : ir6.res = [.tmp 4] := rfl
@[go_sem] theorem b6 : ir6.body = bd6 := rfl
/-- spence/spencelaw08.awake -/
def bd9 : C :=
  (.seq (.reg [⟨some 0, none, .mv (.c (.d (.bool false))), .none⟩])
  (.seq (.reg [⟨some 4, none, .build [.int .i64 0, .int .i64 0] [(1, (1, .c (.d (.int .i64 1))))], .none⟩,
      ⟨some 5, none, .bsl 5 1 1 [.int .u8 0] [(0, (1, .c (.d (.int .u8 7))))], .none⟩,
      ⟨some 6, none, .build [.int .i64 0, .int .i64 0, .nils] [(0, (2, .s 4)), (2, (1, .s 5))], .cells [(2, 1, false)]⟩,
      ⟨some 7, none, .bsl 54 3 1 [.int .i64 0, .int .i64 0, .nils] [(0, (3, .s 6))], .none⟩,
      ⟨some 8, none, .call 11 [.s 7, .c (.d (.int .i64 3)), .c (.d (.str [120]))] 0, .none⟩,
      ⟨some 3, none, .mv (.s 8), .none⟩,
      ⟨some 9, none, .ext (.s 3) 0, .none⟩,
      ⟨some 10, none, .ext (.s 3) 1, .none⟩,
      ⟨some 1, none, .mv (.s 9), .none⟩,
      ⟨some 2, none, .mv (.s 10), .none⟩])
  (.seq (.reg [⟨some 11, none, .call 32 [.c (.d (.str [120]))] 2, .none⟩,
      ⟨some 12, none, .bin .eql (.s 11) (.c (.d (.str [109, 117, 108, 116, 105, 112, 97, 114, 116, 47, 98, 121, 116, 101, 114, 97, 110, 103, 101, 115, 59, 32, 98, 111, 117, 110, 100, 97, 114, 121, 61, 120]))), .none⟩,
      ⟨some 13, none, .mv (.s 12), .none⟩,
      ⟨some 14, some (13, true), .mv (.s 2), .none⟩,
      ⟨some 15, some (13, true), .bin .eql (.s 14) (.c (.d (.int .i64 0))), .none⟩,
      ⟨some 16, none, .pick (.s 13) (.s 15) (.c (.d (.bool false))), .none⟩,
      ⟨some 17, none, .mv (.s 16), .none⟩,
      ⟨some 18, some (17, true), .mv (.s 1), .none⟩,
      ⟨some 19, some (17, true), .len (.s 18), .none⟩,
      ⟨some 20, some (17, true), .bin .gtr (.s 19) (.c (.d (.int .i64 10))), .none⟩,
      ⟨some 21, none, .pick (.s 17) (.s 20) (.c (.d (.bool false))), .none⟩,
      ⟨some 0, none, .mv (.s 21), .none⟩])
  (.ret none))))
def ir9 : F := { n := 22, res := [.tmp 0], body := bd9 }
@[go_sem] theorem n9 : ir9.n = 22 := rfl
@[go_sem] theorem r9 : ir9.res = [.tmp 0] := rfl
@[go_sem] theorem b9 : ir9.body = bd9 := rfl
def lb10_0 : C :=
  (.seq (.reg [⟨some 9, none, .bin .lss (.s 8) (.s 7), .none⟩])
  (.seq (.cond (.s 9)
    .skip
    (.exit 0 (some [0])))
  (.seq (.block 1 (.seq (.reg [⟨some 10, none, .is (.s 6) (.s 8) 3, .none⟩,
        ⟨some 11, none, .ld (.s 10) 3 true, .none⟩,
        ⟨some 5, none, .alloc 54 [.int .i64 0, .int .i64 0, .nils], .cells [(2, 1, false)]⟩,
        ⟨none, none, .st (.s 5) (.s 11) 3, .none⟩])
    (.seq (.reg [⟨some 12, none, .mv (.s 3), .none⟩,
        ⟨some 13, none, .fa (.s 5) 2, .none⟩,
        ⟨some 14, none, .ld (.s 13) 1 false, .none⟩,
        ⟨some 15, none, .len (.s 14), .none⟩,
        ⟨some 16, none, .bin .add (.s 12) (.s 15), .none⟩,
        ⟨some 3, none, .mv (.s 16), .none⟩])
    (.seq (.reg [⟨some 17, none, .mv (.s 3), .none⟩,
        ⟨some 18, none, .bin .gtr (.s 17) (.c (.d (.int .i64 2000))), .none⟩])
    (.cond (.s 18)
     (.seq (.reg [⟨some 2, none, .mv (.c (.d (.bool false))), .none⟩])
     (.ret (some [2])))
     .skip)))))
  (.reg [⟨some 19, none, .bin .add (.s 8) (.c (.d (.int .i64 1))), .none⟩,
     ⟨some 8, none, .mv (.s 19), .none⟩]))))
def lp10_0 : C := lb10_0
theorem u10_0 (c : Ev.Callee) (l : Ev.Looper) (s : St) : evC c l lp10_0 s = evC c l lb10_0 s := rfl
abbrev st10_0 (m : Nat) (s0 s3 s6 s7 s8 : AV) (h : Heap) : St := ⟨m, [s0, .unk, .unk, s3, .unk, .unk, s6, s7, s8, .unk, .unk, .unk, .unk, .unk, .unk, .unk, .unk, .unk, .unk, .unk, .unk, .unk, .unk], h⟩
@[go_sem] theorem ks10_0 (v0 v1 v2 v3 v4 v5 v6 v7 v8 v9 v10 v11 v12 v13 v14 v15 v16 v17 v18 v19 v20 v21 v22 : AV) : keepS [0, 3, 6, 7, 8] [v0, v1, v2, v3, v4, v5, v6, v7, v8, v9, v10, v11, v12, v13, v14, v15, v16, v17, v18, v19, v20, v21, v22] 0 = [v0, .unk, .unk, v3, .unk, .unk, v6, v7, v8, .unk, .unk, .unk, .unk, .unk, .unk, .unk, .unk, .unk, .unk, .unk, .unk, .unk, .unk] := rfl
@[go_sem] theorem ks10_1 (v0 v1 v2 v3 v4 v5 v6 v7 v8 v9 v10 v11 v12 v13 v14 v15 v16 v17 v18 v19 v20 v21 v22 : AV) : keepS [0] [v0, v1, v2, v3, v4, v5, v6, v7, v8, v9, v10, v11, v12, v13, v14, v15, v16, v17, v18, v19, v20, v21, v22] 0 = [v0, .unk, .unk, .unk, .unk, .unk, .unk, .unk, .unk, .unk, .unk, .unk, .unk, .unk, .unk, .unk, .unk, .unk, .unk, .unk, .unk, .unk, .unk] := rfl
@[go_sem] theorem ks10_2 (v0 v1 v2 v3 v4 v5 v6 v7 v8 v9 v10 v11 v12 v13 v14 v15 v16 v17 v18 v19 v20 v21 v22 : AV) : keepS [2] [v0, v1, v2, v3, v4, v5, v6, v7, v8, v9, v10, v11, v12, v13, v14, v15, v16, v17, v18, v19, v20, v21, v22] 0 = [.unk, .unk, v2, .unk, .unk, .unk, .unk, .unk, .unk, .unk, .unk, .unk, .unk, .unk, .unk, .unk, .unk, .unk, .unk, .unk, .unk, .unk, .unk] := rfl
/-- spence/spencelaw08.Few -/
def bd10 : C :=
  (.seq (.reg [⟨some 2, none, .mv (.c (.d (.bool false))), .none⟩])
  (.seq (.reg [⟨some 3, none, .mv (.c (.d (.int .i64 0))), .none⟩])
  (.seq (.seq (.reg [⟨some 6, none, .mv (.s 0), .none⟩,
       ⟨some 7, none, .len (.s 6), .none⟩,
       ⟨some 8, none, .mv (.c (.d (.int .i64 0))), .none⟩])
   (.block 0 (.loop [0, 3, 6, 7, 8] lp10_0)))
  (.seq (.reg [⟨some 20, none, .mv (.s 0), .none⟩,
      ⟨some 21, none, .len (.s 20), .none⟩,
      ⟨some 22, none, .bin .leq (.s 21) (.c (.d (.int .i64 20))), .none⟩,
      ⟨some 2, none, .mv (.s 22), .none⟩])
  (.ret none)))))
def ir10 : F := { n := 23, res := [.tmp 2], body := bd10 }
@[go_sem] theorem n10 : ir10.n = 23 := rfl
@[go_sem] theorem r10 : ir10.res = [.tmp 2] := rfl
@[go_sem] theorem b10 : ir10.body = bd10 := rfl
def lb12_0 : C :=
  (.seq (.reg [⟨some 29, none, .bin .lss (.s 28) (.s 27), .none⟩])
  (.seq (.cond (.s 29)
    .skip
    (.exit 0 (some [2, 8])))
  (.seq (.block 1 (.seq (.reg [⟨some 30, none, .is (.s 26) (.s 28) 3, .none⟩,
        ⟨some 31, none, .ld (.s 30) 3 true, .none⟩,
        ⟨some 10, none, .alloc 54 [.int .i64 0, .int .i64 0, .nils], .cells [(2, 1, false)]⟩,
        ⟨none, none, .st (.s 10) (.s 31) 3, .none⟩])
    (.seq (.reg [⟨some 32, none, .mv (.s 2), .none⟩,
        ⟨some 33, none, .bin .add (.c (.d (.str [45, 45]))) (.s 32), .none⟩,
        ⟨some 34, none, .bin .add (.s 33) (.c (.d (.str [13, 10, 67, 111, 110, 116, 101, 110, 116, 45, 82, 97, 110, 103, 101, 58, 32]))), .none⟩,
        ⟨some 35, none, .fa (.s 10) 0, .none⟩,
        ⟨some 36, none, .ld (.s 35) 2 true, .none⟩,
        ⟨some 37, none, .mv (.s 1), .none⟩,
        ⟨some 38, none, .build [.bool false, .int .i64 0, .int .i64 0, .int .i64 0] [(0, (1, .c (.d (.bool true)))), (1, (2, .s 36)), (3, (1, .s 37))], .none⟩,
        ⟨some 39, none, .call 38 [.s 38] 2, .none⟩,
        ⟨some 40, none, .bin .add (.s 34) (.s 39), .none⟩,
        ⟨some 41, none, .bin .add (.s 40) (.c (.d (.str [13, 10, 13, 10]))), .none⟩,
        ⟨some 11, none, .mv (.s 41), .none⟩])
    (.seq (.reg [⟨some 42, none, .mv (.s 8), .none⟩,
        ⟨some 43, none, .mv (.s 11), .none⟩,
        ⟨some 44, none, .app 5 1 1 (.s 42) (.s 43), .none⟩,
        ⟨some 8, none, .mv (.s 44), .none⟩])
    (.seq (.reg [⟨some 45, none, .mv (.s 8), .none⟩,
        ⟨some 46, none, .fa (.s 10) 2, .none⟩,
        ⟨some 47, none, .ld (.s 46) 1 false, .none⟩,
        ⟨some 48, none, .app 5 1 1 (.s 45) (.s 47), .none⟩,
        ⟨some 8, none, .mv (.s 48), .none⟩])
    (.reg [⟨some 49, none, .mv (.s 8), .none⟩,
       ⟨some 50, none, .bsl 5 1 2 [.int .u8 0] [(0, (1, .c (.d (.int .u8 13)))), (1, (1, .c (.d (.int .u8 10))))], .none⟩,
       ⟨some 51, none, .app 5 1 1 (.s 49) (.s 50), .none⟩,
       ⟨some 8, none, .mv (.s 51), .none⟩]))))))
  (.reg [⟨some 52, none, .bin .add (.s 28) (.c (.d (.int .i64 1))), .none⟩,
     ⟨some 28, none, .mv (.s 52), .none⟩]))))
def lp12_0 : C := lb12_0
theorem u12_0 (c : Ev.Callee) (l : Ev.Looper) (s : St) : evC c l lp12_0 s = evC c l lb12_0 s := rfl
abbrev st12_0 (m : Nat) (s1 s2 s8 s26 s27 s28 : AV) (h : Heap) : St := ⟨m, [.unk, s1, s2, .unk, .unk, .unk, .unk, .unk, s8, .unk, .unk, .unk, .unk, .unk, .unk, .unk, .unk, .unk, .unk, .unk, .unk, .unk, .unk, .unk, .unk, .unk, s26, s27, s28, .unk, .unk, .unk, .unk, .unk, .unk, .unk, .unk, .unk, .unk, .unk, .unk, .unk, .unk, .unk, .unk, .unk, .unk, .unk, .unk, .unk, .unk, .unk, .unk, .unk, .unk, .unk, .unk, .unk], h⟩
@[go_sem] theorem ks12_0 (v0 v1 v2 v3 v4 v5 v6 v7 v8 v9 v10 v11 v12 v13 v14 v15 v16 v17 v18 v19 v20 v21 v22 v23 v24 v25 v26 v27 v28 v29 v30 v31 v32 v33 v34 v35 v36 v37 v38 v39 v40 v41 v42 v43 v44 v45 v46 v47 v48 v49 v50 v51 v52 v53 v54 v55 v56 v57 : AV) : keepS [1, 2, 8, 26, 27, 28] [v0, v1, v2, v3, v4, v5, v6, v7, v8, v9, v10, v11, v12, v13, v14, v15, v16, v17, v18, v19, v20, v21, v22, v23, v24, v25, v26, v27, v28, v29, v30, v31, v32, v33, v34, v35, v36, v37, v38, v39, v40, v41, v42, v43, v44, v45, v46, v47, v48, v49, v50, v51, v52, v53, v54, v55, v56, v57] 0 = [.unk, v1, v2, .unk, .unk, .unk, .unk, .unk, v8, .unk, .unk, .unk, .unk, .unk, .unk, .unk, .unk, .unk, .unk, .unk, .unk, .unk, .unk, .unk, .unk, .unk, v26, v27, v28, .unk, .unk, .unk, .unk, .unk, .unk, .unk, .unk, .unk, .unk, .unk, .unk, .unk, .unk, .unk, .unk, .unk, .unk, .unk, .unk, .unk, .unk, .unk, .unk, .unk, .unk, .unk, .unk, .unk] := rfl
@[go_sem] theorem ks12_1 (v0 v1 v2 v3 v4 v5 v6 v7 v8 v9 v10 v11 v12 v13 v14 v15 v16 v17 v18 v19 v20 v21 v22 v23 v24 v25 v26 v27 v28 v29 v30 v31 v32 v33 v34 v35 v36 v37 v38 v39 v40 v41 v42 v43 v44 v45 v46 v47 v48 v49 v50 v51 v52 v53 v54 v55 v56 v57 : AV) : keepS [2, 8] [v0, v1, v2, v3, v4, v5, v6, v7, v8, v9, v10, v11, v12, v13, v14, v15, v16, v17, v18, v19, v20, v21, v22, v23, v24, v25, v26, v27, v28, v29, v30, v31, v32, v33, v34, v35, v36, v37, v38, v39, v40, v41, v42, v43, v44, v45, v46, v47, v48, v49, v50, v51, v52, v53, v54, v55, v56, v57] 0 = [.unk, .unk, v2, .unk, .unk, .unk, .unk, .unk, v8, .unk, .unk, .unk, .unk, .unk, .unk, .unk, .unk, .unk, .unk, .unk, .unk, .unk, .unk, .unk, .unk, .unk, .unk, .unk, .unk, .unk, .unk, .unk, .unk, .unk, .unk, .unk, .unk, .unk, .unk, .unk, .unk, .unk, .unk, .unk, .unk, .unk, .unk, .unk, .unk, .unk, .unk, .unk, .unk, .unk, .unk, .unk, .unk, .unk] := rfl
/-- spence/spenceref04.Multi -/
def bd12 : C :=
  (.seq (.reg [⟨some 6, none, .mv (.c (.d .nils)), .one 1 true⟩,
      ⟨some 7, none, .mv (.c (.d (.bool false))), .none⟩])
  (.seq (.seq (.reg [⟨some 12, none, .mv (.s 2), .none⟩,
       ⟨some 13, none, .call 19 [.s 12] 2, .none⟩,
       ⟨some 14, none, .un .not (.s 13), .none⟩,
       ⟨some 15, none, .mv (.s 14), .none⟩,
       ⟨some 16, some (15, false), .mv (.s 2), .none⟩,
       ⟨some 17, some (15, false), .lens (.s 16), .none⟩,
       ⟨some 18, some (15, false), .bin .gtr (.s 17) (.c (.d (.int .i64 40))), .none⟩,
       ⟨some 19, none, .pick (.s 15) (.c (.d (.bool true))) (.s 18), .none⟩,
       ⟨some 20, none, .mv (.s 19), .none⟩,
       ⟨some 21, some (20, false), .mv (.s 0), .none⟩,
       ⟨some 22, some (20, false), .mv (.s 1), .none⟩,
       ⟨some 23, some (20, false), .call 14 [.s 21, .s 22] 2, .none⟩,
       ⟨some 24, some (20, false), .un .not (.s 23), .none⟩,
       ⟨some 25, none, .pick (.s 20) (.c (.d (.bool true))) (.s 24), .none⟩])
   (.cond (.s 25)
    (.seq (.reg [⟨some 6, none, .mv (.c (.d .nils)), .one 1 true⟩,
        ⟨some 7, none, .mv (.c (.d (.bool false))), .none⟩])
    (.ret none))
    .skip))
  (.seq (.reg [⟨some 8, none, .mv (.c (.d .nils)), .one 1 true⟩])
  (.seq (.seq (.reg [⟨some 26, none, .mv (.s 0), .none⟩,
       ⟨some 27, none, .len (.s 26), .none⟩,
       ⟨some 28, none, .mv (.c (.d (.int .i64 0))), .none⟩])
   (.block 0 (.loop [1, 2, 8, 26, 27, 28] lp12_0)))
  (.seq (.reg [⟨some 53, none, .mv (.s 8), .none⟩,
      ⟨some 54, none, .mv (.s 2), .none⟩,
      ⟨some 55, none, .bin .add (.c (.d (.str [45, 45]))) (.s 54), .none⟩,
      ⟨some 56, none, .bin .add (.s 55) (.c (.d (.str [45, 45, 13, 10]))), .none⟩,
      ⟨some 57, none, .app 5 1 1 (.s 53) (.s 56), .none⟩,
      ⟨some 6, none, .mv (.s 57), .none⟩,
      ⟨some 7, none, .mv (.c (.d (.bool true))), .none⟩])
  (.ret none))))))
def ir12 : F := { n := 58, res := [.tmp 6, .tmp 7], body := bd12 }
@[go_sem] theorem n12 : ir12.n = 58 := rfl
@[go_sem] theorem r12 : ir12.res = [.tmp 6, .tmp 7] := rfl
@[go_sem] theorem b12 : ir12.body = bd12 := rfl
def lb13_0 : C :=
  (.seq (.reg [⟨some 18, none, .bin .lss (.s 17) (.s 16), .none⟩])
  (.seq (.cond (.s 18)
    .skip
    (.exit 0 (some [1])))
  (.seq (.block 1 (.seq (.reg [⟨some 19, none, .is (.s 15) (.s 17) 3, .none⟩,
        ⟨some 20, none, .ld (.s 19) 3 true, .none⟩,
        ⟨some 6, none, .alloc 54 [.int .i64 0, .int .i64 0, .nils], .cells [(2, 1, false)]⟩,
        ⟨none, none, .st (.s 6) (.s 20) 3, .none⟩])
    (.seq (.drw [⟨some 21, none, .fa (.s 6) 0, .none⟩,
        ⟨some 22, none, .ld (.s 21) 2 true, .none⟩,
        ⟨some 23, none, .call 39 [.s 22] 2, .none⟩,
        ⟨some 24, none, .un .not (.s 23), .none⟩,
        ⟨some 25, none, .mv (.s 24), .none⟩,
        ⟨some 26, some (25, false), .fa (.s 6) 0, .none⟩,
        ⟨some 27, some (25, false), .fa (.s 26) 1, .none⟩,
        ⟨some 28, some (25, false), .ld (.s 27) 1 false, .none⟩,
        ⟨some 29, some (25, false), .mv (.s 1), .none⟩,
        ⟨some 30, some (25, false), .bin .gtr (.s 28) (.s 29), .none⟩,
        ⟨some 31, none, .pick (.s 25) (.c (.d (.bool true))) (.s 30), .none⟩,
        ⟨some 32, none, .mv (.s 31), .none⟩,
        ⟨some 33, some (32, false), .fa (.s 6) 2, .none⟩,
        ⟨some 34, some (32, false), .ld (.s 33) 1 false, .none⟩,
        ⟨some 35, some (32, false), .len (.s 34), .none⟩,
        ⟨some 36, some (32, false), .fa (.s 6) 0, .none⟩,
        ⟨some 37, some (32, false), .ld (.s 36) 2 true, .none⟩,
        ⟨some 38, some (32, false), .call 40 [.s 37] 2, .none⟩,
        ⟨some 39, some (32, false), .bin .neq (.s 35) (.s 38), .none⟩,
        ⟨some 40, none, .pick (.s 32) (.c (.d (.bool true))) (.s 39), .none⟩]
       [[], [0], [1], [2], [3, 2], [4], [5, 4], [6, 4], [4], [7, 8, 4], [4, 9], [10, 4], [11], [12, 11], [13, 11], [11], [15, 11], [16, 11, 11], [14, 17, 11], [11, 18]] [])
    (.cond (.s 40)
     (.seq (.reg [⟨some 4, none, .mv (.c (.d (.bool false))), .none⟩])
     (.ret (some [4])))
     .skip))))
  (.reg [⟨some 41, none, .bin .add (.s 17) (.c (.d (.int .i64 1))), .none⟩,
     ⟨some 17, none, .mv (.s 41), .none⟩]))))
def lp13_0 : C := lb13_0
theorem u13_0 (c : Ev.Callee) (l : Ev.Looper) (s : St) : evC c l lp13_0 s = evC c l lb13_0 s := rfl
abbrev st13_0 (m : Nat) (s1 s15 s16 s17 : AV) (h : Heap) : St := ⟨m, [.unk, s1, .unk, .unk, .unk, .unk, .unk, .unk, .unk, .unk, .unk, .unk, .unk, .unk, .unk, s15, s16, s17, .unk, .unk, .unk, .unk, .unk, .unk, .unk, .unk, .unk, .unk, .unk, .unk, .unk, .unk, .unk, .unk, .unk, .unk, .unk, .unk, .unk, .unk, .unk, .unk, .unk, .unk], h⟩
@[go_sem] theorem ks13_0 (v0 v1 v2 v3 v4 v5 v6 v7 v8 v9 v10 v11 v12 v13 v14 v15 v16 v17 v18 v19 v20 v21 v22 v23 v24 v25 v26 v27 v28 v29 v30 v31 v32 v33 v34 v35 v36 v37 v38 v39 v40 v41 v42 v43 : AV) : keepS [1, 15, 16, 17] [v0, v1, v2, v3, v4, v5, v6, v7, v8, v9, v10, v11, v12, v13, v14, v15, v16, v17, v18, v19, v20, v21, v22, v23, v24, v25, v26, v27, v28, v29, v30, v31, v32, v33, v34, v35, v36, v37, v38, v39, v40, v41, v42, v43] 0 = [.unk, v1, .unk, .unk, .unk, .unk, .unk, .unk, .unk, .unk, .unk, .unk, .unk, .unk, .unk, v15, v16, v17, .unk, .unk, .unk, .unk, .unk, .unk, .unk, .unk, .unk, .unk, .unk, .unk, .unk, .unk, .unk, .unk, .unk, .unk, .unk, .unk, .unk, .unk, .unk, .unk, .unk, .unk] := rfl
@[go_sem] theorem ks13_1 (v0 v1 v2 v3 v4 v5 v6 v7 v8 v9 v10 v11 v12 v13 v14 v15 v16 v17 v18 v19 v20 v21 v22 v23 v24 v25 v26 v27 v28 v29 v30 v31 v32 v33 v34 v35 v36 v37 v38 v39 v40 v41 v42 v43 : AV) : keepS [1] [v0, v1, v2, v3, v4, v5, v6, v7, v8, v9, v10, v11, v12, v13, v14, v15, v16, v17, v18, v19, v20, v21, v22, v23, v24, v25, v26, v27, v28, v29, v30, v31, v32, v33, v34, v35, v36, v37, v38, v39, v40, v41, v42, v43] 0 = [.unk, v1, .unk, .unk, .unk, .unk, .unk, .unk, .unk, .unk, .unk, .unk, .unk, .unk, .unk, .unk, .unk, .unk, .unk, .unk, .unk, .unk, .unk, .unk, .unk, .unk, .unk, .unk, .unk, .unk, .unk, .unk, .unk, .unk, .unk, .unk, .unk, .unk, .unk, .unk, .unk, .unk, .unk, .unk] := rfl
@[go_sem] theorem ks13_2 (v0 v1 v2 v3 v4 v5 v6 v7 v8 v9 v10 v11 v12 v13 v14 v15 v16 v17 v18 v19 v20 v21 v22 v23 v24 v25 v26 v27 v28 v29 v30 v31 v32 v33 v34 v35 v36 v37 v38 v39 v40 v41 v42 v43 : AV) : keepS [4] [v0, v1, v2, v3, v4, v5, v6, v7, v8, v9, v10, v11, v12, v13, v14, v15, v16, v17, v18, v19, v20, v21, v22, v23, v24, v25, v26, v27, v28, v29, v30, v31, v32, v33, v34, v35, v36, v37, v38, v39, v40, v41, v42, v43] 0 = [.unk, .unk, .unk, .unk, v4, .unk, .unk, .unk, .unk, .unk, .unk, .unk, .unk, .unk, .unk, .unk, .unk, .unk, .unk, .unk, .unk, .unk, .unk, .unk, .unk, .unk, .unk, .unk, .unk, .unk, .unk, .unk, .unk, .unk, .unk, .unk, .unk, .unk, .unk, .unk, .unk, .unk, .unk, .unk] := rfl
/-- spence/multi.Right -/
def bd13 : C :=
  (.seq (.reg [⟨some 4, none, .mv (.c (.d (.bool false))), .none⟩])
  (.seq (.seq (.reg [⟨some 7, none, .mv (.s 0), .none⟩,
       ⟨some 8, none, .len (.s 7), .none⟩,
       ⟨some 9, none, .bin .eql (.s 8) (.c (.d (.int .i64 0))), .none⟩,
       ⟨some 10, none, .mv (.s 9), .none⟩,
       ⟨some 11, some (10, false), .mv (.s 0), .none⟩,
       ⟨some 12, some (10, false), .len (.s 11), .none⟩,
       ⟨some 13, some (10, false), .bin .gtr (.s 12) (.c (.d (.int .i64 16))), .none⟩,
       ⟨some 14, none, .pick (.s 10) (.c (.d (.bool true))) (.s 13), .none⟩])
   (.cond (.s 14)
    (.seq (.reg [⟨some 4, none, .mv (.c (.d (.bool false))), .none⟩])
    (.ret none))
    .skip))
  (.seq (.seq (.reg [⟨some 15, none, .mv (.s 0), .none⟩,
       ⟨some 16, none, .len (.s 15), .none⟩,
       ⟨some 17, none, .mv (.c (.d (.int .i64 0))), .none⟩])
   (.block 0 (.loop [1, 15, 16, 17] lp13_0)))
  (.seq (.reg [⟨some 42, none, .mv (.s 1), .none⟩,
      ⟨some 43, none, .bin .leq (.s 42) (.c (.d (.int .i64 4611686018427387903))), .none⟩,
      ⟨some 4, none, .mv (.s 43), .none⟩])
  (.ret none)))))
def ir13 : F := { n := 44, res := [.tmp 4], body := bd13 }
@[go_sem] theorem n13 : ir13.n = 44 := rfl
@[go_sem] theorem r13 : ir13.res = [.tmp 4] := rfl
@[go_sem] theorem b13 : ir13.body = bd13 := rfl
def lb14_0 : C :=
  (.seq (.reg [⟨some 10, none, .bin .lss (.s 9) (.s 8), .none⟩])
  (.seq (.cond (.s 10)
    .skip
    (.exit 0 (some [0, 1])))
  (.seq (.block 1 (.seq (.reg [⟨some 11, none, .is (.s 7) (.s 9) 3, .none⟩,
        ⟨some 12, none, .ld (.s 11) 3 true, .none⟩,
        ⟨some 6, none, .alloc 54 [.int .i64 0, .int .i64 0, .nils], .cells [(2, 1, false)]⟩,
        ⟨none, none, .st (.s 6) (.s 12) 3, .none⟩])
    (.seq (.reg [⟨some 13, none, .fa (.s 6) 0, .none⟩,
        ⟨some 14, none, .ld (.s 13) 2 true, .none⟩,
        ⟨some 15, none, .call 41 [.s 14] 2, .none⟩,
        ⟨some 16, none, .un .not (.s 15), .none⟩,
        ⟨some 17, none, .mv (.s 16), .none⟩,
        ⟨some 18, some (17, false), .fa (.s 6) 0, .none⟩,
        ⟨some 19, some (17, false), .fa (.s 18) 1, .none⟩,
        ⟨some 20, some (17, false), .ld (.s 19) 1 false, .none⟩,
        ⟨some 21, some (17, false), .mv (.s 1), .none⟩,
        ⟨some 22, some (17, false), .bin .gtr (.s 20) (.s 21), .none⟩,
        ⟨some 23, none, .pick (.s 17) (.c (.d (.bool true))) (.s 22), .none⟩,
        ⟨some 24, none, .mv (.s 23), .none⟩,
        ⟨some 25, some (24, false), .fa (.s 6) 0, .none⟩,
        ⟨some 26, some (24, false), .fa (.s 25) 1, .none⟩,
        ⟨some 27, some (24, false), .ld (.s 26) 1 false, .none⟩,
        ⟨some 28, some (24, false), .fa (.s 6) 0, .none⟩,
        ⟨some 29, some (24, false), .fa (.s 28) 0, .none⟩,
        ⟨some 30, some (24, false), .ld (.s 29) 1 false, .none⟩,
        ⟨some 31, some (24, false), .bin .sub (.s 27) (.s 30), .none⟩,
        ⟨some 32, some (24, false), .fa (.s 6) 2, .none⟩,
        ⟨some 33, some (24, false), .ld (.s 32) 1 false, .none⟩,
        ⟨some 34, some (24, false), .len (.s 33), .none⟩,
        ⟨some 35, some (24, false), .bin .neq (.s 31) (.s 34), .none⟩,
        ⟨some 36, none, .pick (.s 24) (.c (.d (.bool true))) (.s 35), .none⟩])
    (.cond (.s 36)
     (.seq (.reg [⟨some 4, none, .mv (.c (.d (.bool false))), .none⟩])
     (.ret (some [4])))
     .skip))))
  (.reg [⟨some 37, none, .bin .add (.s 9) (.c (.d (.int .i64 1))), .none⟩,
     ⟨some 9, none, .mv (.s 37), .none⟩]))))
def lp14_0 : C := lb14_0
theorem u14_0 (c : Ev.Callee) (l : Ev.Looper) (s : St) : evC c l lp14_0 s = evC c l lb14_0 s := rfl
abbrev st14_0 (m : Nat) (s0 s1 s7 s8 s9 : AV) (h : Heap) : St := ⟨m, [s0, s1, .unk, .unk, .unk, .unk, .unk, s7, s8, s9, .unk, .unk, .unk, .unk, .unk, .unk, .unk, .unk, .unk, .unk, .unk, .unk, .unk, .unk, .unk, .unk, .unk, .unk, .unk, .unk, .unk, .unk, .unk, .unk, .unk, .unk, .unk, .unk, .unk, .unk, .unk, .unk, .unk, .unk, .unk, .unk, .unk, .unk, .unk, .unk], h⟩
@[go_sem] theorem ks14_0 (v0 v1 v2 v3 v4 v5 v6 v7 v8 v9 v10 v11 v12 v13 v14 v15 v16 v17 v18 v19 v20 v21 v22 v23 v24 v25 v26 v27 v28 v29 v30 v31 v32 v33 v34 v35 v36 v37 v38 v39 v40 v41 v42 v43 v44 v45 v46 v47 v48 v49 : AV) : keepS [0, 1, 7, 8, 9] [v0, v1, v2, v3, v4, v5, v6, v7, v8, v9, v10, v11, v12, v13, v14, v15, v16, v17, v18, v19, v20, v21, v22, v23, v24, v25, v26, v27, v28, v29, v30, v31, v32, v33, v34, v35, v36, v37, v38, v39, v40, v41, v42, v43, v44, v45, v46, v47, v48, v49] 0 = [v0, v1, .unk, .unk, .unk, .unk, .unk, v7, v8, v9, .unk, .unk, .unk, .unk, .unk, .unk, .unk, .unk, .unk, .unk, .unk, .unk, .unk, .unk, .unk, .unk, .unk, .unk, .unk, .unk, .unk, .unk, .unk, .unk, .unk, .unk, .unk, .unk, .unk, .unk, .unk, .unk, .unk, .unk, .unk, .unk, .unk, .unk, .unk, .unk] := rfl
@[go_sem] theorem ks14_1 (v0 v1 v2 v3 v4 v5 v6 v7 v8 v9 v10 v11 v12 v13 v14 v15 v16 v17 v18 v19 v20 v21 v22 v23 v24 v25 v26 v27 v28 v29 v30 v31 v32 v33 v34 v35 v36 v37 v38 v39 v40 v41 v42 v43 v44 v45 v46 v47 v48 v49 : AV) : keepS [0, 1] [v0, v1, v2, v3, v4, v5, v6, v7, v8, v9, v10, v11, v12, v13, v14, v15, v16, v17, v18, v19, v20, v21, v22, v23, v24, v25, v26, v27, v28, v29, v30, v31, v32, v33, v34, v35, v36, v37, v38, v39, v40, v41, v42, v43, v44, v45, v46, v47, v48, v49] 0 = [v0, v1, .unk, .unk, .unk, .unk, .unk, .unk, .unk, .unk, .unk, .unk, .unk, .unk, .unk, .unk, .unk, .unk, .unk, .unk, .unk, .unk, .unk, .unk, .unk, .unk, .unk, .unk, .unk, .unk, .unk, .unk, .unk, .unk, .unk, .unk, .unk, .unk, .unk, .unk, .unk, .unk, .unk, .unk, .unk, .unk, .unk, .unk, .unk, .unk] := rfl
@[go_sem] theorem ks14_2 (v0 v1 v2 v3 v4 v5 v6 v7 v8 v9 v10 v11 v12 v13 v14 v15 v16 v17 v18 v19 v20 v21 v22 v23 v24 v25 v26 v27 v28 v29 v30 v31 v32 v33 v34 v35 v36 v37 v38 v39 v40 v41 v42 v43 v44 v45 v46 v47 v48 v49 : AV) : keepS [4] [v0, v1, v2, v3, v4, v5, v6, v7, v8, v9, v10, v11, v12, v13, v14, v15, v16, v17, v18, v19, v20, v21, v22, v23, v24, v25, v26, v27, v28, v29, v30, v31, v32, v33, v34, v35, v36, v37, v38, v39, v40, v41, v42, v43, v44, v45, v46, v47, v48, v49] 0 = [.unk, .unk, .unk, .unk, v4, .unk, .unk, .unk, .unk, .unk, .unk, .unk, .unk, .unk, .unk, .unk, .unk, .unk, .unk, .unk, .unk, .unk, .unk, .unk, .unk, .unk, .unk, .unk, .unk, .unk, .unk, .unk, .unk, .unk, .unk, .unk, .unk, .unk, .unk, .unk, .unk, .unk, .unk, .unk, .unk, .unk, .unk, .unk, .unk, .unk] := rfl
/-- spence/spenceref04.RightParts -/
def bd14 : C :=
  (.seq (.reg [⟨some 4, none, .mv (.c (.d (.bool false))), .none⟩])
  (.seq (.seq (.reg [⟨some 7, none, .mv (.s 0), .none⟩,
       ⟨some 8, none, .len (.s 7), .none⟩,
       ⟨some 9, none, .mv (.c (.d (.int .i64 0))), .none⟩])
   (.block 0 (.loop [0, 1, 7, 8, 9] lp14_0)))
  (.seq (.reg [⟨some 38, none, .mv (.s 0), .none⟩,
      ⟨some 39, none, .len (.s 38), .none⟩,
      ⟨some 40, none, .bin .geq (.s 39) (.c (.d (.int .i64 1))), .none⟩,
      ⟨some 41, none, .mv (.s 40), .none⟩,
      ⟨some 42, some (41, true), .mv (.s 0), .none⟩,
      ⟨some 43, some (41, true), .len (.s 42), .none⟩,
      ⟨some 44, some (41, true), .bin .leq (.s 43) (.c (.d (.int .i64 16))), .none⟩,
      ⟨some 45, none, .pick (.s 41) (.s 44) (.c (.d (.bool false))), .none⟩,
      ⟨some 46, none, .mv (.s 45), .none⟩,
      ⟨some 47, some (46, true), .mv (.s 1), .none⟩,
      ⟨some 48, some (46, true), .bin .leq (.s 47) (.c (.d (.int .i64 4611686018427387903))), .none⟩,
      ⟨some 49, none, .pick (.s 46) (.s 48) (.c (.d (.bool false))), .none⟩,
      ⟨some 4, none, .mv (.s 49), .none⟩])
  (.ret none))))
def ir14 : F := { n := 50, res := [.tmp 4], body := bd14 }
@[go_sem] theorem n14 : ir14.n = 50 := rfl
@[go_sem] theorem r14 : ir14.res = [.tmp 4] := rfl
@[go_sem] theorem b14 : ir14.body = bd14 := rfl
def lb15_0 : C :=
  (.seq (.reg [⟨some 14, none, .bin .lss (.s 13) (.s 12), .none⟩])
  (.seq (.cond (.s 14)
    .skip
    (.exit 0 (some [])))
  (.seq (.block 1 (.seq (.reg [⟨some 15, none, .mv (.s 13), .none⟩,
        ⟨some 5, none, .mv (.s 15), .none⟩])
    (.seq (.drw [⟨some 16, none, .mv (.s 0), .none⟩,
        ⟨some 17, none, .mv (.s 5), .none⟩,
        ⟨some 18, none, .is (.s 16) (.s 17) 1, .none⟩,
        ⟨some 19, none, .ld (.s 18) 1 false, .none⟩,
        ⟨some 20, none, .mv (.s 1), .none⟩,
        ⟨some 21, none, .mv (.s 5), .none⟩,
        ⟨some 22, none, .is (.s 20) (.s 21) 1, .none⟩,
        ⟨some 23, none, .ld (.s 22) 1 false, .none⟩,
        ⟨some 24, none, .bin .neq (.s 19) (.s 23), .none⟩]
       [[], [], [0, 1], [2], [], [], [4, 5], [6], [3, 7]] [])
    (.cond (.s 24)
     (.seq (.reg [⟨some 4, none, .mv (.c (.d (.bool false))), .none⟩])
     (.ret (some [4])))
     .skip))))
  (.reg [⟨some 25, none, .bin .add (.s 13) (.c (.d (.int .i64 1))), .none⟩,
     ⟨some 13, none, .mv (.s 25), .none⟩]))))
def lp15_0 : C := lb15_0
theorem u15_0 (c : Ev.Callee) (l : Ev.Looper) (s : St) : evC c l lp15_0 s = evC c l lb15_0 s := rfl
abbrev st15_0 (m : Nat) (s0 s1 s12 s13 : AV) (h : Heap) : St := ⟨m, [s0, s1, .unk, .unk, .unk, .unk, .unk, .unk, .unk, .unk, .unk, .unk, s12, s13, .unk, .unk, .unk, .unk, .unk, .unk, .unk, .unk, .unk, .unk, .unk, .unk], h⟩
@[go_sem] theorem ks15_0 (v0 v1 v2 v3 v4 v5 v6 v7 v8 v9 v10 v11 v12 v13 v14 v15 v16 v17 v18 v19 v20 v21 v22 v23 v24 v25 : AV) : keepS [0, 1, 12, 13] [v0, v1, v2, v3, v4, v5, v6, v7, v8, v9, v10, v11, v12, v13, v14, v15, v16, v17, v18, v19, v20, v21, v22, v23, v24, v25] 0 = [v0, v1, .unk, .unk, .unk, .unk, .unk, .unk, .unk, .unk, .unk, .unk, v12, v13, .unk, .unk, .unk, .unk, .unk, .unk, .unk, .unk, .unk, .unk, .unk, .unk] := rfl
@[go_sem] theorem ks15_1 (v0 v1 v2 v3 v4 v5 v6 v7 v8 v9 v10 v11 v12 v13 v14 v15 v16 v17 v18 v19 v20 v21 v22 v23 v24 v25 : AV) : keepS [] [v0, v1, v2, v3, v4, v5, v6, v7, v8, v9, v10, v11, v12, v13, v14, v15, v16, v17, v18, v19, v20, v21, v22, v23, v24, v25] 0 = [.unk, .unk, .unk, .unk, .unk, .unk, .unk, .unk, .unk, .unk, .unk, .unk, .unk, .unk, .unk, .unk, .unk, .unk, .unk, .unk, .unk, .unk, .unk, .unk, .unk, .unk] := rfl
@[go_sem] theorem ks15_2 (v0 v1 v2 v3 v4 v5 v6 v7 v8 v9 v10 v11 v12 v13 v14 v15 v16 v17 v18 v19 v20 v21 v22 v23 v24 v25 : AV) : keepS [4] [v0, v1, v2, v3, v4, v5, v6, v7, v8, v9, v10, v11, v12, v13, v14, v15, v16, v17, v18, v19, v20, v21, v22, v23, v24, v25] 0 = [.unk, .unk, .unk, .unk, v4, .unk, .unk, .unk, .unk, .unk, .unk, .unk, .unk, .unk, .unk, .unk, .unk, .unk, .unk, .unk, .unk, .unk, .unk, .unk, .unk, .unk] := rfl
/-- spence/spenceref01.Bytes -/
def bd15 : C :=
  (.seq (.reg [⟨some 4, none, .mv (.c (.d (.bool false))), .none⟩])
  (.seq (.seq (.reg [⟨some 6, none, .mv (.s 0), .none⟩,
       ⟨some 7, none, .len (.s 6), .none⟩,
       ⟨some 8, none, .mv (.s 1), .none⟩,
       ⟨some 9, none, .len (.s 8), .none⟩,
       ⟨some 10, none, .bin .neq (.s 7) (.s 9), .none⟩])
   (.cond (.s 10)
    (.seq (.reg [⟨some 4, none, .mv (.c (.d (.bool false))), .none⟩])
    (.ret none))
    .skip))
  (.seq (.seq (.reg [⟨some 11, none, .mv (.s 0), .none⟩,
       ⟨some 12, none, .len (.s 11), .none⟩,
       ⟨some 13, none, .mv (.c (.d (.int .i64 0))), .none⟩])
   (.block 0 (.loop [0, 1, 12, 13] lp15_0)))
  (.seq (.reg [⟨some 4, none, .mv (.c (.d (.bool true))), .none⟩])
  (.ret none)))))
def ir15 : F := { n := 26, res := [.tmp 4], body := bd15 }
@[go_sem] theorem n15 : ir15.n = 26 := rfl
@[go_sem] theorem r15 : ir15.res = [.tmp 4] := rfl
@[go_sem] theorem b15 : ir15.body = bd15 := rfl
/-- spence/multi.Size -/
def bd16 : C :=
  (.seq (.reg [⟨some 6, none, .mv (.c (.d (.int .i64 0))), .none⟩])
  (.seq (.reg [⟨some 10, none, .mv (.s 0), .none⟩,
      ⟨some 11, none, .mv (.s 1), .none⟩,
      ⟨some 12, none, .mv (.s 2), .none⟩,
      ⟨some 13, none, .call 11 [.s 10, .s 11, .s 12] 0, .none⟩,
      ⟨some 9, none, .mv (.s 13), .none⟩,
      ⟨some 14, none, .ext (.s 9) 0, .none⟩,
      ⟨some 15, none, .ext (.s 9) 1, .none⟩,
      ⟨some 7, none, .mv (.s 14), .none⟩,
      ⟨some 8, none, .mv (.s 15), .none⟩])
  (.seq (.reg [⟨some 16, none, .mv (.s 7), .none⟩,
      ⟨some 17, none, .len (.s 16), .none⟩,
      ⟨some 6, none, .mv (.s 17), .none⟩])
  (.ret none))))
def ir16 : F := { n := 18, res := [.tmp 6], body := bd16 }
@[go_sem] theorem n16 : ir16.n = 18 := rfl
@[go_sem] theorem r16 : ir16.res = [.tmp 6] := rfl
@[go_sem] theorem b16 : ir16.body = bd16 := rfl
/-- spence/multi.Read -/
def bd17 : C :=
  (.seq (.reg [⟨some 4, none, .mv (.c (.d .nils)), .one 3 false⟩,
      ⟨some 5, none, .mv (.c (.d (.int .i64 0))), .none⟩,
      ⟨some 6, none, .mv (.c (.d (.int .i64 0))), .none⟩])
  (.seq (.seq (.reg [⟨some 13, none, .mv (.s 1), .none⟩,
       ⟨some 14, none, .call 33 [.s 13] 2, .none⟩,
       ⟨some 15, none, .un .not (.s 14), .none⟩])
   (.cond (.s 15)
    (.seq (.reg [⟨some 4, none, .mv (.c (.d .nils)), .one 3 false⟩,
        ⟨some 5, none, .mv (.c (.d (.int .i64 0))), .none⟩,
        ⟨some 6, none, .mv (.c (.d (.int .i64 1))), .none⟩])
    (.ret none))
    .skip))
  (.seq (.reg [⟨some 16, none, .mv (.s 0), .none⟩,
      ⟨some 17, none, .mv (.s 1), .none⟩,
      ⟨some 18, none, .build [.nils, .str [], .int .i64 0] [(0, (1, .s 16)), (1, (1, .s 17))], .cells [(0, 1, false)]⟩,
      ⟨some 19, none, .box 93 (.s 18), .none⟩,
      ⟨some 7, none, .mv (.s 19), .none⟩])
  (.seq (.reg [⟨some 21, none, .mv (.s 7), .none⟩,
      ⟨some 22, none, .call 42 [.s 21] 0, .none⟩,
      ⟨some 20, none, .mv (.s 22), .none⟩,
      ⟨some 23, none, .ext (.s 20) 0, .none⟩,
      ⟨some 24, none, .ext (.s 20) 1, .none⟩,
      ⟨some 8, none, .mv (.s 23), .none⟩,
      ⟨some 9, none, .mv (.s 24), .none⟩])
  (.seq (.seq (.reg [⟨some 25, none, .mv (.s 9), .none⟩,
       ⟨some 26, none, .call 43 [.s 25] 2, .none⟩,
       ⟨some 10, none, .mv (.s 26), .none⟩])
   (.seq (.reg [⟨some 27, none, .mv (.s 10), .none⟩,
       ⟨some 28, none, .bin .neq (.s 27) (.c (.d (.int .i64 0))), .none⟩])
   (.cond (.s 28)
    (.seq (.reg [⟨some 29, none, .mv (.s 10), .none⟩,
        ⟨some 4, none, .mv (.c (.d .nils)), .one 3 false⟩,
        ⟨some 5, none, .mv (.c (.d (.int .i64 0))), .none⟩,
        ⟨some 6, none, .mv (.s 29), .none⟩])
    (.ret none))
    .skip)))
  (.seq (.reg [⟨some 31, none, .mv (.s 8), .none⟩,
      ⟨some 32, none, .mv (.s 7), .none⟩,
      ⟨some 33, none, .nc (.s 32), .none⟩,
      ⟨some 34, none, .fa (.s 33) 2, .none⟩,
      ⟨some 35, none, .ld (.s 34) 1 false, .none⟩,
      ⟨some 36, none, .mv (.s 1), .none⟩,
      ⟨some 37, none, .call 11 [.s 31, .s 35, .s 36] 0, .none⟩,
      ⟨some 30, none, .mv (.s 37), .none⟩,
      ⟨some 38, none, .ext (.s 30) 0, .none⟩,
      ⟨some 39, none, .ext (.s 30) 1, .none⟩,
      ⟨some 11, none, .mv (.s 38), .none⟩,
      ⟨some 12, none, .mv (.s 39), .none⟩])
  (.seq (.seq (.reg [⟨some 40, none, .mv (.s 12), .none⟩,
       ⟨some 41, none, .bin .neq (.s 40) (.c (.d (.int .i64 0))), .none⟩,
       ⟨some 42, none, .mv (.s 41), .none⟩,
       ⟨some 43, some (42, false), .mv (.s 11), .none⟩,
       ⟨some 44, some (42, false), .mv (.s 0), .none⟩,
       ⟨some 45, some (42, false), .call 44 [.s 43, .s 44] 2, .none⟩,
       ⟨some 46, some (42, false), .un .not (.s 45), .none⟩,
       ⟨some 47, none, .pick (.s 42) (.c (.d (.bool true))) (.s 46), .none⟩])
   (.cond (.s 47)
    (.seq (.reg [⟨some 4, none, .mv (.c (.d .nils)), .one 3 false⟩,
        ⟨some 5, none, .mv (.c (.d (.int .i64 0))), .none⟩,
        ⟨some 6, none, .mv (.c (.d (.int .i64 3))), .none⟩])
    (.ret none))
    .skip))
  (.seq (.drw [⟨some 48, none, .mv (.s 8), .none⟩,
      ⟨some 49, none, .mv (.s 7), .none⟩,
      ⟨some 50, none, .nc (.s 49), .none⟩,
      ⟨some 51, none, .fa (.s 50) 2, .none⟩,
      ⟨some 52, none, .ld (.s 51) 1 false, .none⟩,
      ⟨some 4, none, .mv (.s 48), .none⟩,
      ⟨some 5, none, .mv (.s 52), .none⟩,
      ⟨some 6, none, .mv (.c (.d (.int .i64 0))), .none⟩]
     [[], [], [1], [2], [3], [0, 0], [4, 5, 0, 1, 2, 3, 4, 5], [6, 0, 1, 2, 3, 4, 5, 6]] [])
  (.ret none)))))))))
def ir17 : F := { n := 53, res := [.tmp 4, .tmp 5, .tmp 6], body := bd17 }
@[go_sem] theorem n17 : ir17.n = 53 := rfl
@[go_sem] theorem r17 : ir17.res = [.tmp 4, .tmp 5, .tmp 6] := rfl
@[go_sem] theorem b17 : ir17.body = bd17 := rfl
def lb18_0 : C :=
  (.seq (.reg [⟨some 14, none, .bin .lss (.s 13) (.s 12), .none⟩])
  (.seq (.cond (.s 14)
    .skip
    (.exit 0 (some [])))
  (.seq (.block 1 (.seq (.reg [⟨some 15, none, .mv (.s 13), .none⟩,
        ⟨some 5, none, .mv (.s 15), .none⟩])
    (.seq (.drw [⟨some 16, none, .mv (.s 0), .none⟩,
        ⟨some 17, none, .mv (.s 5), .none⟩,
        ⟨some 18, none, .is (.s 16) (.s 17) 3, .none⟩,
        ⟨some 19, none, .fa (.s 18) 0, .none⟩,
        ⟨some 20, none, .ld (.s 19) 2 true, .none⟩,
        ⟨some 21, none, .mv (.s 1), .none⟩,
        ⟨some 22, none, .mv (.s 5), .none⟩,
        ⟨some 23, none, .is (.s 21) (.s 22) 3, .none⟩,
        ⟨some 24, none, .fa (.s 23) 0, .none⟩,
        ⟨some 25, none, .ld (.s 24) 2 true, .none⟩,
        ⟨some 26, none, .eqs true [1, 1] (.s 20) (.s 25), .none⟩,
        ⟨some 27, none, .mv (.s 26), .none⟩,
        ⟨some 28, some (27, false), .mv (.s 0), .none⟩,
        ⟨some 29, some (27, false), .mv (.s 5), .none⟩,
        ⟨some 30, some (27, false), .is (.s 28) (.s 29) 3, .none⟩,
        ⟨some 31, some (27, false), .fa (.s 30) 2, .none⟩,
        ⟨some 32, some (27, false), .ld (.s 31) 1 false, .none⟩,
        ⟨some 33, some (27, false), .mv (.s 1), .none⟩,
        ⟨some 34, some (27, false), .mv (.s 5), .none⟩,
        ⟨some 35, some (27, false), .is (.s 33) (.s 34) 3, .none⟩,
        ⟨some 36, some (27, false), .fa (.s 35) 2, .none⟩,
        ⟨some 37, some (27, false), .ld (.s 36) 1 false, .none⟩,
        ⟨some 38, some (27, false), .call 15 [.s 32, .s 37] 2, .none⟩,
        ⟨some 39, some (27, false), .un .not (.s 38), .none⟩,
        ⟨some 40, none, .pick (.s 27) (.c (.d (.bool true))) (.s 39), .none⟩]
       [[], [], [0, 1], [2], [3], [], [], [5, 6], [7], [8], [4, 9], [10], [11], [11], [12, 13, 11], [14, 11], [15, 11], [11], [11], [17, 18, 11], [19, 11], [20, 11], [16, 21, 11, 11], [22, 11], [11, 23]] [])
    (.cond (.s 40)
     (.seq (.reg [⟨some 4, none, .mv (.c (.d (.bool false))), .none⟩])
     (.ret (some [4])))
     .skip))))
  (.reg [⟨some 41, none, .bin .add (.s 13) (.c (.d (.int .i64 1))), .none⟩,
     ⟨some 13, none, .mv (.s 41), .none⟩]))))
def lp18_0 : C := lb18_0
theorem u18_0 (c : Ev.Callee) (l : Ev.Looper) (s : St) : evC c l lp18_0 s = evC c l lb18_0 s := rfl
abbrev st18_0 (m : Nat) (s0 s1 s12 s13 : AV) (h : Heap) : St := ⟨m, [s0, s1, .unk, .unk, .unk, .unk, .unk, .unk, .unk, .unk, .unk, .unk, s12, s13, .unk, .unk, .unk, .unk, .unk, .unk, .unk, .unk, .unk, .unk, .unk, .unk, .unk, .unk, .unk, .unk, .unk, .unk, .unk, .unk, .unk, .unk, .unk, .unk, .unk, .unk, .unk, .unk], h⟩
@[go_sem] theorem ks18_0 (v0 v1 v2 v3 v4 v5 v6 v7 v8 v9 v10 v11 v12 v13 v14 v15 v16 v17 v18 v19 v20 v21 v22 v23 v24 v25 v26 v27 v28 v29 v30 v31 v32 v33 v34 v35 v36 v37 v38 v39 v40 v41 : AV) : keepS [0, 1, 12, 13] [v0, v1, v2, v3, v4, v5, v6, v7, v8, v9, v10, v11, v12, v13, v14, v15, v16, v17, v18, v19, v20, v21, v22, v23, v24, v25, v26, v27, v28, v29, v30, v31, v32, v33, v34, v35, v36, v37, v38, v39, v40, v41] 0 = [v0, v1, .unk, .unk, .unk, .unk, .unk, .unk, .unk, .unk, .unk, .unk, v12, v13, .unk, .unk, .unk, .unk, .unk, .unk, .unk, .unk, .unk, .unk, .unk, .unk, .unk, .unk, .unk, .unk, .unk, .unk, .unk, .unk, .unk, .unk, .unk, .unk, .unk, .unk, .unk, .unk] := rfl
@[go_sem] theorem ks18_1 (v0 v1 v2 v3 v4 v5 v6 v7 v8 v9 v10 v11 v12 v13 v14 v15 v16 v17 v18 v19 v20 v21 v22 v23 v24 v25 v26 v27 v28 v29 v30 v31 v32 v33 v34 v35 v36 v37 v38 v39 v40 v41 : AV) : keepS [] [v0, v1, v2, v3, v4, v5, v6, v7, v8, v9, v10, v11, v12, v13, v14, v15, v16, v17, v18, v19, v20, v21, v22, v23, v24, v25, v26, v27, v28, v29, v30, v31, v32, v33, v34, v35, v36, v37, v38, v39, v40, v41] 0 = [.unk, .unk, .unk, .unk, .unk, .unk, .unk, .unk, .unk, .unk, .unk, .unk, .unk, .unk, .unk, .unk, .unk, .unk, .unk, .unk, .unk, .unk, .unk, .unk, .unk, .unk, .unk, .unk, .unk, .unk, .unk, .unk, .unk, .unk, .unk, .unk, .unk, .unk, .unk, .unk, .unk, .unk] := rfl
@[go_sem] theorem ks18_2 (v0 v1 v2 v3 v4 v5 v6 v7 v8 v9 v10 v11 v12 v13 v14 v15 v16 v17 v18 v19 v20 v21 v22 v23 v24 v25 v26 v27 v28 v29 v30 v31 v32 v33 v34 v35 v36 v37 v38 v39 v40 v41 : AV) : keepS [4] [v0, v1, v2, v3, v4, v5, v6, v7, v8, v9, v10, v11, v12, v13, v14, v15, v16, v17, v18, v19, v20, v21, v22, v23, v24, v25, v26, v27, v28, v29, v30, v31, v32, v33, v34, v35, v36, v37, v38, v39, v40, v41] 0 = [.unk, .unk, .unk, .unk, v4, .unk, .unk, .unk, .unk, .unk, .unk, .unk, .unk, .unk, .unk, .unk, .unk, .unk, .unk, .unk, .unk, .unk, .unk, .unk, .unk, .unk, .unk, .unk, .unk, .unk, .unk, .unk, .unk, .unk, .unk, .unk, .unk, .unk, .unk, .unk, .unk, .unk] := rfl
/-- spence/spenceref04.Parts -/
def bd18 : C :=
  (.seq (.reg [⟨some 4, none, .mv (.c (.d (.bool false))), .none⟩])
  (.seq (.seq (.reg [⟨some 6, none, .mv (.s 0), .none⟩,
       ⟨some 7, none, .len (.s 6), .none⟩,
       ⟨some 8, none, .mv (.s 1), .none⟩,
       ⟨some 9, none, .len (.s 8), .none⟩,
       ⟨some 10, none, .bin .neq (.s 7) (.s 9), .none⟩])
   (.cond (.s 10)
    (.seq (.reg [⟨some 4, none, .mv (.c (.d (.bool false))), .none⟩])
    (.ret none))
    .skip))
  (.seq (.seq (.reg [⟨some 11, none, .mv (.s 0), .none⟩,
       ⟨some 12, none, .len (.s 11), .none⟩,
       ⟨some 13, none, .mv (.c (.d (.int .i64 0))), .none⟩])
   (.block 0 (.loop [0, 1, 12, 13] lp18_0)))
  (.seq (.reg [⟨some 4, none, .mv (.c (.d (.bool true))), .none⟩])
  (.ret none)))))
def ir18 : F := { n := 42, res := [.tmp 4], body := bd18 }
@[go_sem] theorem n18 : ir18.n = 42 := rfl
@[go_sem] theorem r18 : ir18.res = [.tmp 4] := rfl
@[go_sem] theorem b18 : ir18.body = bd18 := rfl
def lb19_1 : C :=
  (.seq (.seq (.reg [⟨some 38, none, .mv (.s 6), .none⟩,
       ⟨some 39, none, .bin .lss (.s 38) (.c (.d (.int .i64 14))), .none⟩])
   (.cond (.s 39)
    .skip
    (.exit 2 (some [0, 3, 5]))))
  (.seq (.block 3 (.reg [⟨some 42, none, .mv (.s 5), .none⟩,
       ⟨some 43, none, .mv (.s 42), .none⟩,
       ⟨some 44, some (43, false), .mv (.s 6), .none⟩,
       ⟨some 45, some (43, false), .sti (.c (.d (.str [33, 35, 36, 37, 38, 39, 42, 43, 45, 46, 94, 95, 124, 126]))) (.s 44), .none⟩,
       ⟨some 46, some (43, false), .mv (.s 4), .none⟩,
       ⟨some 47, some (43, false), .bin .eql (.s 45) (.s 46), .none⟩,
       ⟨some 48, none, .pick (.s 43) (.c (.d (.bool true))) (.s 47), .none⟩,
       ⟨some 5, none, .mv (.s 48), .none⟩]))
  (.reg [⟨some 40, none, .mv (.s 6), .none⟩,
     ⟨some 41, none, .bin .add (.s 40) (.c (.d (.int .i64 1))), .none⟩,
     ⟨some 6, none, .mv (.s 41), .none⟩])))
def lp19_1 : C := lb19_1
theorem u19_1 (c : Ev.Callee) (l : Ev.Looper) (s : St) : evC c l lp19_1 s = evC c l lb19_1 s := rfl
abbrev st19_1 (m : Nat) (s0 s3 s4 s5 s6 : AV) (h : Heap) : St := ⟨m, [s0, .unk, .unk, s3, s4, s5, s6, .unk, .unk, .unk, .unk, .unk, .unk, .unk, .unk, .unk, .unk, .unk, .unk, .unk, .unk, .unk, .unk, .unk, .unk, .unk, .unk, .unk, .unk, .unk, .unk, .unk, .unk, .unk, .unk, .unk, .unk, .unk, .unk, .unk, .unk, .unk, .unk, .unk, .unk, .unk, .unk, .unk, .unk, .unk, .unk, .unk, .unk, .unk], h⟩
def lb19_0 : C :=
  (.seq (.seq (.reg [⟨some 7, none, .mv (.s 3), .none⟩,
       ⟨some 8, none, .mv (.s 0), .none⟩,
       ⟨some 9, none, .lens (.s 8), .none⟩,
       ⟨some 10, none, .bin .lss (.s 7) (.s 9), .none⟩])
   (.cond (.s 10)
    .skip
    (.exit 0 (some [0]))))
  (.seq (.block 1 (.seq (.reg [⟨some 13, none, .mv (.s 0), .none⟩,
        ⟨some 14, none, .mv (.s 3), .none⟩,
        ⟨some 15, none, .sti (.s 13) (.s 14), .none⟩,
        ⟨some 4, none, .mv (.s 15), .none⟩])
    (.seq (.reg [⟨some 16, none, .mv (.s 4), .none⟩,
        ⟨some 17, none, .call 45 [.s 16] 2, .none⟩,
        ⟨some 18, none, .mv (.s 17), .none⟩,
        ⟨some 19, some (18, false), .mv (.s 4), .none⟩,
        ⟨some 20, some (18, false), .bin .geq (.s 19) (.c (.d (.int .u8 97))), .none⟩,
        ⟨some 21, some (18, false), .mv (.s 20), .none⟩,
        ⟨some 22, some (21, true), .mv (.s 4), .none⟩,
        ⟨some 23, some (21, true), .bin .leq (.s 22) (.c (.d (.int .u8 122))), .none⟩,
        ⟨some 24, some (18, false), .pick (.s 21) (.s 23) (.c (.d (.bool false))), .none⟩,
        ⟨some 25, none, .pick (.s 18) (.c (.d (.bool true))) (.s 24), .none⟩,
        ⟨some 26, none, .mv (.s 25), .none⟩,
        ⟨some 27, some (26, false), .mv (.s 4), .none⟩,
        ⟨some 28, some (26, false), .bin .geq (.s 27) (.c (.d (.int .u8 65))), .none⟩,
        ⟨some 29, some (26, false), .mv (.s 28), .none⟩,
        ⟨some 30, some (29, true), .mv (.s 4), .none⟩,
        ⟨some 31, some (29, true), .bin .leq (.s 30) (.c (.d (.int .u8 90))), .none⟩,
        ⟨some 32, some (26, false), .pick (.s 29) (.s 31) (.c (.d (.bool false))), .none⟩,
        ⟨some 33, none, .pick (.s 26) (.c (.d (.bool true))) (.s 32), .none⟩,
        ⟨some 34, none, .mv (.s 33), .none⟩,
        ⟨some 35, some (34, false), .mv (.s 4), .none⟩,
        ⟨some 36, some (34, false), .bin .eql (.s 35) (.c (.d (.int .u8 96))), .none⟩,
        ⟨some 37, none, .pick (.s 34) (.c (.d (.bool true))) (.s 36), .none⟩,
        ⟨some 5, none, .mv (.s 37), .none⟩])
    (.seq (.seq (.reg [⟨some 6, none, .mv (.c (.d (.int .i64 0))), .none⟩])
     (.block 2 (.loop [0, 3, 4, 5, 6] lp19_1)))
    (.seq (.reg [⟨some 49, none, .mv (.s 5), .none⟩,
        ⟨some 50, none, .un .not (.s 49), .none⟩])
    (.cond (.s 50)
     (.seq (.reg [⟨some 2, none, .mv (.c (.d (.bool false))), .none⟩])
     (.ret (some [2])))
     .skip))))))
  (.reg [⟨some 11, none, .mv (.s 3), .none⟩,
     ⟨some 12, none, .bin .add (.s 11) (.c (.d (.int .i64 1))), .none⟩,
     ⟨some 3, none, .mv (.s 12), .none⟩])))
def lp19_0 : C := lb19_0
theorem u19_0 (c : Ev.Callee) (l : Ev.Looper) (s : St) : evC c l lp19_0 s = evC c l lb19_0 s := rfl
abbrev st19_0 (m : Nat) (s0 s3 : AV) (h : Heap) : St := ⟨m, [s0, .unk, .unk, s3, .unk, .unk, .unk, .unk, .unk, .unk, .unk, .unk, .unk, .unk, .unk, .unk, .unk, .unk, .unk, .unk, .unk, .unk, .unk, .unk, .unk, .unk, .unk, .unk, .unk, .unk, .unk, .unk, .unk, .unk, .unk, .unk, .unk, .unk, .unk, .unk, .unk, .unk, .unk, .unk, .unk, .unk, .unk, .unk, .unk, .unk, .unk, .unk, .unk, .unk], h⟩
@[go_sem] theorem ks19_0 (v0 v1 v2 v3 v4 v5 v6 v7 v8 v9 v10 v11 v12 v13 v14 v15 v16 v17 v18 v19 v20 v21 v22 v23 v24 v25 v26 v27 v28 v29 v30 v31 v32 v33 v34 v35 v36 v37 v38 v39 v40 v41 v42 v43 v44 v45 v46 v47 v48 v49 v50 v51 v52 v53 : AV) : keepS [0, 3] [v0, v1, v2, v3, v4, v5, v6, v7, v8, v9, v10, v11, v12, v13, v14, v15, v16, v17, v18, v19, v20, v21, v22, v23, v24, v25, v26, v27, v28, v29, v30, v31, v32, v33, v34, v35, v36, v37, v38, v39, v40, v41, v42, v43, v44, v45, v46, v47, v48, v49, v50, v51, v52, v53] 0 = [v0, .unk, .unk, v3, .unk, .unk, .unk, .unk, .unk, .unk, .unk, .unk, .unk, .unk, .unk, .unk, .unk, .unk, .unk, .unk, .unk, .unk, .unk, .unk, .unk, .unk, .unk, .unk, .unk, .unk, .unk, .unk, .unk, .unk, .unk, .unk, .unk, .unk, .unk, .unk, .unk, .unk, .unk, .unk, .unk, .unk, .unk, .unk, .unk, .unk, .unk, .unk, .unk, .unk] := rfl
@[go_sem] theorem ks19_1 (v0 v1 v2 v3 v4 v5 v6 v7 v8 v9 v10 v11 v12 v13 v14 v15 v16 v17 v18 v19 v20 v21 v22 v23 v24 v25 v26 v27 v28 v29 v30 v31 v32 v33 v34 v35 v36 v37 v38 v39 v40 v41 v42 v43 v44 v45 v46 v47 v48 v49 v50 v51 v52 v53 : AV) : keepS [0] [v0, v1, v2, v3, v4, v5, v6, v7, v8, v9, v10, v11, v12, v13, v14, v15, v16, v17, v18, v19, v20, v21, v22, v23, v24, v25, v26, v27, v28, v29, v30, v31, v32, v33, v34, v35, v36, v37, v38, v39, v40, v41, v42, v43, v44, v45, v46, v47, v48, v49, v50, v51, v52, v53] 0 = [v0, .unk, .unk, .unk, .unk, .unk, .unk, .unk, .unk, .unk, .unk, .unk, .unk, .unk, .unk, .unk, .unk, .unk, .unk, .unk, .unk, .unk, .unk, .unk, .unk, .unk, .unk, .unk, .unk, .unk, .unk, .unk, .unk, .unk, .unk, .unk, .unk, .unk, .unk, .unk, .unk, .unk, .unk, .unk, .unk, .unk, .unk, .unk, .unk, .unk, .unk, .unk, .unk, .unk] := rfl
@[go_sem] theorem ks19_2 (v0 v1 v2 v3 v4 v5 v6 v7 v8 v9 v10 v11 v12 v13 v14 v15 v16 v17 v18 v19 v20 v21 v22 v23 v24 v25 v26 v27 v28 v29 v30 v31 v32 v33 v34 v35 v36 v37 v38 v39 v40 v41 v42 v43 v44 v45 v46 v47 v48 v49 v50 v51 v52 v53 : AV) : keepS [0, 3, 4, 5, 6] [v0, v1, v2, v3, v4, v5, v6, v7, v8, v9, v10, v11, v12, v13, v14, v15, v16, v17, v18, v19, v20, v21, v22, v23, v24, v25, v26, v27, v28, v29, v30, v31, v32, v33, v34, v35, v36, v37, v38, v39, v40, v41, v42, v43, v44, v45, v46, v47, v48, v49, v50, v51, v52, v53] 0 = [v0, .unk, .unk, v3, v4, v5, v6, .unk, .unk, .unk, .unk, .unk, .unk, .unk, .unk, .unk, .unk, .unk, .unk, .unk, .unk, .unk, .unk, .unk, .unk, .unk, .unk, .unk, .unk, .unk, .unk, .unk, .unk, .unk, .unk, .unk, .unk, .unk, .unk, .unk, .unk, .unk, .unk, .unk, .unk, .unk, .unk, .unk, .unk, .unk, .unk, .unk, .unk, .unk] := rfl
@[go_sem] theorem ks19_3 (v0 v1 v2 v3 v4 v5 v6 v7 v8 v9 v10 v11 v12 v13 v14 v15 v16 v17 v18 v19 v20 v21 v22 v23 v24 v25 v26 v27 v28 v29 v30 v31 v32 v33 v34 v35 v36 v37 v38 v39 v40 v41 v42 v43 v44 v45 v46 v47 v48 v49 v50 v51 v52 v53 : AV) : keepS [0, 3, 5] [v0, v1, v2, v3, v4, v5, v6, v7, v8, v9, v10, v11, v12, v13, v14, v15, v16, v17, v18, v19, v20, v21, v22, v23, v24, v25, v26, v27, v28, v29, v30, v31, v32, v33, v34, v35, v36, v37, v38, v39, v40, v41, v42, v43, v44, v45, v46, v47, v48, v49, v50, v51, v52, v53] 0 = [v0, .unk, .unk, v3, .unk, v5, .unk, .unk, .unk, .unk, .unk, .unk, .unk, .unk, .unk, .unk, .unk, .unk, .unk, .unk, .unk, .unk, .unk, .unk, .unk, .unk, .unk, .unk, .unk, .unk, .unk, .unk, .unk, .unk, .unk, .unk, .unk, .unk, .unk, .unk, .unk, .unk, .unk, .unk, .unk, .unk, .unk, .unk, .unk, .unk, .unk, .unk, .unk, .unk] := rfl
@[go_sem] theorem ks19_4 (v0 v1 v2 v3 v4 v5 v6 v7 v8 v9 v10 v11 v12 v13 v14 v15 v16 v17 v18 v19 v20 v21 v22 v23 v24 v25 v26 v27 v28 v29 v30 v31 v32 v33 v34 v35 v36 v37 v38 v39 v40 v41 v42 v43 v44 v45 v46 v47 v48 v49 v50 v51 v52 v53 : AV) : keepS [2] [v0, v1, v2, v3, v4, v5, v6, v7, v8, v9, v10, v11, v12, v13, v14, v15, v16, v17, v18, v19, v20, v21, v22, v23, v24, v25, v26, v27, v28, v29, v30, v31, v32, v33, v34, v35, v36, v37, v38, v39, v40, v41, v42, v43, v44, v45, v46, v47, v48, v49, v50, v51, v52, v53] 0 = [.unk, .unk, v2, .unk, .unk, .unk, .unk, .unk, .unk, .unk, .unk, .unk, .unk, .unk, .unk, .unk, .unk, .unk, .unk, .unk, .unk, .unk, .unk, .unk, .unk, .unk, .unk, .unk, .unk, .unk, .unk, .unk, .unk, .unk, .unk, .unk, .unk, .unk, .unk, .unk, .unk, .unk, .unk, .unk, .unk, .unk, .unk, .unk, .unk, .unk, .unk, .unk, .unk, .unk] := rfl
/-- spence/spenceref01.Token -/
def bd19 : C :=
  (.seq (.reg [⟨some 2, none, .mv (.c (.d (.bool false))), .none⟩])
  (.seq (.seq (.reg [⟨some 3, none, .mv (.c (.d (.int .i64 0))), .none⟩])
   (.block 0 (.loop [0, 3] lp19_0)))
  (.seq (.reg [⟨some 51, none, .mv (.s 0), .none⟩,
      ⟨some 52, none, .lens (.s 51), .none⟩,
      ⟨some 53, none, .bin .gtr (.s 52) (.c (.d (.int .i64 0))), .none⟩,
      ⟨some 2, none, .mv (.s 53), .none⟩])
  (.ret none))))
def ir19 : F := { n := 54, res := [.tmp 2], body := bd19 }
@[go_sem] theorem n19 : ir19.n = 54 := rfl
@[go_sem] theorem r19 : ir19.res = [.tmp 2] := rfl
@[go_sem] theorem b19 : ir19.body = bd19 := rfl
/-- spence/spencelaw45.awake -/
def bd20 : C :=
  (.seq (.reg [⟨some 0, none, .mv (.c (.d (.bool false))), .none⟩])
  (.seq (.reg [⟨some 2, none, .bsl 5 1 1 [.int .u8 0] [(0, (1, .c (.d (.int .u8 7))))], .none⟩,
      ⟨some 3, none, .build [.int .i64 0, .str [], .str [], .nils] [(0, (1, .c (.d (.int .i64 200)))), (3, (1, .s 2))], .cells [(3, 1, false)]⟩,
      ⟨some 4, none, .build [.int .i64 0, .str [], .str [], .int .i64 0, .int .i64 0, .int .i64 0, .int .i64 0, .int .i64 0, .str [], .str [], .nils] [(7, (4, .s 3)), (3, (1, .c (.d (.int .i64 1)))), (4, (1, .c (.d (.int .i64 3))))], .cells [(10, 1, false)]⟩,
      ⟨some 5, none, .bsl 49 11 1 [.int .i64 0, .str [], .str [], .int .i64 0, .int .i64 0, .int .i64 0, .int .i64 0, .int .i64 0, .str [], .str [], .nils] [(0, (11, .s 4))], .none⟩,
      ⟨some 6, none, .call 24 [.s 5] 0, .none⟩,
      ⟨some 1, none, .alloc 43 [.int .i64 0, .int .i64 0, .int .i64 0, .int .i64 0, .int .i64 0, .int .i64 0], .none⟩,
      ⟨none, none, .st (.s 1) (.s 6) 6, .none⟩])
  (.seq (.reg [⟨some 7, none, .ld (.s 1) 6 true, .none⟩,
      ⟨some 8, none, .build [.int .i64 0, .int .i64 0, .int .i64 0, .int .i64 0, .int .i64 0, .int .i64 0] [(0, (1, .c (.d (.int .i64 1)))), (4, (1, .c (.d (.int .i64 1)))), (5, (1, .c (.d (.int .i64 2))))], .none⟩,
      ⟨some 9, none, .eqs false [1, 1, 1, 1, 1, 1] (.s 7) (.s 8), .none⟩,
      ⟨some 0, none, .mv (.s 9), .none⟩])
  (.ret none))))
def ir20 : F := { n := 10, res := [.tmp 0], body := bd20 }
@[go_sem] theorem n20 : ir20.n = 10 := rfl
@[go_sem] theorem r20 : ir20.res = [.tmp 0] := rfl
@[go_sem] theorem b20 : ir20.body = bd20 := rfl
def lb21_0 : C :=
  (.seq (.reg [⟨some 8, none, .bin .lss (.s 7) (.s 6), .none⟩])
  (.seq (.cond (.s 8)
    .skip
    (.exit 0 (some [0])))
  (.seq (.block 1 (.seq (.reg [⟨some 9, none, .is (.s 5) (.s 7) 11, .none⟩,
        ⟨some 10, none, .ld (.s 9) 11 true, .none⟩,
        ⟨some 4, none, .alloc 49 [.int .i64 0, .str [], .str [], .int .i64 0, .int .i64 0, .int .i64 0, .int .i64 0, .int .i64 0, .str [], .str [], .nils], .cells [(10, 1, false)]⟩,
        ⟨none, none, .st (.s 4) (.s 10) 11, .none⟩])
    (.seq (.reg [⟨some 11, none, .fa (.s 4) 7, .none⟩,
        ⟨some 12, none, .fa (.s 11) 3, .none⟩,
        ⟨some 13, none, .ld (.s 12) 1 false, .none⟩,
        ⟨some 14, none, .len (.s 13), .none⟩,
        ⟨some 15, none, .bin .gtr (.s 14) (.c (.d (.int .i64 1000))), .none⟩,
        ⟨some 16, none, .mv (.s 15), .none⟩,
        ⟨some 17, some (16, false), .fa (.s 4) 7, .none⟩,
        ⟨some 18, some (16, false), .fa (.s 17) 2, .none⟩,
        ⟨some 19, some (16, false), .ld (.s 18) 1 false, .none⟩,
        ⟨some 20, some (16, false), .lens (.s 19), .none⟩,
        ⟨some 21, some (16, false), .bin .gtr (.s 20) (.c (.d (.int .i64 200))), .none⟩,
        ⟨some 22, none, .pick (.s 16) (.c (.d (.bool true))) (.s 21), .none⟩,
        ⟨some 23, none, .mv (.s 22), .none⟩,
        ⟨some 24, some (23, false), .fa (.s 4) 4, .none⟩,
        ⟨some 25, some (23, false), .ld (.s 24) 1 false, .none⟩,
        ⟨some 26, some (23, false), .bin .gtr (.s 25) (.c (.d (.int .i64 1099511627776))), .none⟩,
        ⟨some 27, none, .pick (.s 23) (.c (.d (.bool true))) (.s 26), .none⟩,
        ⟨some 28, none, .mv (.s 27), .none⟩,
        ⟨some 29, some (28, false), .fa (.s 4) 4, .none⟩,
        ⟨some 30, some (28, false), .ld (.s 29) 1 false, .none⟩,
        ⟨some 31, some (28, false), .bin .lss (.s 30) (.c (.d (.int .i64 (-1099511627776)))), .none⟩,
        ⟨some 32, none, .pick (.s 28) (.c (.d (.bool true))) (.s 31), .none⟩,
        ⟨some 33, none, .mv (.s 32), .none⟩,
        ⟨some 34, some (33, false), .fa (.s 4) 3, .none⟩,
        ⟨some 35, some (33, false), .ld (.s 34) 1 false, .none⟩,
        ⟨some 36, some (33, false), .bin .gtr (.s 35) (.c (.d (.int .i64 1099511627776))), .none⟩,
        ⟨some 37, none, .pick (.s 33) (.c (.d (.bool true))) (.s 36), .none⟩,
        ⟨some 38, none, .mv (.s 37), .none⟩,
        ⟨some 39, some (38, false), .fa (.s 4) 3, .none⟩,
        ⟨some 40, some (38, false), .ld (.s 39) 1 false, .none⟩,
        ⟨some 41, some (38, false), .bin .lss (.s 40) (.c (.d (.int .i64 (-1099511627776)))), .none⟩,
        ⟨some 42, none, .pick (.s 38) (.c (.d (.bool true))) (.s 41), .none⟩])
    (.cond (.s 42)
     (.seq (.reg [⟨some 2, none, .mv (.c (.d (.bool false))), .none⟩])
     (.ret (some [2])))
     .skip))))
  (.reg [⟨some 43, none, .bin .add (.s 7) (.c (.d (.int .i64 1))), .none⟩,
     ⟨some 7, none, .mv (.s 43), .none⟩]))))
def lp21_0 : C := lb21_0
theorem u21_0 (c : Ev.Callee) (l : Ev.Looper) (s : St) : evC c l lp21_0 s = evC c l lb21_0 s := rfl
abbrev st21_0 (m : Nat) (s0 s5 s6 s7 : AV) (h : Heap) : St := ⟨m, [s0, .unk, .unk, .unk, .unk, s5, s6, s7, .unk, .unk, .unk, .unk, .unk, .unk, .unk, .unk, .unk, .unk, .unk, .unk, .unk, .unk, .unk, .unk, .unk, .unk, .unk, .unk, .unk, .unk, .unk, .unk, .unk, .unk, .unk, .unk, .unk, .unk, .unk, .unk, .unk, .unk, .unk, .unk, .unk, .unk, .unk], h⟩
@[go_sem] theorem ks21_0 (v0 v1 v2 v3 v4 v5 v6 v7 v8 v9 v10 v11 v12 v13 v14 v15 v16 v17 v18 v19 v20 v21 v22 v23 v24 v25 v26 v27 v28 v29 v30 v31 v32 v33 v34 v35 v36 v37 v38 v39 v40 v41 v42 v43 v44 v45 v46 : AV) : keepS [0, 5, 6, 7] [v0, v1, v2, v3, v4, v5, v6, v7, v8, v9, v10, v11, v12, v13, v14, v15, v16, v17, v18, v19, v20, v21, v22, v23, v24, v25, v26, v27, v28, v29, v30, v31, v32, v33, v34, v35, v36, v37, v38, v39, v40, v41, v42, v43, v44, v45, v46] 0 = [v0, .unk, .unk, .unk, .unk, v5, v6, v7, .unk, .unk, .unk, .unk, .unk, .unk, .unk, .unk, .unk, .unk, .unk, .unk, .unk, .unk, .unk, .unk, .unk, .unk, .unk, .unk, .unk, .unk, .unk, .unk, .unk, .unk, .unk, .unk, .unk, .unk, .unk, .unk, .unk, .unk, .unk, .unk, .unk, .unk, .unk] := rfl
@[go_sem] theorem ks21_1 (v0 v1 v2 v3 v4 v5 v6 v7 v8 v9 v10 v11 v12 v13 v14 v15 v16 v17 v18 v19 v20 v21 v22 v23 v24 v25 v26 v27 v28 v29 v30 v31 v32 v33 v34 v35 v36 v37 v38 v39 v40 v41 v42 v43 v44 v45 v46 : AV) : keepS [0] [v0, v1, v2, v3, v4, v5, v6, v7, v8, v9, v10, v11, v12, v13, v14, v15, v16, v17, v18, v19, v20, v21, v22, v23, v24, v25, v26, v27, v28, v29, v30, v31, v32, v33, v34, v35, v36, v37, v38, v39, v40, v41, v42, v43, v44, v45, v46] 0 = [v0, .unk, .unk, .unk, .unk, .unk, .unk, .unk, .unk, .unk, .unk, .unk, .unk, .unk, .unk, .unk, .unk, .unk, .unk, .unk, .unk, .unk, .unk, .unk, .unk, .unk, .unk, .unk, .unk, .unk, .unk, .unk, .unk, .unk, .unk, .unk, .unk, .unk, .unk, .unk, .unk, .unk, .unk, .unk, .unk, .unk, .unk] := rfl
@[go_sem] theorem ks21_2 (v0 v1 v2 v3 v4 v5 v6 v7 v8 v9 v10 v11 v12 v13 v14 v15 v16 v17 v18 v19 v20 v21 v22 v23 v24 v25 v26 v27 v28 v29 v30 v31 v32 v33 v34 v35 v36 v37 v38 v39 v40 v41 v42 v43 v44 v45 v46 : AV) : keepS [2] [v0, v1, v2, v3, v4, v5, v6, v7, v8, v9, v10, v11, v12, v13, v14, v15, v16, v17, v18, v19, v20, v21, v22, v23, v24, v25, v26, v27, v28, v29, v30, v31, v32, v33, v34, v35, v36, v37, v38, v39, v40, v41, v42, v43, v44, v45, v46] 0 = [.unk, .unk, v2, .unk, .unk, .unk, .unk, .unk, .unk, .unk, .unk, .unk, .unk, .unk, .unk, .unk, .unk, .unk, .unk, .unk, .unk, .unk, .unk, .unk, .unk, .unk, .unk, .unk, .unk, .unk, .unk, .unk, .unk, .unk, .unk, .unk, .unk, .unk, .unk, .unk, .unk, .unk, .unk, .unk, .unk, .unk, .unk] := rfl
/-- spence/spencelaw45.Few -/
def bd21 : C :=
  (.seq (.reg [⟨some 2, none, .mv (.c (.d (.bool false))), .none⟩])
  (.seq (.seq (.reg [⟨some 5, none, .mv (.s 0), .none⟩,
       ⟨some 6, none, .len (.s 5), .none⟩,
       ⟨some 7, none, .mv (.c (.d (.int .i64 0))), .none⟩])
   (.block 0 (.loop [0, 5, 6, 7] lp21_0)))
  (.seq (.reg [⟨some 44, none, .mv (.s 0), .none⟩,
      ⟨some 45, none, .len (.s 44), .none⟩,
      ⟨some 46, none, .bin .leq (.s 45) (.c (.d (.int .i64 20))), .none⟩,
      ⟨some 2, none, .mv (.s 46), .none⟩])
  (.ret none))))
def ir21 : F := { n := 47, res := [.tmp 2], body := bd21 }
@[go_sem] theorem n21 : ir21.n = 47 := rfl
@[go_sem] theorem r21 : ir21.res = [.tmp 2] := rfl
@[go_sem] theorem b21 : ir21.body = bd21 := rfl
/-- spence/answer.Parts -/
def bd22 : C :=
  (.seq (.reg [⟨some 1, none, .box 47 (.s 0), .none⟩,
      ⟨some 2, none, .mv (.c (.d .nils)), .one 3 true⟩,
      ⟨some 3, none, .mv (.c (.d (.int .i64 0))), .none⟩,
      ⟨some 4, none, .mv (.c (.d (.int .i64 0))), .none⟩])
  (.seq (.block 0 (.seq (.drw [⟨some 7, none, .fa (.s 1) 0, .none⟩,
        ⟨some 8, none, .ld (.s 7) 1 false, .none⟩,
        ⟨some 9, none, .bin .eql (.s 8) (.c (.d (.int .i64 206))), .none⟩,
        ⟨some 10, none, .mv (.s 9), .none⟩,
        ⟨some 11, some (10, true), .fa (.s 1) 2, .none⟩,
        ⟨some 12, some (10, true), .ld (.s 11) 1 false, .none⟩,
        ⟨some 13, some (10, true), .call 32 [.c (.d (.str [115, 112, 101, 110, 99, 101]))] 2, .none⟩,
        ⟨some 14, some (10, true), .bin .eql (.s 12) (.s 13), .none⟩,
        ⟨some 15, none, .pick (.s 10) (.s 14) (.c (.d (.bool false))), .none⟩,
        ⟨some 6, none, .mv (.s 15), .none⟩]
       [[], [0], [1], [2], [3], [4, 3], [3, 3], [5, 6, 3], [3, 7], [8, 6]] [])
    (.cond (.s 6)
     (.seq (.reg [⟨some 16, none, .fa (.s 1) 3, .none⟩,
         ⟨some 17, none, .ld (.s 16) 1 false, .none⟩,
         ⟨some 18, none, .call 17 [.s 17, .c (.d (.str [115, 112, 101, 110, 99, 101]))] 2, .none⟩,
         ⟨some 19, none, .ext (.s 18) 0, .none⟩,
         ⟨some 20, none, .ext (.s 18) 1, .none⟩,
         ⟨some 21, none, .ext (.s 18) 2, .none⟩,
         ⟨some 2, none, .mv (.s 19), .none⟩,
         ⟨some 3, none, .mv (.s 20), .none⟩,
         ⟨some 4, none, .mv (.s 21), .none⟩])
     (.ret none))
     (.seq (.reg [⟨some 23, none, .fa (.s 1) 0, .none⟩,
         ⟨some 24, none, .ld (.s 23) 1 false, .none⟩,
         ⟨some 25, none, .bin .eql (.s 24) (.c (.d (.int .i64 206))), .none⟩,
         ⟨some 22, none, .mv (.s 25), .none⟩])
     (.cond (.s 22)
      (.seq (.reg [⟨some 26, none, .ld (.s 1) 4 true, .none⟩,
          ⟨some 27, none, .call 46 [.s 26] 2, .none⟩,
          ⟨some 28, none, .ext (.s 27) 0, .none⟩,
          ⟨some 29, none, .ext (.s 27) 1, .none⟩,
          ⟨some 30, none, .ext (.s 27) 2, .none⟩,
          ⟨some 2, none, .mv (.s 28), .none⟩,
          ⟨some 3, none, .mv (.s 29), .none⟩,
          ⟨some 4, none, .mv (.s 30), .none⟩])
      (.ret none))
      (.seq (.reg [⟨some 32, none, .fa (.s 1) 0, .none⟩,
          ⟨some 33, none, .ld (.s 32) 1 false, .none⟩,
          ⟨some 34, none, .bin .eql (.s 33) (.c (.d (.int .i64 200))), .none⟩,
          ⟨some 35, none, .mv (.s 34), .none⟩,
          ⟨some 36, some (35, true), .fa (.s 1) 3, .none⟩,
          ⟨some 37, some (35, true), .ld (.s 36) 1 false, .none⟩,
          ⟨some 38, some (35, true), .len (.s 37), .none⟩,
          ⟨some 39, some (35, true), .bin .gtr (.s 38) (.c (.d (.int .i64 0))), .none⟩,
          ⟨some 40, none, .pick (.s 35) (.s 39) (.c (.d (.bool false))), .none⟩,
          ⟨some 31, none, .mv (.s 40), .none⟩])
      (.cond (.s 31)
       (.seq (.reg [⟨some 41, none, .fa (.s 1) 3, .none⟩,
           ⟨some 42, none, .ld (.s 41) 1 false, .none⟩,
           ⟨some 43, none, .len (.s 42), .none⟩,
           ⟨some 5, none, .mv (.s 43), .none⟩])
       (.seq (.reg [⟨some 44, none, .mv (.s 5), .none⟩,
           ⟨some 45, none, .build [.int .i64 0, .int .i64 0] [(1, (1, .s 44))], .none⟩,
           ⟨some 46, none, .fa (.s 1) 3, .none⟩,
           ⟨some 47, none, .ld (.s 46) 1 false, .none⟩,
           ⟨some 48, none, .call 47 [.s 47] 2, .none⟩,
           ⟨some 49, none, .build [.int .i64 0, .int .i64 0, .nils] [(0, (2, .s 45)), (2, (1, .s 48))], .cells [(2, 1, false)]⟩,
           ⟨some 50, none, .bsl 54 3 1 [.int .i64 0, .int .i64 0, .nils] [(0, (3, .s 49))], .none⟩,
           ⟨some 51, none, .mv (.s 5), .none⟩,
           ⟨some 2, none, .mv (.s 50), .none⟩,
           ⟨some 3, none, .mv (.s 51), .none⟩,
           ⟨some 4, none, .mv (.c (.d (.int .i64 0))), .none⟩])
       (.ret none)))
       .skip)))))))
  (.seq (.reg [⟨some 2, none, .mv (.c (.d .nils)), .one 3 true⟩,
      ⟨some 3, none, .mv (.c (.d (.int .i64 0))), .none⟩,
      ⟨some 4, none, .mv (.c (.d (.int .i64 0))), .none⟩])
  (.ret none))))
def ir22 : F := { n := 52, res := [.tmp 2, .tmp 3, .tmp 4], body := bd22 }
@[go_sem] theorem n22 : ir22.n = 52 := rfl
@[go_sem] theorem r22 : ir22.res = [.tmp 2, .tmp 3, .tmp 4] := rfl
@[go_sem] theorem b22 : ir22.body = bd22 := rfl
/-- spence/stat.Slowest -/
def bd23 : C :=
  (.seq (.reg [⟨some 2, none, .alloc 49 [.int .i64 0, .str [], .str [], .int .i64 0, .int .i64 0, .int .i64 0, .int .i64 0, .int .i64 0, .str [], .str [], .nils], .cells [(10, 1, false)]⟩,
      ⟨some 3, none, .mv (.c (.d (.bool false))), .none⟩])
  (.seq (.seq (.reg [⟨some 5, none, .mv (.s 0), .none⟩,
       ⟨some 6, none, .len (.s 5), .none⟩,
       ⟨some 7, none, .bin .eql (.s 6) (.c (.d (.int .i64 0))), .none⟩])
   (.cond (.s 7)
    (.seq (.reg [⟨some 8, none, .build [.int .i64 0, .str [], .str [], .int .i64 0, .int .i64 0, .int .i64 0, .int .i64 0, .int .i64 0, .str [], .str [], .nils] [], .cells [(10, 1, false)]⟩,
        ⟨none, none, .st (.s 2) (.s 8) 11, .none⟩,
        ⟨some 3, none, .mv (.c (.d (.bool false))), .none⟩])
    (.ret none))
    .skip))
  (.seq (.reg [⟨some 9, none, .mv (.s 0), .none⟩,
      ⟨some 10, none, .call 48 [.s 9, .c (.clo (.func 49) [] [])] 2, .none⟩,
      ⟨some 4, none, .alloc 49 [.int .i64 0, .str [], .str [], .int .i64 0, .int .i64 0, .int .i64 0, .int .i64 0, .int .i64 0, .str [], .str [], .nils], .cells [(10, 1, false)]⟩,
      ⟨none, none, .st (.s 4) (.s 10) 11, .none⟩])
  (.seq (.reg [⟨some 11, none, .fa (.s 4) 7, .none⟩,
      ⟨some 12, none, .fa (.s 11) 3, .none⟩,
      ⟨some 13, none, .ld (.s 12) 1 false, .none⟩,
      ⟨some 14, none, .call 47 [.s 13] 2, .none⟩,
      ⟨some 15, none, .fa (.s 4) 7, .none⟩,
      ⟨some 16, none, .fa (.s 15) 3, .none⟩,
      ⟨none, none, .st (.s 16) (.s 14) 1, .none⟩])
  (.seq (.reg [⟨some 17, none, .ld (.s 4) 11 true, .none⟩,
      ⟨none, none, .st (.s 2) (.s 17) 11, .none⟩,
      ⟨some 3, none, .mv (.c (.d (.bool true))), .none⟩])
  (.ret none))))))
def ir23 : F := { n := 18, res := [.cell 2 11 true, .tmp 3], body := bd23 }
@[go_sem] theorem n23 : ir23.n = 18 := rfl
@[go_sem] theorem r23 : ir23.res = [.cell 2 11 true, .tmp 3] := rfl
@[go_sem] theorem b23 : ir23.body = bd23 := rfl
def lb24_0 : C :=
  (.seq (.reg [⟨some 9, none, .bin .lss (.s 8) (.s 7), .none⟩])
  (.seq (.cond (.s 9)
    .skip
    (.exit 0 (some [2, 3])))
  (.seq (.block 1 (.seq (.reg [⟨some 10, none, .is (.s 6) (.s 8) 11, .none⟩,
        ⟨some 11, none, .ld (.s 10) 11 true, .none⟩,
        ⟨some 5, none, .alloc 49 [.int .i64 0, .str [], .str [], .int .i64 0, .int .i64 0, .int .i64 0, .int .i64 0, .int .i64 0, .str [], .str [], .nils], .cells [(10, 1, false)]⟩,
        ⟨none, none, .st (.s 5) (.s 11) 11, .none⟩])
    (.drw [⟨some 12, none, .ld (.s 3) 6 true, .none⟩,
       ⟨some 13, none, .ld (.s 5) 11 true, .none⟩,
       ⟨some 14, none, .call 50 [.s 13] 2, .none⟩,
       ⟨some 15, none, .call 25 [.s 12, .s 14] 2, .none⟩,
       ⟨none, none, .st (.s 3) (.s 15) 6, .none⟩]
      [[], [], [1], [0, 2, 2], [3, 3, 0, 1, 2, 3]] [])))
  (.reg [⟨some 16, none, .bin .add (.s 8) (.c (.d (.int .i64 1))), .none⟩,
     ⟨some 8, none, .mv (.s 16), .none⟩]))))
def lp24_0 : C := lb24_0
theorem u24_0 (c : Ev.Callee) (l : Ev.Looper) (s : St) : evC c l lp24_0 s = evC c l lb24_0 s := rfl
abbrev st24_0 (m : Nat) (s2 s3 s6 s7 s8 : AV) (h : Heap) : St := ⟨m, [.unk, .unk, s2, s3, .unk, .unk, s6, s7, s8, .unk, .unk, .unk, .unk, .unk, .unk, .unk, .unk, .unk], h⟩
@[go_sem] theorem ks24_0 (v0 v1 v2 v3 v4 v5 v6 v7 v8 v9 v10 v11 v12 v13 v14 v15 v16 v17 : AV) : keepS [2, 3, 6, 7, 8] [v0, v1, v2, v3, v4, v5, v6, v7, v8, v9, v10, v11, v12, v13, v14, v15, v16, v17] 0 = [.unk, .unk, v2, v3, .unk, .unk, v6, v7, v8, .unk, .unk, .unk, .unk, .unk, .unk, .unk, .unk, .unk] := rfl
@[go_sem] theorem ks24_1 (v0 v1 v2 v3 v4 v5 v6 v7 v8 v9 v10 v11 v12 v13 v14 v15 v16 v17 : AV) : keepS [2, 3] [v0, v1, v2, v3, v4, v5, v6, v7, v8, v9, v10, v11, v12, v13, v14, v15, v16, v17] 0 = [.unk, .unk, v2, v3, .unk, .unk, .unk, .unk, .unk, .unk, .unk, .unk, .unk, .unk, .unk, .unk, .unk, .unk] := rfl
/-- spence/stat.Dones -/
def bd24 : C :=
  (.seq (.reg [⟨some 2, none, .alloc 43 [.int .i64 0, .int .i64 0, .int .i64 0, .int .i64 0, .int .i64 0, .int .i64 0], .none⟩])
  (.seq (.reg [⟨some 3, none, .alloc 43 [.int .i64 0, .int .i64 0, .int .i64 0, .int .i64 0, .int .i64 0, .int .i64 0], .none⟩])
  (.seq (.seq (.reg [⟨some 6, none, .mv (.s 0), .none⟩,
       ⟨some 7, none, .len (.s 6), .none⟩,
       ⟨some 8, none, .mv (.c (.d (.int .i64 0))), .none⟩])
   (.block 0 (.loop [2, 3, 6, 7, 8] lp24_0)))
  (.seq (.reg [⟨some 17, none, .ld (.s 3) 6 true, .none⟩,
      ⟨none, none, .st (.s 2) (.s 17) 6, .none⟩])
  (.ret none)))))
def ir24 : F := { n := 18, res := [.cell 2 6 true], body := bd24 }
@[go_sem] theorem n24 : ir24.n = 18 := rfl
@[go_sem] theorem r24 : ir24.res = [.cell 2 6 true] := rfl
@[go_sem] theorem b24 : ir24.body = bd24 := rfl
/-- spence/stat.Add -/
def bd25 : C :=
  (.seq (.reg [⟨some 2, none, .box 43 (.s 0), .none⟩,
      ⟨some 3, none, .box 43 (.s 1), .none⟩,
      ⟨some 4, none, .alloc 43 [.int .i64 0, .int .i64 0, .int .i64 0, .int .i64 0, .int .i64 0, .int .i64 0], .none⟩])
  (.seq (.reg [⟨some 5, none, .fa (.s 2) 0, .none⟩,
      ⟨some 6, none, .ld (.s 5) 1 false, .none⟩,
      ⟨some 7, none, .fa (.s 3) 0, .none⟩,
      ⟨some 8, none, .ld (.s 7) 1 false, .none⟩,
      ⟨some 9, none, .bin .add (.s 6) (.s 8), .none⟩,
      ⟨some 10, none, .fa (.s 2) 1, .none⟩,
      ⟨some 11, none, .ld (.s 10) 1 false, .none⟩,
      ⟨some 12, none, .fa (.s 3) 1, .none⟩,
      ⟨some 13, none, .ld (.s 12) 1 false, .none⟩,
      ⟨some 14, none, .bin .add (.s 11) (.s 13), .none⟩,
      ⟨some 15, none, .fa (.s 2) 2, .none⟩,
      ⟨some 16, none, .ld (.s 15) 1 false, .none⟩,
      ⟨some 17, none, .fa (.s 3) 2, .none⟩,
      ⟨some 18, none, .ld (.s 17) 1 false, .none⟩,
      ⟨some 19, none, .bin .add (.s 16) (.s 18), .none⟩,
      ⟨some 20, none, .fa (.s 2) 3, .none⟩,
      ⟨some 21, none, .ld (.s 20) 1 false, .none⟩,
      ⟨some 22, none, .fa (.s 3) 3, .none⟩,
      ⟨some 23, none, .ld (.s 22) 1 false, .none⟩,
      ⟨some 24, none, .bin .add (.s 21) (.s 23), .none⟩,
      ⟨some 25, none, .fa (.s 2) 4, .none⟩,
      ⟨some 26, none, .ld (.s 25) 1 false, .none⟩,
      ⟨some 27, none, .fa (.s 3) 4, .none⟩,
      ⟨some 28, none, .ld (.s 27) 1 false, .none⟩,
      ⟨some 29, none, .bin .add (.s 26) (.s 28), .none⟩,
      ⟨some 30, none, .fa (.s 2) 5, .none⟩,
      ⟨some 31, none, .ld (.s 30) 1 false, .none⟩,
      ⟨some 32, none, .fa (.s 3) 5, .none⟩,
      ⟨some 33, none, .ld (.s 32) 1 false, .none⟩,
      ⟨some 34, none, .mx (.s 31) (.s 33), .none⟩,
      ⟨some 35, none, .build [.int .i64 0, .int .i64 0, .int .i64 0, .int .i64 0, .int .i64 0, .int .i64 0] [(0, (1, .s 9)), (1, (1, .s 14)), (2, (1, .s 19)), (3, (1, .s 24)), (4, (1, .s 29)), (5, (1, .s 34))], .none⟩,
      ⟨none, none, .st (.s 4) (.s 35) 6, .none⟩])
  (.ret none)))
def ir25 : F := { n := 36, res := [.cell 4 6 true], body := bd25 }
@[go_sem] theorem n25 : ir25.n = 36 := rfl
@[go_sem] theorem r25 : ir25.res = [.cell 4 6 true] := rfl
@[go_sem] theorem b25 : ir25.body = bd25 := rfl
/-- spence/multi.Type -/
def bd32 : C :=
  (.seq (.reg [⟨some 2, none, .mv (.c (.d (.str []))), .none⟩])
  (.seq (.reg [⟨some 3, none, .mv (.s 0), .none⟩,
      ⟨some 4, none, .bin .add (.c (.d (.str [109, 117, 108, 116, 105, 112, 97, 114, 116, 47, 98, 121, 116, 101, 114, 97, 110, 103, 101, 115, 59, 32, 98, 111, 117, 110, 100, 97, 114, 121, 61]))) (.s 3), .none⟩,
      ⟨some 2, none, .mv (.s 4), .none⟩])
  (.ret none)))
def ir32 : F := { n := 5, res := [.tmp 2], body := bd32 }
@[go_sem] theorem n32 : ir32.n = 5 := rfl
@[go_sem] theorem r32 : ir32.res = [.tmp 2] := rfl
@[go_sem] theorem b32 : ir32.body = bd32 := rfl
/-- spence/multi.may -/
def bd33 : C :=
  (.seq (.reg [⟨some 2, none, .mv (.c (.d (.bool false))), .none⟩])
  (.seq (.reg [⟨some 3, none, .mv (.s 0), .none⟩,
      ⟨some 4, none, .call 65 [.s 3] 2, .none⟩,
      ⟨some 5, none, .mv (.s 4), .none⟩,
      ⟨some 6, some (5, true), .mv (.s 0), .none⟩,
      ⟨some 7, some (5, true), .lens (.s 6), .none⟩,
      ⟨some 8, some (5, true), .bin .leq (.s 7) (.c (.d (.int .i64 40))), .none⟩,
      ⟨some 9, none, .pick (.s 5) (.s 8) (.c (.d (.bool false))), .none⟩,
      ⟨some 2, none, .mv (.s 9), .none⟩])
  (.ret none)))
def ir33 : F := { n := 10, res := [.tmp 2], body := bd33 }
@[go_sem] theorem n33 : ir33.n = 10 := rfl
@[go_sem] theorem r33 : ir33.res = [.tmp 2] := rfl
@[go_sem] theorem b33 : ir33.body = bd33 := rfl
/-- spence/crange.Of -/
def bd35 : C :=
  (.seq (.reg [⟨some 2, none, .box 52 (.s 0), .none⟩,
      ⟨some 4, none, .mv (.c (.d (.str []))), .none⟩])
  (.seq (.reg [⟨some 5, none, .ld (.s 2) 2 true, .none⟩,
      ⟨some 6, none, .mv (.s 1), .none⟩,
      ⟨some 7, none, .build [.bool false, .int .i64 0, .int .i64 0, .int .i64 0] [(0, (1, .c (.d (.bool true)))), (1, (2, .s 5)), (3, (1, .s 6))], .none⟩,
      ⟨some 8, none, .call 68 [.s 7] 2, .none⟩,
      ⟨some 4, none, .mv (.s 8), .none⟩])
  (.ret none)))
def ir35 : F := { n := 9, res := [.tmp 4], body := bd35 }
@[go_sem] theorem n35 : ir35.n = 9 := rfl
@[go_sem] theorem r35 : ir35.res = [.tmp 4] := rfl
@[go_sem] theorem b35 : ir35.body = bd35 := rfl
@[go_sem] theorem ks38_0 (v0 v1 v2 v3 v4 v5 v6 v7 v8 v9 v10 v11 v12 v13 v14 v15 v16 v17 v18 v19 v20 v21 v22 v23 v24 v25 v26 v27 v28 v29 v30 v31 : AV) : keepS [1, 3] [v0, v1, v2, v3, v4, v5, v6, v7, v8, v9, v10, v11, v12, v13, v14, v15, v16, v17, v18, v19, v20, v21, v22, v23, v24, v25, v26, v27, v28, v29, v30, v31] 0 = [.unk, v1, .unk, v3, .unk, .unk, .unk, .unk, .unk, .unk, .unk, .unk, .unk, .unk, .unk, .unk, .unk, .unk, .unk, .unk, .unk, .unk, .unk, .unk, .unk, .unk, .unk, .unk, .unk, .unk, .unk, .unk] := rfl
/-- spence/spenceref04.PrintContent -/
def bd38 : C :=
  (.seq (.reg [⟨some 1, none, .box 88 (.s 0), .none⟩,
      ⟨some 2, none, .mv (.c (.d (.str []))), .none⟩])
  (.seq (.seq (.reg [⟨some 4, none, .ld (.s 1) 4 true, .none⟩,
       ⟨some 5, none, .call 69 [.s 4] 2, .none⟩,
       ⟨some 6, none, .un .not (.s 5), .none⟩])
   (.cond (.s 6)
    (.seq (.reg [⟨some 2, none, .mv (.c (.d (.str []))), .none⟩])
    (.ret none))
    .skip))
  (.seq (.reg [⟨some 3, none, .mv (.c (.d (.str [98, 121, 116, 101, 115, 32, 42]))), .none⟩])
  (.seq (.seq (.reg [⟨some 7, none, .fa (.s 1) 0, .none⟩,
       ⟨some 8, none, .ld (.s 7) 1 false, .none⟩])
   (.cond (.s 8)
    (.drw [⟨some 9, none, .fa (.s 1) 1, .none⟩,
       ⟨some 10, none, .fa (.s 9) 0, .none⟩,
       ⟨some 11, none, .ld (.s 10) 1 false, .none⟩,
       ⟨some 12, none, .call 64 [.s 11] 2, .none⟩,
       ⟨some 13, none, .bin .add (.c (.d (.str [98, 121, 116, 101, 115, 32]))) (.s 12), .none⟩,
       ⟨some 14, none, .bin .add (.s 13) (.c (.d (.str [45]))), .none⟩,
       ⟨some 15, none, .fa (.s 1) 1, .none⟩,
       ⟨some 16, none, .fa (.s 15) 1, .none⟩,
       ⟨some 17, none, .ld (.s 16) 1 false, .none⟩,
       ⟨some 18, none, .bin .sub (.s 17) (.c (.d (.int .i64 1))), .none⟩,
       ⟨some 19, none, .call 64 [.s 18] 2, .none⟩,
       ⟨some 20, none, .bin .add (.s 14) (.s 19), .none⟩,
       ⟨some 3, none, .mv (.s 20), .none⟩]
      [[], [0], [1], [2], [3], [4], [], [6], [7], [8], [9, 3], [5, 10], [11, 10, 0, 1, 2, 3, 4, 5, 6, 7, 8, 9, 10, 11]] [])
    .skip))
  (.ann [1, 3] (.seq (.seq (.reg [⟨some 21, none, .fa (.s 1) 3, .none⟩,
       ⟨some 22, none, .ld (.s 21) 1 false, .none⟩,
       ⟨some 23, none, .bin .lss (.s 22) (.c (.d (.int .i64 0))), .none⟩])
   (.cond (.s 23)
    (.seq (.reg [⟨some 24, none, .mv (.s 3), .none⟩,
        ⟨some 25, none, .bin .add (.s 24) (.c (.d (.str [47, 42]))), .none⟩,
        ⟨some 2, none, .mv (.s 25), .none⟩])
    (.ret none))
    .skip))
  (.seq (.reg [⟨some 26, none, .mv (.s 3), .none⟩,
      ⟨some 27, none, .bin .add (.s 26) (.c (.d (.str [47]))), .none⟩,
      ⟨some 28, none, .fa (.s 1) 3, .none⟩,
      ⟨some 29, none, .ld (.s 28) 1 false, .none⟩,
      ⟨some 30, none, .call 64 [.s 29] 2, .none⟩,
      ⟨some 31, none, .bin .add (.s 27) (.s 30), .none⟩,
      ⟨some 2, none, .mv (.s 31), .none⟩])
  (.ret none))))))))
def ir38 : F := { n := 32, res := [.tmp 2], body := bd38 }
@[go_sem] theorem n38 : ir38.n = 32 := rfl
@[go_sem] theorem r38 : ir38.res = [.tmp 2] := rfl
@[go_sem] theorem b38 : ir38.body = bd38 := rfl
/-- spence/span.Right -/
def bd39 : C :=
  (.seq (.reg [⟨some 1, none, .box 52 (.s 0), .none⟩,
      ⟨some 2, none, .mv (.c (.d (.bool false))), .none⟩])
  (.seq (.reg [⟨some 3, none, .fa (.s 1) 0, .none⟩,
      ⟨some 4, none, .ld (.s 3) 1 false, .none⟩,
      ⟨some 5, none, .bin .geq (.s 4) (.c (.d (.int .i64 0))), .none⟩,
      ⟨some 6, none, .mv (.s 5), .none⟩,
      ⟨some 7, some (6, true), .fa (.s 1) 0, .none⟩,
      ⟨some 8, some (6, true), .ld (.s 7) 1 false, .none⟩,
      ⟨some 9, some (6, true), .fa (.s 1) 1, .none⟩,
      ⟨some 10, some (6, true), .ld (.s 9) 1 false, .none⟩,
      ⟨some 11, some (6, true), .bin .lss (.s 8) (.s 10), .none⟩,
      ⟨some 12, none, .pick (.s 6) (.s 11) (.c (.d (.bool false))), .none⟩,
      ⟨some 13, none, .mv (.s 12), .none⟩,
      ⟨some 14, some (13, true), .fa (.s 1) 1, .none⟩,
      ⟨some 15, some (13, true), .ld (.s 14) 1 false, .none⟩,
      ⟨some 16, some (13, true), .bin .leq (.s 15) (.c (.d (.int .i64 4611686018427387903))), .none⟩,
      ⟨some 17, none, .pick (.s 13) (.s 16) (.c (.d (.bool false))), .none⟩,
      ⟨some 2, none, .mv (.s 17), .none⟩])
  (.ret none)))
def ir39 : F := { n := 18, res := [.tmp 2], body := bd39 }
@[go_sem] theorem n39 : ir39.n = 18 := rfl
@[go_sem] theorem r39 : ir39.res = [.tmp 2] := rfl
@[go_sem] theorem b39 : ir39.body = bd39 := rfl
/-- spence/span.Len -/
def bd40 : C :=
  (.seq (.reg [⟨some 1, none, .box 52 (.s 0), .none⟩,
      ⟨some 2, none, .mv (.c (.d (.int .i64 0))), .none⟩])
  (.seq (.seq (.reg [⟨some 3, none, .ld (.s 1) 2 true, .none⟩,
       ⟨some 4, none, .call 39 [.s 3] 2, .none⟩,
       ⟨some 5, none, .un .not (.s 4), .none⟩])
   (.cond (.s 5)
    (.seq (.reg [⟨some 2, none, .mv (.c (.d (.int .i64 0))), .none⟩])
    (.ret none))
    .skip))
  (.seq (.reg [⟨some 6, none, .fa (.s 1) 1, .none⟩,
      ⟨some 7, none, .ld (.s 6) 1 false, .none⟩,
      ⟨some 8, none, .fa (.s 1) 0, .none⟩,
      ⟨some 9, none, .ld (.s 8) 1 false, .none⟩,
      ⟨some 10, none, .bin .sub (.s 7) (.s 9), .none⟩,
      ⟨some 2, none, .mv (.s 10), .none⟩])
  (.ret none))))
def ir40 : F := { n := 11, res := [.tmp 2], body := bd40 }
@[go_sem] theorem n40 : ir40.n = 11 := rfl
@[go_sem] theorem r40 : ir40.res = [.tmp 2] := rfl
@[go_sem] theorem b40 : ir40.body = bd40 := rfl
/-- spence/spenceref04.Right -/
def bd41 : C :=
  (.seq (.reg [⟨some 1, none, .box 52 (.s 0), .none⟩,
      ⟨some 2, none, .mv (.c (.d (.bool false))), .none⟩])
  (.seq (.reg [⟨some 3, none, .fa (.s 1) 0, .none⟩,
      ⟨some 4, none, .ld (.s 3) 1 false, .none⟩,
      ⟨some 5, none, .bin .geq (.s 4) (.c (.d (.int .i64 0))), .none⟩,
      ⟨some 6, none, .mv (.s 5), .none⟩,
      ⟨some 7, some (6, true), .fa (.s 1) 1, .none⟩,
      ⟨some 8, some (6, true), .ld (.s 7) 1 false, .none⟩,
      ⟨some 9, some (6, true), .fa (.s 1) 0, .none⟩,
      ⟨some 10, some (6, true), .ld (.s 9) 1 false, .none⟩,
      ⟨some 11, some (6, true), .bin .gtr (.s 8) (.s 10), .none⟩,
      ⟨some 12, none, .pick (.s 6) (.s 11) (.c (.d (.bool false))), .none⟩,
      ⟨some 13, none, .mv (.s 12), .none⟩,
      ⟨some 14, some (13, true), .fa (.s 1) 1, .none⟩,
      ⟨some 15, some (13, true), .ld (.s 14) 1 false, .none⟩,
      ⟨some 16, some (13, true), .bin .leq (.s 15) (.c (.d (.int .i64 4611686018427387903))), .none⟩,
      ⟨some 17, none, .pick (.s 13) (.s 16) (.c (.d (.bool false))), .none⟩,
      ⟨some 2, none, .mv (.s 17), .none⟩])
  (.ret none)))
def ir41 : F := { n := 18, res := [.tmp 2], body := bd41 }
@[go_sem] theorem n41 : ir41.n = 18 := rfl
@[go_sem] theorem r41 : ir41.res = [.tmp 2] := rfl
@[go_sem] theorem b41 : ir41.body = bd41 := rfl
def lb42_0 : C :=
  (.block 1 (.seq (.seq (.reg [⟨some 8, none, .mv (.s 0), .none⟩,
        ⟨some 9, none, .mv (.s 0), .none⟩,
        ⟨some 10, none, .nc (.s 9), .none⟩,
        ⟨some 11, none, .fa (.s 10) 1, .none⟩,
        ⟨some 12, none, .ld (.s 11) 1 false, .none⟩,
        ⟨some 13, none, .bin .add (.c (.d (.str [45, 45]))) (.s 12), .none⟩,
        ⟨some 14, none, .call 70 [.s 8, .s 13] 0, .none⟩,
        ⟨some 5, none, .mv (.s 14), .none⟩])
    (.seq (.reg [⟨some 15, none, .mv (.s 5), .none⟩,
        ⟨some 16, none, .isn true 4 (.s 15), .none⟩])
    (.cond (.s 16)
     (.seq (.reg [⟨some 17, none, .mv (.s 5), .none⟩,
         ⟨some 2, none, .mv (.c (.d .nils)), .one 3 true⟩,
         ⟨some 3, none, .mv (.s 17), .none⟩])
     (.ret (some [2, 3])))
     .skip)))
   (.seq (.seq (.reg [⟨some 18, none, .mv (.s 0), .none⟩,
        ⟨some 19, none, .nc (.s 18), .none⟩,
        ⟨some 20, none, .fa (.s 19) 0, .none⟩,
        ⟨some 21, none, .ld (.s 20) 1 false, .none⟩,
        ⟨some 22, none, .bsl 5 1 2 [.int .u8 0] [(0, (1, .c (.d (.int .u8 45)))), (1, (1, .c (.d (.int .u8 45))))], .none⟩,
        ⟨some 23, none, .cvl (.s 22), .none⟩,
        ⟨some 24, none, .call 71 [.s 21, .s 23] 0, .none⟩])
    (.cond (.s 24)
     (.seq (.reg [⟨some 25, none, .mv (.s 4), .none⟩,
         ⟨some 26, none, .mv (.s 0), .none⟩,
         ⟨some 27, none, .call 70 [.s 26, .c (.d (.str [45, 45, 13, 10]))] 0, .none⟩,
         ⟨some 2, none, .mv (.s 25), .none⟩,
         ⟨some 3, none, .mv (.s 27), .none⟩])
     (.ret (some [2, 3])))
     .skip))
   (.seq (.reg [⟨some 29, none, .mv (.s 0), .none⟩,
       ⟨some 30, none, .call 72 [.s 29] 0, .none⟩,
       ⟨some 28, none, .mv (.s 30), .none⟩,
       ⟨some 31, none, .ext (.s 28) 0, .none⟩,
       ⟨some 32, none, .ext (.s 28) 1, .none⟩,
       ⟨some 6, none, .alloc 54 [.int .i64 0, .int .i64 0, .nils], .cells [(2, 1, false)]⟩,
       ⟨none, none, .st (.s 6) (.s 31) 3, .none⟩,
       ⟨some 7, none, .mv (.s 32), .none⟩])
   (.seq (.seq (.reg [⟨some 33, none, .mv (.s 7), .none⟩,
        ⟨some 34, none, .isn true 4 (.s 33), .none⟩])
    (.cond (.s 34)
     (.seq (.reg [⟨some 35, none, .mv (.s 7), .none⟩,
         ⟨some 2, none, .mv (.c (.d .nils)), .one 3 true⟩,
         ⟨some 3, none, .mv (.s 35), .none⟩])
     (.ret (some [2, 3])))
     .skip))
   (.reg [⟨some 36, none, .mv (.s 4), .none⟩,
      ⟨some 37, none, .ld (.s 6) 3 true, .none⟩,
      ⟨some 38, none, .bsl 54 3 1 [.int .i64 0, .int .i64 0, .nils] [(0, (3, .s 37))], .none⟩,
      ⟨some 39, none, .app 54 3 40 (.s 36) (.s 38), .none⟩,
      ⟨some 4, none, .mv (.s 39), .none⟩]))))))
def lp42_0 : C := lb42_0
theorem u42_0 (c : Ev.Callee) (l : Ev.Looper) (s : St) : evC c l lp42_0 s = evC c l lb42_0 s := rfl
abbrev st42_0 (m : Nat) (s0 s4 : AV) (h : Heap) : St := ⟨m, [s0, .unk, .unk, .unk, s4, .unk, .unk, .unk, .unk, .unk, .unk, .unk, .unk, .unk, .unk, .unk, .unk, .unk, .unk, .unk, .unk, .unk, .unk, .unk, .unk, .unk, .unk, .unk, .unk, .unk, .unk, .unk, .unk, .unk, .unk, .unk, .unk, .unk, .unk, .unk], h⟩
@[go_sem] theorem ks42_0 (v0 v1 v2 v3 v4 v5 v6 v7 v8 v9 v10 v11 v12 v13 v14 v15 v16 v17 v18 v19 v20 v21 v22 v23 v24 v25 v26 v27 v28 v29 v30 v31 v32 v33 v34 v35 v36 v37 v38 v39 : AV) : keepS [0, 4] [v0, v1, v2, v3, v4, v5, v6, v7, v8, v9, v10, v11, v12, v13, v14, v15, v16, v17, v18, v19, v20, v21, v22, v23, v24, v25, v26, v27, v28, v29, v30, v31, v32, v33, v34, v35, v36, v37, v38, v39] 0 = [v0, .unk, .unk, .unk, v4, .unk, .unk, .unk, .unk, .unk, .unk, .unk, .unk, .unk, .unk, .unk, .unk, .unk, .unk, .unk, .unk, .unk, .unk, .unk, .unk, .unk, .unk, .unk, .unk, .unk, .unk, .unk, .unk, .unk, .unk, .unk, .unk, .unk, .unk, .unk] := rfl
@[go_sem] theorem ks42_1 (v0 v1 v2 v3 v4 v5 v6 v7 v8 v9 v10 v11 v12 v13 v14 v15 v16 v17 v18 v19 v20 v21 v22 v23 v24 v25 v26 v27 v28 v29 v30 v31 v32 v33 v34 v35 v36 v37 v38 v39 : AV) : keepS [2, 3] [v0, v1, v2, v3, v4, v5, v6, v7, v8, v9, v10, v11, v12, v13, v14, v15, v16, v17, v18, v19, v20, v21, v22, v23, v24, v25, v26, v27, v28, v29, v30, v31, v32, v33, v34, v35, v36, v37, v38, v39] 0 = [.unk, .unk, v2, v3, .unk, .unk, .unk, .unk, .unk, .unk, .unk, .unk, .unk, .unk, .unk, .unk, .unk, .unk, .unk, .unk, .unk, .unk, .unk, .unk, .unk, .unk, .unk, .unk, .unk, .unk, .unk, .unk, .unk, .unk, .unk, .unk, .unk, .unk, .unk, .unk] := rfl
/-- (*spence/multi.reader).parts -/
def bd42 : C :=
  (.seq (.reg [⟨some 2, none, .mv (.c (.d .nils)), .one 3 true⟩,
      ⟨some 3, none, .mv (.c (.d .nili)), .none⟩])
  (.seq (.reg [⟨some 4, none, .mv (.c (.d .nils)), .one 3 true⟩])
  (.block 0 (.loop [0, 4] lp42_0))))
def ir42 : F := { n := 40, res := [.tmp 2, .tmp 3], body := bd42 }
@[go_sem] theorem n42 : ir42.n = 40 := rfl
@[go_sem] theorem r42 : ir42.res = [.tmp 2, .tmp 3] := rfl
@[go_sem] theorem b42 : ir42.body = bd42 := rfl
/-- bytes.Equal -/
def bd44 : C :=
  (.seq (.reg [⟨some 4, none, .mv (.c (.d (.bool false))), .none⟩])
  (.seq (.reg [⟨some 5, none, .mv (.s 0), .none⟩,
      ⟨some 6, none, .b2s (.s 5), .none⟩,
      ⟨some 7, none, .mv (.s 1), .none⟩,
      ⟨some 8, none, .b2s (.s 7), .none⟩,
      ⟨some 9, none, .bin .eql (.s 6) (.s 8), .none⟩,
      ⟨some 4, none, .mv (.s 9), .none⟩])
  (.ret none)))
def ir44 : F := { n := 10, res := [.tmp 4], body := bd44 }
@[go_sem] theorem n44 : ir44.n = 10 := rfl
@[go_sem] theorem r44 : ir44.res = [.tmp 4] := rfl
@[go_sem] theorem b44 : ir44.body = bd44 := rfl
/-- spence/spenceref01.Digit -/
def bd45 : C :=
  (.seq (.reg [⟨some 2, none, .mv (.c (.d (.bool false))), .none⟩])
  (.seq (.reg [⟨some 3, none, .mv (.s 0), .none⟩,
      ⟨some 4, none, .bin .geq (.s 3) (.c (.d (.int .u8 48))), .none⟩,
      ⟨some 5, none, .mv (.s 4), .none⟩,
      ⟨some 6, some (5, true), .mv (.s 0), .none⟩,
      ⟨some 7, some (5, true), .bin .leq (.s 6) (.c (.d (.int .u8 57))), .none⟩,
      ⟨some 8, none, .pick (.s 5) (.s 7) (.c (.d (.bool false))), .none⟩,
      ⟨some 2, none, .mv (.s 8), .none⟩])
  (.ret none)))
def ir45 : F := { n := 9, res := [.tmp 2], body := bd45 }
@[go_sem] theorem n45 : ir45.n = 9 := rfl
@[go_sem] theorem r45 : ir45.res = [.tmp 2] := rfl
@[go_sem] theorem b45 : ir45.body = bd45 := rfl
/-- spence/answer.single -/
def bd46 : C :=
  (.seq (.reg [⟨some 1, none, .box 47 (.s 0), .none⟩,
      ⟨some 2, none, .mv (.c (.d .nils)), .one 3 true⟩,
      ⟨some 3, none, .mv (.c (.d (.int .i64 0))), .none⟩,
      ⟨some 4, none, .mv (.c (.d (.int .i64 0))), .none⟩])
  (.seq (.reg [⟨some 8, none, .fa (.s 1) 2, .none⟩,
      ⟨some 9, none, .ld (.s 8) 1 false, .none⟩,
      ⟨some 10, none, .call 74 [.s 9] 2, .none⟩,
      ⟨some 7, none, .mv (.s 10), .none⟩,
      ⟨some 11, none, .ext (.s 7) 0, .none⟩,
      ⟨some 12, none, .ext (.s 7) 1, .none⟩,
      ⟨some 5, none, .alloc 88 [.bool false, .int .i64 0, .int .i64 0, .int .i64 0], .none⟩,
      ⟨none, none, .st (.s 5) (.s 11) 4, .none⟩,
      ⟨some 6, none, .mv (.s 12), .none⟩])
  (.seq (.seq (.drw [⟨some 13, none, .mv (.s 6), .none⟩,
       ⟨some 14, none, .bin .neq (.s 13) (.c (.d (.int .i64 0))), .none⟩,
       ⟨some 15, none, .mv (.s 14), .none⟩,
       ⟨some 16, some (15, false), .fa (.s 5) 0, .none⟩,
       ⟨some 17, some (15, false), .ld (.s 16) 1 false, .none⟩,
       ⟨some 18, some (15, false), .un .not (.s 17), .none⟩,
       ⟨some 19, none, .pick (.s 15) (.c (.d (.bool true))) (.s 18), .none⟩,
       ⟨some 20, none, .mv (.s 19), .none⟩,
       ⟨some 21, some (20, false), .fa (.s 5) 3, .none⟩,
       ⟨some 22, some (20, false), .ld (.s 21) 1 false, .none⟩,
       ⟨some 23, some (20, false), .bin .lss (.s 22) (.c (.d (.int .i64 0))), .none⟩,
       ⟨some 24, none, .pick (.s 20) (.c (.d (.bool true))) (.s 23), .none⟩,
       ⟨some 25, none, .mv (.s 24), .none⟩,
       ⟨some 26, some (25, false), .fa (.s 1) 3, .none⟩,
       ⟨some 27, some (25, false), .ld (.s 26) 1 false, .none⟩,
       ⟨some 28, some (25, false), .len (.s 27), .none⟩,
       ⟨some 29, some (25, false), .fa (.s 5) 1, .none⟩,
       ⟨some 30, some (25, false), .ld (.s 29) 2 true, .none⟩,
       ⟨some 31, some (25, false), .call 40 [.s 30] 2, .none⟩,
       ⟨some 32, some (25, false), .bin .neq (.s 28) (.s 31), .none⟩,
       ⟨some 33, none, .pick (.s 25) (.c (.d (.bool true))) (.s 32), .none⟩]
      [[], [0], [1], [2], [3, 2], [4, 2], [2, 5], [6, 2], [7], [8, 7], [9, 7], [7, 10], [11, 7], [12], [13, 12], [14, 12], [12], [16, 12], [17, 12, 12], [15, 18, 12], [12, 19]] [])
   (.cond (.s 33)
    (.seq (.reg [⟨some 2, none, .mv (.c (.d .nils)), .one 3 true⟩,
        ⟨some 3, none, .mv (.c (.d (.int .i64 0))), .none⟩,
        ⟨some 4, none, .mv (.c (.d (.int .i64 3))), .none⟩])
    (.ret none))
    .skip))
  (.seq (.drw [⟨some 34, none, .fa (.s 5) 1, .none⟩,
      ⟨some 35, none, .ld (.s 34) 2 true, .none⟩,
      ⟨some 36, none, .fa (.s 1) 3, .none⟩,
      ⟨some 37, none, .ld (.s 36) 1 false, .none⟩,
      ⟨some 38, none, .call 47 [.s 37] 2, .none⟩,
      ⟨some 39, none, .build [.int .i64 0, .int .i64 0, .nils] [(0, (2, .s 35)), (2, (1, .s 38))], .cells [(2, 1, false)]⟩,
      ⟨some 40, none, .bsl 54 3 1 [.int .i64 0, .int .i64 0, .nils] [(0, (3, .s 39))], .dat⟩,
      ⟨some 41, none, .fa (.s 5) 3, .none⟩,
      ⟨some 42, none, .ld (.s 41) 1 false, .none⟩,
      ⟨some 2, none, .mv (.s 40), .none⟩,
      ⟨some 3, none, .mv (.s 42), .none⟩,
      ⟨some 4, none, .mv (.c (.d (.int .i64 0))), .none⟩]
     [[], [0], [], [2], [3], [1, 4], [5], [], [7], [6, 4, 0, 1, 2, 3, 4, 5, 6], [8, 9, 0, 1, 2, 3, 4, 5, 6, 7, 8, 9], [10, 0, 1, 2, 3, 4, 5, 6, 7, 8, 9, 10]] [])
  (.ret none)))))
def ir46 : F := { n := 43, res := [.tmp 2, .tmp 3, .tmp 4], body := bd46 }
@[go_sem] theorem n46 : ir46.n = 43 := rfl
@[go_sem] theorem r46 : ir46.res = [.tmp 2, .tmp 3, .tmp 4] := rfl
@[go_sem] theorem b46 : ir46.body = bd46 := rfl
def lb48_0 : C :=
  (.seq (.seq (.reg [⟨some 14, none, .mv (.s 6), .none⟩,
       ⟨some 15, none, .mv (.s 0), .none⟩,
       ⟨some 16, none, .len (.s 15), .none⟩,
       ⟨some 17, none, .bin .lss (.s 14) (.s 16), .none⟩])
   (.cond (.s 17)
    .skip
    (.exit 0 (some [4, 5]))))
  (.seq (.block 1 (.seq (.drw [⟨some 20, none, .mv (.s 1), .none⟩,
        ⟨some 21, none, .mv (.s 0), .none⟩,
        ⟨some 22, none, .mv (.s 6), .none⟩,
        ⟨some 23, none, .is (.s 21) (.s 22) 11, .none⟩,
        ⟨some 24, none, .ld (.s 23) 11 true, .none⟩,
        ⟨some 25, none, .ld (.s 5) 11 true, .none⟩,
        ⟨some 26, none, .callv (.s 20) [.s 24, .s 25] 2, .none⟩,
        ⟨some 27, none, .bin .gtr (.s 26) (.c (.d (.int .i64 0))), .none⟩]
       [[], [], [], [1, 2], [3], [], [0, 4, 5], [6]] [])
    (.cond (.s 27)
     (.reg [⟨some 28, none, .mv (.s 0), .none⟩,
        ⟨some 29, none, .mv (.s 6), .none⟩,
        ⟨some 30, none, .is (.s 28) (.s 29) 11, .none⟩,
        ⟨some 31, none, .ld (.s 30) 11 true, .none⟩,
        ⟨none, none, .st (.s 5) (.s 31) 11, .none⟩])
     .skip)))
  (.reg [⟨some 18, none, .mv (.s 6), .none⟩,
     ⟨some 19, none, .bin .add (.s 18) (.c (.d (.int .i64 1))), .none⟩,
     ⟨some 6, none, .mv (.s 19), .none⟩])))
def lp48_0 : C := lb48_0
theorem u48_0 (c : Ev.Callee) (l : Ev.Looper) (s : St) : evC c l lp48_0 s = evC c l lb48_0 s := rfl
abbrev st48_0 (m : Nat) (s0 s1 s4 s5 s6 : AV) (h : Heap) : St := ⟨m, [s0, s1, .unk, .unk, s4, s5, s6, .unk, .unk, .unk, .unk, .unk, .unk, .unk, .unk, .unk, .unk, .unk, .unk, .unk, .unk, .unk, .unk, .unk, .unk, .unk, .unk, .unk, .unk, .unk, .unk, .unk, .unk], h⟩
@[go_sem] theorem ks48_0 (v0 v1 v2 v3 v4 v5 v6 v7 v8 v9 v10 v11 v12 v13 v14 v15 v16 v17 v18 v19 v20 v21 v22 v23 v24 v25 v26 v27 v28 v29 v30 v31 v32 : AV) : keepS [0, 1, 4] [v0, v1, v2, v3, v4, v5, v6, v7, v8, v9, v10, v11, v12, v13, v14, v15, v16, v17, v18, v19, v20, v21, v22, v23, v24, v25, v26, v27, v28, v29, v30, v31, v32] 0 = [v0, v1, .unk, .unk, v4, .unk, .unk, .unk, .unk, .unk, .unk, .unk, .unk, .unk, .unk, .unk, .unk, .unk, .unk, .unk, .unk, .unk, .unk, .unk, .unk, .unk, .unk, .unk, .unk, .unk, .unk, .unk, .unk] := rfl
@[go_sem] theorem ks48_1 (v0 v1 v2 v3 v4 v5 v6 v7 v8 v9 v10 v11 v12 v13 v14 v15 v16 v17 v18 v19 v20 v21 v22 v23 v24 v25 v26 v27 v28 v29 v30 v31 v32 : AV) : keepS [0, 1, 4, 5, 6] [v0, v1, v2, v3, v4, v5, v6, v7, v8, v9, v10, v11, v12, v13, v14, v15, v16, v17, v18, v19, v20, v21, v22, v23, v24, v25, v26, v27, v28, v29, v30, v31, v32] 0 = [v0, v1, .unk, .unk, v4, v5, v6, .unk, .unk, .unk, .unk, .unk, .unk, .unk, .unk, .unk, .unk, .unk, .unk, .unk, .unk, .unk, .unk, .unk, .unk, .unk, .unk, .unk, .unk, .unk, .unk, .unk, .unk] := rfl
@[go_sem] theorem ks48_2 (v0 v1 v2 v3 v4 v5 v6 v7 v8 v9 v10 v11 v12 v13 v14 v15 v16 v17 v18 v19 v20 v21 v22 v23 v24 v25 v26 v27 v28 v29 v30 v31 v32 : AV) : keepS [4, 5] [v0, v1, v2, v3, v4, v5, v6, v7, v8, v9, v10, v11, v12, v13, v14, v15, v16, v17, v18, v19, v20, v21, v22, v23, v24, v25, v26, v27, v28, v29, v30, v31, v32] 0 = [.unk, .unk, .unk, .unk, v4, v5, .unk, .unk, .unk, .unk, .unk, .unk, .unk, .unk, .unk, .unk, .unk, .unk, .unk, .unk, .unk, .unk, .unk, .unk, .unk, .unk, .unk, .unk, .unk, .unk, .unk, .unk, .unk] := rfl
/-- slices.MaxFunc[[]spence/api.Done,spence/api.Done] -/
def bd48 : C :=
  (.seq (.reg [⟨some 4, none, .alloc 49 [.int .i64 0, .str [], .str [], .int .i64 0, .int .i64 0, .int .i64 0, .int .i64 0, .int .i64 0, .str [], .str [], .nils], .cells [(10, 1, false)]⟩])
  (.seq (.seq (.reg [⟨some 7, none, .mv (.s 0), .none⟩,
       ⟨some 8, none, .len (.s 7), .none⟩,
       ⟨some 9, none, .bin .lss (.s 8) (.c (.d (.int .i64 1))), .none⟩])
   (.cond (.s 9)
    (.reg [⟨some 10, none, .mi 9 (.c (.d (.str [115, 108, 105, 99, 101, 115, 46, 77, 97, 120, 70, 117, 110, 99, 58, 32, 101, 109, 112, 116, 121, 32, 108, 105, 115, 116]))), .none⟩,
       ⟨none, none, .bad, .none⟩])
    .skip))
  (.ann [0, 1, 4] (.seq (.reg [⟨some 11, none, .mv (.s 0), .none⟩,
      ⟨some 12, none, .is (.s 11) (.c (.d (.int .i64 0))) 11, .none⟩,
      ⟨some 13, none, .ld (.s 12) 11 true, .none⟩,
      ⟨some 5, none, .alloc 49 [.int .i64 0, .str [], .str [], .int .i64 0, .int .i64 0, .int .i64 0, .int .i64 0, .int .i64 0, .str [], .str [], .nils], .cells [(10, 1, false)]⟩,
      ⟨none, none, .st (.s 5) (.s 13) 11, .none⟩])
  (.seq (.seq (.reg [⟨some 6, none, .mv (.c (.d (.int .i64 1))), .none⟩])
   (.block 0 (.loop [0, 1, 4, 5, 6] lp48_0)))
  (.seq (.reg [⟨some 32, none, .ld (.s 5) 11 true, .none⟩,
      ⟨none, none, .st (.s 4) (.s 32) 11, .none⟩])
  (.ret none)))))))
def ir48 : F := { n := 33, res := [.cell 4 11 true], body := bd48 }
@[go_sem] theorem n48 : ir48.n = 33 := rfl
@[go_sem] theorem r48 : ir48.res = [.cell 4 11 true] := rfl
@[go_sem] theorem b48 : ir48.body = bd48 := rfl
/-- spence/stat.Slowest$1 -/
def bd49 : C :=
  (.seq (.reg [⟨some 2, none, .box 49 (.s 0), .none⟩,
      ⟨some 3, none, .box 49 (.s 1), .none⟩,
      ⟨some 4, none, .mv (.c (.d (.int .i64 0))), .none⟩])
  (.seq (.reg [⟨some 5, none, .fa (.s 2) 4, .none⟩,
      ⟨some 6, none, .ld (.s 5) 1 false, .none⟩,
      ⟨some 7, none, .fa (.s 2) 3, .none⟩,
      ⟨some 8, none, .ld (.s 7) 1 false, .none⟩,
      ⟨some 9, none, .bin .sub (.s 6) (.s 8), .none⟩,
      ⟨some 10, none, .fa (.s 3) 4, .none⟩,
      ⟨some 11, none, .ld (.s 10) 1 false, .none⟩,
      ⟨some 12, none, .fa (.s 3) 3, .none⟩,
      ⟨some 13, none, .ld (.s 12) 1 false, .none⟩,
      ⟨some 14, none, .bin .sub (.s 11) (.s 13), .none⟩,
      ⟨some 15, none, .bin .sub (.s 9) (.s 14), .none⟩,
      ⟨some 4, none, .mv (.s 15), .none⟩])
  (.ret none)))
def ir49 : F := { n := 16, res := [.tmp 4], body := bd49 }
@[go_sem] theorem n49 : ir49.n = 16 := rfl
@[go_sem] theorem r49 : ir49.res = [.tmp 4] := rfl
@[go_sem] theorem b49 : ir49.body = bd49 := rfl
def lb50_0 : C :=
  (.seq (.reg [⟨some 26, none, .bin .lss (.s 25) (.s 24), .none⟩])
  (.seq (.cond (.s 26)
    .skip
    (.exit 0 (some [1, 2, 3])))
  (.seq (.block 1 (.seq (.reg [⟨some 27, none, .is (.s 23) (.s 25) 3, .none⟩,
        ⟨some 28, none, .ld (.s 27) 3 true, .none⟩,
        ⟨some 8, none, .alloc 54 [.int .i64 0, .int .i64 0, .nils], .cells [(2, 1, false)]⟩,
        ⟨none, none, .st (.s 8) (.s 28) 3, .none⟩])
    (.reg [⟨some 29, none, .fa (.s 3) 4, .none⟩,
       ⟨some 30, none, .ld (.s 29) 1 false, .none⟩,
       ⟨some 31, none, .fa (.s 8) 2, .none⟩,
       ⟨some 32, none, .ld (.s 31) 1 false, .none⟩,
       ⟨some 33, none, .len (.s 32), .none⟩,
       ⟨some 34, none, .bin .add (.s 30) (.s 33), .none⟩,
       ⟨some 35, none, .fa (.s 3) 4, .none⟩,
       ⟨none, none, .st (.s 35) (.s 34) 1, .none⟩])))
  (.reg [⟨some 36, none, .bin .add (.s 25) (.c (.d (.int .i64 1))), .none⟩,
     ⟨some 25, none, .mv (.s 36), .none⟩]))))
def lp50_0 : C := lb50_0
theorem u50_0 (c : Ev.Callee) (l : Ev.Looper) (s : St) : evC c l lp50_0 s = evC c l lb50_0 s := rfl
abbrev st50_0 (m : Nat) (s1 s2 s3 s23 s24 s25 : AV) (h : Heap) : St := ⟨m, [.unk, s1, s2, s3, .unk, .unk, .unk, .unk, .unk, .unk, .unk, .unk, .unk, .unk, .unk, .unk, .unk, .unk, .unk, .unk, .unk, .unk, .unk, s23, s24, s25, .unk, .unk, .unk, .unk, .unk, .unk, .unk, .unk, .unk, .unk, .unk, .unk, .unk, .unk, .unk, .unk, .unk, .unk, .unk, .unk, .unk, .unk, .unk, .unk, .unk], h⟩
@[go_sem] theorem ks50_0 (v0 v1 v2 v3 v4 v5 v6 v7 v8 v9 v10 v11 v12 v13 v14 v15 v16 v17 v18 v19 v20 v21 v22 v23 v24 v25 v26 v27 v28 v29 v30 v31 v32 v33 v34 v35 v36 v37 v38 v39 v40 v41 v42 v43 v44 v45 v46 v47 v48 v49 v50 : AV) : keepS [1, 2, 3, 23, 24, 25] [v0, v1, v2, v3, v4, v5, v6, v7, v8, v9, v10, v11, v12, v13, v14, v15, v16, v17, v18, v19, v20, v21, v22, v23, v24, v25, v26, v27, v28, v29, v30, v31, v32, v33, v34, v35, v36, v37, v38, v39, v40, v41, v42, v43, v44, v45, v46, v47, v48, v49, v50] 0 = [.unk, v1, v2, v3, .unk, .unk, .unk, .unk, .unk, .unk, .unk, .unk, .unk, .unk, .unk, .unk, .unk, .unk, .unk, .unk, .unk, .unk, .unk, v23, v24, v25, .unk, .unk, .unk, .unk, .unk, .unk, .unk, .unk, .unk, .unk, .unk, .unk, .unk, .unk, .unk, .unk, .unk, .unk, .unk, .unk, .unk, .unk, .unk, .unk, .unk] := rfl
@[go_sem] theorem ks50_1 (v0 v1 v2 v3 v4 v5 v6 v7 v8 v9 v10 v11 v12 v13 v14 v15 v16 v17 v18 v19 v20 v21 v22 v23 v24 v25 v26 v27 v28 v29 v30 v31 v32 v33 v34 v35 v36 v37 v38 v39 v40 v41 v42 v43 v44 v45 v46 v47 v48 v49 v50 : AV) : keepS [1, 2, 3] [v0, v1, v2, v3, v4, v5, v6, v7, v8, v9, v10, v11, v12, v13, v14, v15, v16, v17, v18, v19, v20, v21, v22, v23, v24, v25, v26, v27, v28, v29, v30, v31, v32, v33, v34, v35, v36, v37, v38, v39, v40, v41, v42, v43, v44, v45, v46, v47, v48, v49, v50] 0 = [.unk, v1, v2, v3, .unk, .unk, .unk, .unk, .unk, .unk, .unk, .unk, .unk, .unk, .unk, .unk, .unk, .unk, .unk, .unk, .unk, .unk, .unk, .unk, .unk, .unk, .unk, .unk, .unk, .unk, .unk, .unk, .unk, .unk, .unk, .unk, .unk, .unk, .unk, .unk, .unk, .unk, .unk, .unk, .unk, .unk, .unk, .unk, .unk, .unk, .unk] := rfl
/-- spence/stat.one -/
def bd50 : C :=
  (.seq (.reg [⟨some 1, none, .box 49 (.s 0), .none⟩,
      ⟨some 2, none, .alloc 43 [.int .i64 0, .int .i64 0, .int .i64 0, .int .i64 0, .int .i64 0, .int .i64 0], .none⟩])
  (.seq (.reg [⟨some 9, none, .fa (.s 1) 4, .none⟩,
      ⟨some 10, none, .ld (.s 9) 1 false, .none⟩,
      ⟨some 11, none, .fa (.s 1) 3, .none⟩,
      ⟨some 12, none, .ld (.s 11) 1 false, .none⟩,
      ⟨some 13, none, .bin .sub (.s 10) (.s 12), .none⟩,
      ⟨some 14, none, .mx (.s 13) (.c (.d (.int .i64 0))), .none⟩,
      ⟨some 15, none, .build [.int .i64 0, .int .i64 0, .int .i64 0, .int .i64 0, .int .i64 0, .int .i64 0] [(5, (1, .s 14))], .none⟩,
      ⟨some 3, none, .alloc 43 [.int .i64 0, .int .i64 0, .int .i64 0, .int .i64 0, .int .i64 0, .int .i64 0], .none⟩,
      ⟨none, none, .st (.s 3) (.s 15) 6, .none⟩])
  (.seq (.reg [⟨some 17, none, .fa (.s 1) 7, .none⟩,
      ⟨some 18, none, .ld (.s 17) 4 true, .none⟩,
      ⟨some 19, none, .call 22 [.s 18] 2, .none⟩,
      ⟨some 16, none, .mv (.s 19), .none⟩,
      ⟨some 20, none, .ext (.s 16) 0, .none⟩,
      ⟨some 21, none, .ext (.s 16) 1, .none⟩,
      ⟨some 22, none, .ext (.s 16) 2, .none⟩,
      ⟨some 4, none, .mv (.s 20), .none⟩,
      ⟨some 5, none, .mv (.s 21), .none⟩,
      ⟨some 6, none, .mv (.s 22), .none⟩])
  (.seq (.seq (.reg [⟨some 23, none, .mv (.s 4), .none⟩,
       ⟨some 24, none, .len (.s 23), .none⟩,
       ⟨some 25, none, .mv (.c (.d (.int .i64 0))), .none⟩])
   (.block 0 (.loop [1, 2, 3, 23, 24, 25] lp50_0)))
  (.seq (.seq (.reg [⟨some 37, none, .fa (.s 1) 7, .none⟩,
       ⟨some 38, none, .fa (.s 37) 0, .none⟩,
       ⟨some 39, none, .ld (.s 38) 1 false, .none⟩])
   (.block 2 (.seq (.reg [⟨some 42, none, .bin .eql (.s 39) (.c (.d (.int .i64 200))), .none⟩,
        ⟨some 41, none, .mv (.s 42), .none⟩])
    (.cond (.s 41)
     (.reg [⟨some 43, none, .fa (.s 3) 0, .none⟩,
        ⟨none, none, .st (.s 43) (.c (.d (.int .i64 1))) 1, .none⟩])
     (.seq (.reg [⟨some 45, none, .bin .eql (.s 39) (.c (.d (.int .i64 206))), .none⟩,
         ⟨some 44, none, .mv (.s 45), .none⟩])
     (.cond (.s 44)
      (.reg [⟨some 46, none, .fa (.s 3) 1, .none⟩,
         ⟨none, none, .st (.s 46) (.c (.d (.int .i64 1))) 1, .none⟩])
      (.seq (.reg [⟨some 48, none, .bin .eql (.s 39) (.c (.d (.int .i64 416))), .none⟩,
          ⟨some 47, none, .mv (.s 48), .none⟩])
      (.cond (.s 47)
       (.reg [⟨some 49, none, .fa (.s 3) 2, .none⟩,
          ⟨none, none, .st (.s 49) (.c (.d (.int .i64 1))) 1, .none⟩])
       (.reg [⟨some 40, none, .fa (.s 3) 3, .none⟩,
          ⟨none, none, .st (.s 40) (.c (.d (.int .i64 1))) 1, .none⟩])))))))))
  (.seq (.reg [⟨some 50, none, .ld (.s 3) 6 true, .none⟩,
      ⟨none, none, .st (.s 2) (.s 50) 6, .none⟩])
  (.ret none)))))))
def ir50 : F := { n := 51, res := [.cell 2 6 true], body := bd50 }
@[go_sem] theorem n50 : ir50.n = 51 := rfl
@[go_sem] theorem r50 : ir50.res = [.cell 2 6 true] := rfl
@[go_sem] theorem b50 : ir50.body = bd50 := rfl
def lb57_0 : C :=
  (.seq (.seq (.reg [⟨some 8, none, .mv (.s 7), .none⟩,
       ⟨some 9, none, .mv (.s 0), .none⟩,
       ⟨some 10, none, .lens (.s 9), .none⟩,
       ⟨some 11, none, .bin .lss (.s 8) (.s 10), .none⟩])
   (.cond (.s 11)
    .skip
    (.exit 0 (some [0]))))
  (.seq (.block 1 (.seq (.reg [⟨some 14, none, .mv (.s 0), .none⟩,
        ⟨some 15, none, .mv (.s 7), .none⟩,
        ⟨some 16, none, .sti (.s 14) (.s 15), .none⟩,
        ⟨some 17, none, .mv (.s 1), .none⟩,
        ⟨some 18, none, .bin .eql (.s 16) (.s 17), .none⟩])
    (.cond (.s 18)
     (.seq (.drw [⟨some 19, none, .mv (.s 0), .none⟩,
         ⟨some 20, none, .mv (.s 7), .none⟩,
         ⟨some 21, none, .ssl (.s 19) none (some (.s 20)), .none⟩,
         ⟨some 22, none, .mv (.s 0), .none⟩,
         ⟨some 23, none, .mv (.s 7), .none⟩,
         ⟨some 24, none, .bin .add (.s 23) (.c (.d (.int .i64 1))), .none⟩,
         ⟨some 25, none, .ssl (.s 22) (some (.s 24)) none, .none⟩,
         ⟨some 4, none, .mv (.s 21), .none⟩,
         ⟨some 5, none, .mv (.s 25), .none⟩,
         ⟨some 6, none, .mv (.c (.d (.bool true))), .none⟩]
        [[], [], [0, 1], [], [], [4], [3, 5], [2, 0, 1, 2], [6, 7, 0, 1, 2, 3, 4, 5, 6, 7], [8, 0, 1, 2, 3, 4, 5, 6, 7, 8]] [])
     (.ret (some [4, 5, 6])))
     .skip)))
  (.reg [⟨some 12, none, .mv (.s 7), .none⟩,
     ⟨some 13, none, .bin .add (.s 12) (.c (.d (.int .i64 1))), .none⟩,
     ⟨some 7, none, .mv (.s 13), .none⟩])))
def lp57_0 : C := lb57_0
theorem u57_0 (c : Ev.Callee) (l : Ev.Looper) (s : St) : evC c l lp57_0 s = evC c l lb57_0 s := rfl
abbrev st57_0 (m : Nat) (s0 s1 s7 : AV) (h : Heap) : St := ⟨m, [s0, s1, .unk, .unk, .unk, .unk, .unk, s7, .unk, .unk, .unk, .unk, .unk, .unk, .unk, .unk, .unk, .unk, .unk, .unk, .unk, .unk, .unk, .unk, .unk, .unk, .unk], h⟩
@[go_sem] theorem ks57_0 (v0 v1 v2 v3 v4 v5 v6 v7 v8 v9 v10 v11 v12 v13 v14 v15 v16 v17 v18 v19 v20 v21 v22 v23 v24 v25 v26 : AV) : keepS [0, 1, 7] [v0, v1, v2, v3, v4, v5, v6, v7, v8, v9, v10, v11, v12, v13, v14, v15, v16, v17, v18, v19, v20, v21, v22, v23, v24, v25, v26] 0 = [v0, v1, .unk, .unk, .unk, .unk, .unk, v7, .unk, .unk, .unk, .unk, .unk, .unk, .unk, .unk, .unk, .unk, .unk, .unk, .unk, .unk, .unk, .unk, .unk, .unk, .unk] := rfl
@[go_sem] theorem ks57_1 (v0 v1 v2 v3 v4 v5 v6 v7 v8 v9 v10 v11 v12 v13 v14 v15 v16 v17 v18 v19 v20 v21 v22 v23 v24 v25 v26 : AV) : keepS [0] [v0, v1, v2, v3, v4, v5, v6, v7, v8, v9, v10, v11, v12, v13, v14, v15, v16, v17, v18, v19, v20, v21, v22, v23, v24, v25, v26] 0 = [v0, .unk, .unk, .unk, .unk, .unk, .unk, .unk, .unk, .unk, .unk, .unk, .unk, .unk, .unk, .unk, .unk, .unk, .unk, .unk, .unk, .unk, .unk, .unk, .unk, .unk, .unk] := rfl
@[go_sem] theorem ks57_2 (v0 v1 v2 v3 v4 v5 v6 v7 v8 v9 v10 v11 v12 v13 v14 v15 v16 v17 v18 v19 v20 v21 v22 v23 v24 v25 v26 : AV) : keepS [4, 5, 6] [v0, v1, v2, v3, v4, v5, v6, v7, v8, v9, v10, v11, v12, v13, v14, v15, v16, v17, v18, v19, v20, v21, v22, v23, v24, v25, v26] 0 = [.unk, .unk, .unk, .unk, v4, v5, v6, .unk, .unk, .unk, .unk, .unk, .unk, .unk, .unk, .unk, .unk, .unk, .unk, .unk, .unk, .unk, .unk, .unk, .unk, .unk, .unk] := rfl
/-- spence/spenceref01.Cut -/
def bd57 : C :=
  (.seq (.reg [⟨some 4, none, .mv (.c (.d (.str []))), .none⟩,
      ⟨some 5, none, .mv (.c (.d (.str []))), .none⟩,
      ⟨some 6, none, .mv (.c (.d (.bool false))), .none⟩])
  (.seq (.seq (.reg [⟨some 7, none, .mv (.c (.d (.int .i64 0))), .none⟩])
   (.block 0 (.loop [0, 1, 7] lp57_0)))
  (.seq (.reg [⟨some 26, none, .mv (.s 0), .none⟩,
      ⟨some 4, none, .mv (.s 26), .none⟩,
      ⟨some 5, none, .mv (.c (.d (.str []))), .none⟩,
      ⟨some 6, none, .mv (.c (.d (.bool false))), .none⟩])
  (.ret none))))
def ir57 : F := { n := 27, res := [.tmp 4, .tmp 5, .tmp 6], body := bd57 }
@[go_sem] theorem n57 : ir57.n = 27 := rfl
@[go_sem] theorem r57 : ir57.res = [.tmp 4, .tmp 5, .tmp 6] := rfl
@[go_sem] theorem b57 : ir57.body = bd57 := rfl
def lb58_1 : C :=
  (.seq (.seq (.reg [⟨some 21, none, .mv (.s 1), .none⟩,
       ⟨some 22, none, .un .not (.s 21), .none⟩,
       ⟨some 23, none, .mv (.s 22), .none⟩,
       ⟨some 24, some (23, true), .mv (.s 0), .none⟩,
       ⟨some 25, some (23, true), .lens (.s 24), .none⟩,
       ⟨some 26, some (23, true), .bin .gtr (.s 25) (.c (.d (.int .i64 0))), .none⟩,
       ⟨some 27, none, .pick (.s 23) (.s 26) (.c (.d (.bool false))), .none⟩,
       ⟨some 28, none, .mv (.s 27), .none⟩,
       ⟨some 29, some (28, true), .mv (.s 0), .none⟩,
       ⟨some 30, some (28, true), .sti (.s 29) (.c (.d (.int .i64 0))), .none⟩,
       ⟨some 31, some (28, true), .call 90 [.s 30] 2, .none⟩,
       ⟨some 32, none, .pick (.s 28) (.s 31) (.c (.d (.bool false))), .none⟩])
   (.cond (.s 32)
    .skip
    (.exit 2 (some [0]))))
  (.block 3 (.reg [⟨some 33, none, .mv (.s 0), .none⟩,
      ⟨some 34, none, .ssl (.s 33) (some (.c (.d (.int .i64 1)))) none, .none⟩,
      ⟨some 0, none, .mv (.s 34), .none⟩])))
def lp58_1 : C := lb58_1
theorem u58_1 (c : Ev.Callee) (l : Ev.Looper) (s : St) : evC c l lp58_1 s = evC c l lb58_1 s := rfl
abbrev st58_1 (m : Nat) (s0 s1 : AV) (h : Heap) : St := ⟨m, [s0, s1, .unk, .unk, .unk, .unk, .unk, .unk, .unk, .unk, .unk, .unk, .unk, .unk, .unk, .unk, .unk, .unk, .unk, .unk, .unk, .unk, .unk, .unk, .unk, .unk, .unk, .unk, .unk, .unk, .unk, .unk, .unk, .unk, .unk, .unk], h⟩
def lb58_0 : C :=
  (.seq (.seq (.reg [⟨some 5, none, .mv (.s 0), .none⟩,
       ⟨some 6, none, .lens (.s 5), .none⟩,
       ⟨some 7, none, .bin .gtr (.s 6) (.c (.d (.int .i64 0))), .none⟩,
       ⟨some 8, none, .mv (.s 7), .none⟩,
       ⟨some 9, some (8, true), .mv (.s 0), .none⟩,
       ⟨some 10, some (8, true), .mv (.s 0), .none⟩,
       ⟨some 11, some (8, true), .lens (.s 10), .none⟩,
       ⟨some 12, some (8, true), .bin .sub (.s 11) (.c (.d (.int .i64 1))), .none⟩,
       ⟨some 13, some (8, true), .sti (.s 9) (.s 12), .none⟩,
       ⟨some 14, some (8, true), .call 90 [.s 13] 2, .none⟩,
       ⟨some 15, none, .pick (.s 8) (.s 14) (.c (.d (.bool false))), .none⟩])
   (.cond (.s 15)
    .skip
    (.exit 0 (some [0, 1]))))
  (.block 1 (.reg [⟨some 16, none, .mv (.s 0), .none⟩,
      ⟨some 17, none, .mv (.s 0), .none⟩,
      ⟨some 18, none, .lens (.s 17), .none⟩,
      ⟨some 19, none, .bin .sub (.s 18) (.c (.d (.int .i64 1))), .none⟩,
      ⟨some 20, none, .ssl (.s 16) none (some (.s 19)), .none⟩,
      ⟨some 0, none, .mv (.s 20), .none⟩])))
def lp58_0 : C := lb58_0
theorem u58_0 (c : Ev.Callee) (l : Ev.Looper) (s : St) : evC c l lp58_0 s = evC c l lb58_0 s := rfl
abbrev st58_0 (m : Nat) (s0 s1 : AV) (h : Heap) : St := ⟨m, [s0, s1, .unk, .unk, .unk, .unk, .unk, .unk, .unk, .unk, .unk, .unk, .unk, .unk, .unk, .unk, .unk, .unk, .unk, .unk, .unk, .unk, .unk, .unk, .unk, .unk, .unk, .unk, .unk, .unk, .unk, .unk, .unk, .unk, .unk, .unk], h⟩
@[go_sem] theorem ks58_0 (v0 v1 v2 v3 v4 v5 v6 v7 v8 v9 v10 v11 v12 v13 v14 v15 v16 v17 v18 v19 v20 v21 v22 v23 v24 v25 v26 v27 v28 v29 v30 v31 v32 v33 v34 v35 : AV) : keepS [0, 1] [v0, v1, v2, v3, v4, v5, v6, v7, v8, v9, v10, v11, v12, v13, v14, v15, v16, v17, v18, v19, v20, v21, v22, v23, v24, v25, v26, v27, v28, v29, v30, v31, v32, v33, v34, v35] 0 = [v0, v1, .unk, .unk, .unk, .unk, .unk, .unk, .unk, .unk, .unk, .unk, .unk, .unk, .unk, .unk, .unk, .unk, .unk, .unk, .unk, .unk, .unk, .unk, .unk, .unk, .unk, .unk, .unk, .unk, .unk, .unk, .unk, .unk, .unk, .unk] := rfl
@[go_sem] theorem ks58_1 (v0 v1 v2 v3 v4 v5 v6 v7 v8 v9 v10 v11 v12 v13 v14 v15 v16 v17 v18 v19 v20 v21 v22 v23 v24 v25 v26 v27 v28 v29 v30 v31 v32 v33 v34 v35 : AV) : keepS [0] [v0, v1, v2, v3, v4, v5, v6, v7, v8, v9, v10, v11, v12, v13, v14, v15, v16, v17, v18, v19, v20, v21, v22, v23, v24, v25, v26, v27, v28, v29, v30, v31, v32, v33, v34, v35] 0 = [v0, .unk, .unk, .unk, .unk, .unk, .unk, .unk, .unk, .unk, .unk, .unk, .unk, .unk, .unk, .unk, .unk, .unk, .unk, .unk, .unk, .unk, .unk, .unk, .unk, .unk, .unk, .unk, .unk, .unk, .unk, .unk, .unk, .unk, .unk, .unk] := rfl
/-- spence/spenceref01.Trim -/
def bd58 : C :=
  (.seq (.reg [⟨some 4, none, .mv (.c (.d (.str []))), .none⟩])
  (.seq (.block 0 (.loop [0, 1] lp58_0))
  (.seq (.block 2 (.loop [0, 1] lp58_1))
  (.seq (.reg [⟨some 35, none, .mv (.s 0), .none⟩,
      ⟨some 4, none, .mv (.s 35), .none⟩])
  (.ret none)))))
def ir58 : F := { n := 36, res := [.tmp 4], body := bd58 }
@[go_sem] theorem n58 : ir58.n = 36 := rfl
@[go_sem] theorem r58 : ir58.res = [.tmp 4] := rfl
@[go_sem] theorem b58 : ir58.body = bd58 := rfl
def lb61_0 : C :=
  (.seq (.seq (.reg [⟨some 6, none, .mv (.s 4), .none⟩,
       ⟨some 7, none, .mv (.s 0), .none⟩,
       ⟨some 8, none, .lens (.s 7), .none⟩,
       ⟨some 9, none, .bin .lss (.s 6) (.s 8), .none⟩])
   (.cond (.s 9)
    .skip
    (.exit 0 (some [3]))))
  (.seq (.block 1 (.seq (.reg [⟨some 12, none, .mv (.s 0), .none⟩,
        ⟨some 13, none, .mv (.s 4), .none⟩,
        ⟨some 14, none, .sti (.s 12) (.s 13), .none⟩,
        ⟨some 5, none, .mv (.s 14), .none⟩])
    (.seq (.seq (.reg [⟨some 15, none, .mv (.s 5), .none⟩,
         ⟨some 16, none, .bin .geq (.s 15) (.c (.d (.int .u8 65))), .none⟩,
         ⟨some 17, none, .mv (.s 16), .none⟩,
         ⟨some 18, some (17, true), .mv (.s 5), .none⟩,
         ⟨some 19, some (17, true), .bin .leq (.s 18) (.c (.d (.int .u8 90))), .none⟩,
         ⟨some 20, none, .pick (.s 17) (.s 19) (.c (.d (.bool false))), .none⟩])
     (.cond (.s 20)
      (.reg [⟨some 21, none, .mv (.s 5), .none⟩,
         ⟨some 22, none, .bin .add (.s 21) (.c (.d (.int .u8 32))), .none⟩,
         ⟨some 5, none, .mv (.s 22), .none⟩])
      .skip))
    (.ann [0, 3, 4, 5] (.reg [⟨some 23, none, .mv (.s 3), .none⟩,
       ⟨some 24, none, .mv (.s 5), .none⟩,
       ⟨some 25, none, .bsl 5 1 1 [.int .u8 0] [(0, (1, .s 24))], .none⟩,
       ⟨some 26, none, .b2s (.s 25), .none⟩,
       ⟨some 27, none, .bin .add (.s 23) (.s 26), .none⟩,
       ⟨some 3, none, .mv (.s 27), .none⟩])))))
  (.reg [⟨some 10, none, .mv (.s 4), .none⟩,
     ⟨some 11, none, .bin .add (.s 10) (.c (.d (.int .i64 1))), .none⟩,
     ⟨some 4, none, .mv (.s 11), .none⟩])))
def lp61_0 : C := lb61_0
theorem u61_0 (c : Ev.Callee) (l : Ev.Looper) (s : St) : evC c l lp61_0 s = evC c l lb61_0 s := rfl
abbrev st61_0 (m : Nat) (s0 s3 s4 : AV) (h : Heap) : St := ⟨m, [s0, .unk, .unk, s3, s4, .unk, .unk, .unk, .unk, .unk, .unk, .unk, .unk, .unk, .unk, .unk, .unk, .unk, .unk, .unk, .unk, .unk, .unk, .unk, .unk, .unk, .unk, .unk, .unk], h⟩
@[go_sem] theorem ks61_0 (v0 v1 v2 v3 v4 v5 v6 v7 v8 v9 v10 v11 v12 v13 v14 v15 v16 v17 v18 v19 v20 v21 v22 v23 v24 v25 v26 v27 v28 : AV) : keepS [0, 3, 4] [v0, v1, v2, v3, v4, v5, v6, v7, v8, v9, v10, v11, v12, v13, v14, v15, v16, v17, v18, v19, v20, v21, v22, v23, v24, v25, v26, v27, v28] 0 = [v0, .unk, .unk, v3, v4, .unk, .unk, .unk, .unk, .unk, .unk, .unk, .unk, .unk, .unk, .unk, .unk, .unk, .unk, .unk, .unk, .unk, .unk, .unk, .unk, .unk, .unk, .unk, .unk] := rfl
@[go_sem] theorem ks61_1 (v0 v1 v2 v3 v4 v5 v6 v7 v8 v9 v10 v11 v12 v13 v14 v15 v16 v17 v18 v19 v20 v21 v22 v23 v24 v25 v26 v27 v28 : AV) : keepS [3] [v0, v1, v2, v3, v4, v5, v6, v7, v8, v9, v10, v11, v12, v13, v14, v15, v16, v17, v18, v19, v20, v21, v22, v23, v24, v25, v26, v27, v28] 0 = [.unk, .unk, .unk, v3, .unk, .unk, .unk, .unk, .unk, .unk, .unk, .unk, .unk, .unk, .unk, .unk, .unk, .unk, .unk, .unk, .unk, .unk, .unk, .unk, .unk, .unk, .unk, .unk, .unk] := rfl
@[go_sem] theorem ks61_2 (v0 v1 v2 v3 v4 v5 v6 v7 v8 v9 v10 v11 v12 v13 v14 v15 v16 v17 v18 v19 v20 v21 v22 v23 v24 v25 v26 v27 v28 : AV) : keepS [0, 3, 4, 5] [v0, v1, v2, v3, v4, v5, v6, v7, v8, v9, v10, v11, v12, v13, v14, v15, v16, v17, v18, v19, v20, v21, v22, v23, v24, v25, v26, v27, v28] 0 = [v0, .unk, .unk, v3, v4, v5, .unk, .unk, .unk, .unk, .unk, .unk, .unk, .unk, .unk, .unk, .unk, .unk, .unk, .unk, .unk, .unk, .unk, .unk, .unk, .unk, .unk, .unk, .unk] := rfl
/-- spence/spenceref01.Lower -/
def bd61 : C :=
  (.seq (.reg [⟨some 2, none, .mv (.c (.d (.str []))), .none⟩])
  (.seq (.reg [⟨some 3, none, .mv (.c (.d (.str []))), .none⟩])
  (.seq (.seq (.reg [⟨some 4, none, .mv (.c (.d (.int .i64 0))), .none⟩])
   (.block 0 (.loop [0, 3, 4] lp61_0)))
  (.seq (.reg [⟨some 28, none, .mv (.s 3), .none⟩,
      ⟨some 2, none, .mv (.s 28), .none⟩])
  (.ret none)))))
def ir61 : F := { n := 29, res := [.tmp 2], body := bd61 }
@[go_sem] theorem n61 : ir61.n = 29 := rfl
@[go_sem] theorem r61 : ir61.res = [.tmp 2] := rfl
@[go_sem] theorem b61 : ir61.body = bd61 := rfl
/-- spence/spenceref01.Print -/
def bd64 : C :=
  (.seq (.reg [⟨some 2, none, .mv (.c (.d (.str []))), .none⟩])
  (.seq (.seq (.reg [⟨some 4, none, .mv (.s 0), .none⟩,
       ⟨some 5, none, .bin .lss (.s 4) (.c (.d (.int .i64 0))), .none⟩])
   (.cond (.s 5)
    (.seq (.reg [⟨some 6, none, .mv (.s 0), .none⟩,
        ⟨some 7, none, .bin .add (.s 6) (.c (.d (.int .i64 1))), .none⟩,
        ⟨some 8, none, .un .neg (.s 7), .none⟩,
        ⟨some 9, none, .cvi .u64 (.s 8), .none⟩,
        ⟨some 10, none, .bin .add (.s 9) (.c (.d (.int .u64 1))), .none⟩,
        ⟨some 3, none, .mv (.s 10), .none⟩])
    (.seq (.reg [⟨some 11, none, .mv (.s 3), .none⟩,
        ⟨some 12, none, .call 93 [.s 11] 2, .none⟩,
        ⟨some 13, none, .bin .add (.c (.d (.str [45]))) (.s 12), .none⟩,
        ⟨some 2, none, .mv (.s 13), .none⟩])
    (.ret none)))
    .skip))
  (.seq (.reg [⟨some 14, none, .mv (.s 0), .none⟩,
      ⟨some 15, none, .cvi .u64 (.s 14), .none⟩,
      ⟨some 16, none, .call 93 [.s 15] 2, .none⟩,
      ⟨some 2, none, .mv (.s 16), .none⟩])
  (.ret none))))
def ir64 : F := { n := 17, res := [.tmp 2], body := bd64 }
@[go_sem] theorem n64 : ir64.n = 17 := rfl
@[go_sem] theorem r64 : ir64.res = [.tmp 2] := rfl
@[go_sem] theorem b64 : ir64.body = bd64 := rfl
def lb65_0 : C :=
  (.seq (.reg [⟨some 7, none, .bin .lss (.s 6) (.s 5), .none⟩])
  (.seq (.cond (.s 7)
    .skip
    (.exit 0 (some [0])))
  (.seq (.block 1 (.seq (.reg [⟨some 8, none, .mv (.s 6), .none⟩,
        ⟨some 3, none, .mv (.s 8), .none⟩])
    (.seq (.reg [⟨some 9, none, .mv (.s 0), .none⟩,
        ⟨some 10, none, .mv (.s 3), .none⟩,
        ⟨some 11, none, .sti (.s 9) (.s 10), .none⟩,
        ⟨some 12, none, .call 94 [.s 11] 2, .none⟩,
        ⟨some 13, none, .un .not (.s 12), .none⟩])
    (.cond (.s 13)
     (.seq (.reg [⟨some 2, none, .mv (.c (.d (.bool false))), .none⟩])
     (.ret (some [2])))
     .skip))))
  (.reg [⟨some 14, none, .bin .add (.s 6) (.c (.d (.int .i64 1))), .none⟩,
     ⟨some 6, none, .mv (.s 14), .none⟩]))))
def lp65_0 : C := lb65_0
theorem u65_0 (c : Ev.Callee) (l : Ev.Looper) (s : St) : evC c l lp65_0 s = evC c l lb65_0 s := rfl
abbrev st65_0 (m : Nat) (s0 s5 s6 : AV) (h : Heap) : St := ⟨m, [s0, .unk, .unk, .unk, .unk, s5, s6, .unk, .unk, .unk, .unk, .unk, .unk, .unk, .unk, .unk, .unk], h⟩
@[go_sem] theorem ks65_0 (v0 v1 v2 v3 v4 v5 v6 v7 v8 v9 v10 v11 v12 v13 v14 v15 v16 : AV) : keepS [0, 5, 6] [v0, v1, v2, v3, v4, v5, v6, v7, v8, v9, v10, v11, v12, v13, v14, v15, v16] 0 = [v0, .unk, .unk, .unk, .unk, v5, v6, .unk, .unk, .unk, .unk, .unk, .unk, .unk, .unk, .unk, .unk] := rfl
@[go_sem] theorem ks65_1 (v0 v1 v2 v3 v4 v5 v6 v7 v8 v9 v10 v11 v12 v13 v14 v15 v16 : AV) : keepS [0] [v0, v1, v2, v3, v4, v5, v6, v7, v8, v9, v10, v11, v12, v13, v14, v15, v16] 0 = [v0, .unk, .unk, .unk, .unk, .unk, .unk, .unk, .unk, .unk, .unk, .unk, .unk, .unk, .unk, .unk, .unk] := rfl
@[go_sem] theorem ks65_2 (v0 v1 v2 v3 v4 v5 v6 v7 v8 v9 v10 v11 v12 v13 v14 v15 v16 : AV) : keepS [2] [v0, v1, v2, v3, v4, v5, v6, v7, v8, v9, v10, v11, v12, v13, v14, v15, v16] 0 = [.unk, .unk, v2, .unk, .unk, .unk, .unk, .unk, .unk, .unk, .unk, .unk, .unk, .unk, .unk, .unk, .unk] := rfl
/-- spence/text.Token -/
def bd65 : C :=
  (.seq (.reg [⟨some 2, none, .mv (.c (.d (.bool false))), .none⟩])
  (.seq (.seq (.reg [⟨some 4, none, .mv (.s 0), .none⟩,
       ⟨some 5, none, .lens (.s 4), .none⟩,
       ⟨some 6, none, .mv (.c (.d (.int .i64 0))), .none⟩])
   (.block 0 (.loop [0, 5, 6] lp65_0)))
  (.seq (.reg [⟨some 15, none, .mv (.s 0), .none⟩,
      ⟨some 16, none, .bin .neq (.s 15) (.c (.d (.str []))), .none⟩,
      ⟨some 2, none, .mv (.s 16), .none⟩])
  (.ret none))))
def ir65 : F := { n := 17, res := [.tmp 2], body := bd65 }
@[go_sem] theorem n65 : ir65.n = 17 := rfl
@[go_sem] theorem r65 : ir65.res = [.tmp 2] := rfl
@[go_sem] theorem b65 : ir65.body = bd65 := rfl
@[go_sem] theorem ks68_0 (v0 v1 v2 v3 v4 v5 v6 v7 v8 v9 v10 v11 v12 v13 v14 v15 v16 v17 v18 v19 v20 v21 v22 v23 v24 v25 v26 v27 v28 v29 v30 v31 v32 v33 v34 : AV) : keepS [1, 3] [v0, v1, v2, v3, v4, v5, v6, v7, v8, v9, v10, v11, v12, v13, v14, v15, v16, v17, v18, v19, v20, v21, v22, v23, v24, v25, v26, v27, v28, v29, v30, v31, v32, v33, v34] 0 = [.unk, v1, .unk, v3, .unk, .unk, .unk, .unk, .unk, .unk, .unk, .unk, .unk, .unk, .unk, .unk, .unk, .unk, .unk, .unk, .unk, .unk, .unk, .unk, .unk, .unk, .unk, .unk, .unk, .unk, .unk, .unk, .unk, .unk, .unk] := rfl
/-- spence/crange.Print -/
def bd68 : C :=
  (.seq (.reg [⟨some 1, none, .box 88 (.s 0), .none⟩,
      ⟨some 2, none, .mv (.c (.d (.str []))), .none⟩])
  (.seq (.seq (.reg [⟨some 4, none, .ld (.s 1) 4 true, .none⟩,
       ⟨some 5, none, .call 98 [.s 4] 2, .none⟩,
       ⟨some 6, none, .un .not (.s 5), .none⟩])
   (.cond (.s 6)
    (.seq (.reg [⟨some 2, none, .mv (.c (.d (.str []))), .none⟩])
    (.ret none))
    .skip))
  (.seq (.reg [⟨some 3, none, .mv (.c (.d (.str [98, 121, 116, 101, 115, 32]))), .none⟩])
  (.seq (.seq (.reg [⟨some 7, none, .fa (.s 1) 0, .none⟩,
       ⟨some 8, none, .ld (.s 7) 1 false, .none⟩])
   (.cond (.s 8)
    (.drw [⟨some 9, none, .mv (.s 3), .none⟩,
       ⟨some 10, none, .fa (.s 1) 1, .none⟩,
       ⟨some 11, none, .fa (.s 10) 0, .none⟩,
       ⟨some 12, none, .ld (.s 11) 1 false, .none⟩,
       ⟨some 13, none, .call 99 [.s 12] 2, .none⟩,
       ⟨some 14, none, .bin .add (.s 13) (.c (.d (.str [45]))), .none⟩,
       ⟨some 15, none, .fa (.s 1) 1, .none⟩,
       ⟨some 16, none, .fa (.s 15) 1, .none⟩,
       ⟨some 17, none, .ld (.s 16) 1 false, .none⟩,
       ⟨some 18, none, .bin .sub (.s 17) (.c (.d (.int .i64 1))), .none⟩,
       ⟨some 19, none, .call 99 [.s 18] 2, .none⟩,
       ⟨some 20, none, .bin .add (.s 14) (.s 19), .none⟩,
       ⟨some 21, none, .bin .add (.s 9) (.s 20), .none⟩,
       ⟨some 3, none, .mv (.s 21), .none⟩]
      [[], [], [1], [2], [3], [4], [], [6], [7], [8], [9, 4], [5, 10], [0, 11], [12, 10, 0, 1, 2, 3, 4, 5, 6, 7, 8, 9, 10, 11, 12]] [])
    (.reg [⟨some 22, none, .mv (.s 3), .none⟩,
       ⟨some 23, none, .bin .add (.s 22) (.c (.d (.str [42]))), .none⟩,
       ⟨some 3, none, .mv (.s 23), .none⟩])))
  (.ann [1, 3] (.seq (.seq (.reg [⟨some 24, none, .fa (.s 1) 3, .none⟩,
       ⟨some 25, none, .ld (.s 24) 1 false, .none⟩,
       ⟨some 26, none, .bin .eql (.s 25) (.c (.d (.int .i64 (-1)))), .none⟩])
   (.cond (.s 26)
    (.seq (.reg [⟨some 27, none, .mv (.s 3), .none⟩,
        ⟨some 28, none, .bin .add (.s 27) (.c (.d (.str [47, 42]))), .none⟩,
        ⟨some 2, none, .mv (.s 28), .none⟩])
    (.ret none))
    .skip))
  (.seq (.reg [⟨some 29, none, .mv (.s 3), .none⟩,
      ⟨some 30, none, .bin .add (.s 29) (.c (.d (.str [47]))), .none⟩,
      ⟨some 31, none, .fa (.s 1) 3, .none⟩,
      ⟨some 32, none, .ld (.s 31) 1 false, .none⟩,
      ⟨some 33, none, .call 99 [.s 32] 2, .none⟩,
      ⟨some 34, none, .bin .add (.s 30) (.s 33), .none⟩,
      ⟨some 2, none, .mv (.s 34), .none⟩])
  (.ret none))))))))
def ir68 : F := { n := 35, res := [.tmp 2], body := bd68 }
@[go_sem] theorem n68 : ir68.n = 35 := rfl
@[go_sem] theorem r68 : ir68.res = [.tmp 2] := rfl
@[go_sem] theorem b68 : ir68.body = bd68 := rfl
/-- spence/spenceref04.RightContent -/
def bd69 : C :=
  (.seq (.reg [⟨some 1, none, .box 88 (.s 0), .none⟩,
      ⟨some 2, none, .mv (.c (.d (.bool false))), .none⟩])
  (.seq (.seq (.reg [⟨some 3, none, .fa (.s 1) 3, .none⟩,
       ⟨some 4, none, .ld (.s 3) 1 false, .none⟩,
       ⟨some 5, none, .bin .lss (.s 4) (.c (.d (.int .i64 (-1)))), .none⟩,
       ⟨some 6, none, .mv (.s 5), .none⟩,
       ⟨some 7, some (6, false), .fa (.s 1) 3, .none⟩,
       ⟨some 8, some (6, false), .ld (.s 7) 1 false, .none⟩,
       ⟨some 9, some (6, false), .bin .gtr (.s 8) (.c (.d (.int .i64 4611686018427387903))), .none⟩,
       ⟨some 10, none, .pick (.s 6) (.c (.d (.bool true))) (.s 9), .none⟩])
   (.cond (.s 10)
    (.seq (.reg [⟨some 2, none, .mv (.c (.d (.bool false))), .none⟩])
    (.ret none))
    .skip))
  (.seq (.seq (.reg [⟨some 11, none, .fa (.s 1) 0, .none⟩,
       ⟨some 12, none, .ld (.s 11) 1 false, .none⟩,
       ⟨some 13, none, .un .not (.s 12), .none⟩])
   (.cond (.s 13)
    (.seq (.reg [⟨some 14, none, .fa (.s 1) 1, .none⟩,
        ⟨some 15, none, .ld (.s 14) 2 true, .none⟩,
        ⟨some 16, none, .build [.int .i64 0, .int .i64 0] [], .none⟩,
        ⟨some 17, none, .eqs false [1, 1] (.s 15) (.s 16), .none⟩,
        ⟨some 18, none, .mv (.s 17), .none⟩,
        ⟨some 19, some (18, true), .fa (.s 1) 3, .none⟩,
        ⟨some 20, some (18, true), .ld (.s 19) 1 false, .none⟩,
        ⟨some 21, some (18, true), .bin .geq (.s 20) (.c (.d (.int .i64 0))), .none⟩,
        ⟨some 22, none, .pick (.s 18) (.s 21) (.c (.d (.bool false))), .none⟩,
        ⟨some 2, none, .mv (.s 22), .none⟩])
    (.ret none))
    .skip))
  (.seq (.reg [⟨some 23, none, .fa (.s 1) 1, .none⟩,
      ⟨some 24, none, .ld (.s 23) 2 true, .none⟩,
      ⟨some 25, none, .call 41 [.s 24] 2, .none⟩,
      ⟨some 26, none, .mv (.s 25), .none⟩,
      ⟨some 27, some (26, true), .fa (.s 1) 3, .none⟩,
      ⟨some 28, some (26, true), .ld (.s 27) 1 false, .none⟩,
      ⟨some 29, some (26, true), .bin .eql (.s 28) (.c (.d (.int .i64 (-1)))), .none⟩,
      ⟨some 30, some (26, true), .mv (.s 29), .none⟩,
      ⟨some 31, some (30, false), .fa (.s 1) 1, .none⟩,
      ⟨some 32, some (30, false), .fa (.s 31) 1, .none⟩,
      ⟨some 33, some (30, false), .ld (.s 32) 1 false, .none⟩,
      ⟨some 34, some (30, false), .fa (.s 1) 3, .none⟩,
      ⟨some 35, some (30, false), .ld (.s 34) 1 false, .none⟩,
      ⟨some 36, some (30, false), .bin .leq (.s 33) (.s 35), .none⟩,
      ⟨some 37, some (26, true), .pick (.s 30) (.c (.d (.bool true))) (.s 36), .none⟩,
      ⟨some 38, none, .pick (.s 26) (.s 37) (.c (.d (.bool false))), .none⟩,
      ⟨some 2, none, .mv (.s 38), .none⟩])
  (.ret none)))))
def ir69 : F := { n := 39, res := [.tmp 2], body := bd69 }
@[go_sem] theorem n69 : ir69.n = 39 := rfl
@[go_sem] theorem r69 : ir69.res = [.tmp 2] := rfl
@[go_sem] theorem b69 : ir69.body = bd69 := rfl
/-- (*spence/multi.reader).take -/
def bd70 : C :=
  (.seq (.reg [⟨some 4, none, .mv (.c (.d .nili)), .none⟩])
  (.seq (.reg [⟨some 8, none, .mv (.s 0), .none⟩,
      ⟨some 9, none, .nc (.s 8), .none⟩,
      ⟨some 10, none, .fa (.s 9) 0, .none⟩,
      ⟨some 11, none, .ld (.s 10) 1 false, .none⟩,
      ⟨some 12, none, .mv (.s 1), .none⟩,
      ⟨some 13, none, .s2b 5 (.s 12), .none⟩,
      ⟨some 14, none, .call 100 [.s 11, .s 13] 0, .none⟩,
      ⟨some 7, none, .mv (.s 14), .none⟩,
      ⟨some 15, none, .ext (.s 7) 0, .none⟩,
      ⟨some 16, none, .ext (.s 7) 1, .none⟩,
      ⟨some 5, none, .mv (.s 15), .none⟩,
      ⟨some 6, none, .mv (.s 16), .none⟩])
  (.seq (.seq (.reg [⟨some 17, none, .mv (.s 6), .none⟩,
       ⟨some 18, none, .un .not (.s 17), .none⟩])
   (.cond (.s 18)
    (.seq (.reg [⟨some 19, none, .build [.int .i64 0] [(0, (1, .c (.d (.int .i64 3))))], .none⟩,
        ⟨some 20, none, .mi 127 (.s 19), .none⟩,
        ⟨some 4, none, .mv (.s 20), .none⟩])
    (.ret none))
    .skip))
  (.seq (.reg [⟨some 21, none, .mv (.s 0), .none⟩,
      ⟨some 22, none, .mv (.s 5), .none⟩,
      ⟨some 23, none, .nc (.s 21), .none⟩,
      ⟨some 24, none, .fa (.s 23) 0, .none⟩,
      ⟨none, none, .st (.s 24) (.s 22) 1, .none⟩])
  (.seq (.reg [⟨some 4, none, .mv (.c (.d .nili)), .none⟩])
  (.ret none))))))
def ir70 : F := { n := 25, res := [.tmp 4], body := bd70 }
@[go_sem] theorem n70 : ir70.n = 25 := rfl
@[go_sem] theorem r70 : ir70.res = [.tmp 4] := rfl
@[go_sem] theorem b70 : ir70.body = bd70 := rfl
/-- bytes.HasPrefix -/
def bd71 : C :=
  (.seq (.reg [⟨some 4, none, .mv (.c (.d (.bool false))), .none⟩])
  (.seq (.reg [⟨some 5, none, .mv (.s 0), .none⟩,
      ⟨some 6, none, .len (.s 5), .none⟩,
      ⟨some 7, none, .mv (.s 1), .none⟩,
      ⟨some 8, none, .len (.s 7), .none⟩,
      ⟨some 9, none, .bin .geq (.s 6) (.s 8), .none⟩,
      ⟨some 10, none, .mv (.s 9), .none⟩,
      ⟨some 11, some (10, true), .mv (.s 0), .none⟩,
      ⟨some 12, some (10, true), .mv (.s 1), .none⟩,
      ⟨some 13, some (10, true), .len (.s 12), .none⟩,
      ⟨some 14, some (10, true), .sl (.s 11) none (some (.s 13)) none 1, .none⟩,
      ⟨some 15, some (10, true), .mv (.s 1), .none⟩,
      ⟨some 16, some (10, true), .call 44 [.s 14, .s 15] 2, .none⟩,
      ⟨some 17, none, .pick (.s 10) (.s 16) (.c (.d (.bool false))), .none⟩,
      ⟨some 4, none, .mv (.s 17), .none⟩])
  (.ret none)))
def ir71 : F := { n := 18, res := [.tmp 4], body := bd71 }
@[go_sem] theorem n71 : ir71.n = 18 := rfl
@[go_sem] theorem r71 : ir71.res = [.tmp 4] := rfl
@[go_sem] theorem b71 : ir71.body = bd71 := rfl
/-- (*spence/multi.reader).part -/
def bd72 : C :=
  (.seq (.reg [⟨some 2, none, .alloc 54 [.int .i64 0, .int .i64 0, .nils], .cells [(2, 1, false)]⟩,
      ⟨some 3, none, .mv (.c (.d .nili)), .none⟩])
  (.seq (.seq (.reg [⟨some 10, none, .mv (.s 0), .none⟩,
       ⟨some 11, none, .call 70 [.s 10, .c (.d (.str [13, 10, 67, 111, 110, 116, 101, 110, 116, 45, 82, 97, 110, 103, 101, 58, 32]))] 0, .none⟩,
       ⟨some 4, none, .mv (.s 11), .none⟩])
   (.seq (.reg [⟨some 12, none, .mv (.s 4), .none⟩,
       ⟨some 13, none, .isn true 4 (.s 12), .none⟩])
   (.cond (.s 13)
    (.seq (.reg [⟨some 14, none, .build [.int .i64 0, .int .i64 0, .nils] [], .cells [(2, 1, false)]⟩,
        ⟨some 15, none, .mv (.s 4), .none⟩,
        ⟨none, none, .st (.s 2) (.s 14) 3, .none⟩,
        ⟨some 3, none, .mv (.s 15), .none⟩])
    (.ret none))
    .skip)))
  (.seq (.reg [⟨some 17, none, .mv (.s 0), .none⟩,
      ⟨some 18, none, .call 101 [.s 17] 0, .none⟩,
      ⟨some 16, none, .mv (.s 18), .none⟩,
      ⟨some 19, none, .ext (.s 16) 0, .none⟩,
      ⟨some 20, none, .ext (.s 16) 1, .none⟩,
      ⟨some 5, none, .alloc 88 [.bool false, .int .i64 0, .int .i64 0, .int .i64 0], .none⟩,
      ⟨none, none, .st (.s 5) (.s 19) 4, .none⟩,
      ⟨some 6, none, .mv (.s 20), .none⟩])
  (.seq (.seq (.reg [⟨some 21, none, .mv (.s 6), .none⟩,
       ⟨some 22, none, .isn true 4 (.s 21), .none⟩])
   (.cond (.s 22)
    (.seq (.reg [⟨some 23, none, .build [.int .i64 0, .int .i64 0, .nils] [], .cells [(2, 1, false)]⟩,
        ⟨some 24, none, .mv (.s 6), .none⟩,
        ⟨none, none, .st (.s 2) (.s 23) 3, .none⟩,
        ⟨some 3, none, .mv (.s 24), .none⟩])
    (.ret none))
    .skip))
  (.seq (.seq (.reg [⟨some 25, none, .mv (.s 0), .none⟩,
       ⟨some 26, none, .call 70 [.s 25, .c (.d (.str [13, 10]))] 0, .none⟩,
       ⟨some 7, none, .mv (.s 26), .none⟩])
   (.seq (.reg [⟨some 27, none, .mv (.s 7), .none⟩,
       ⟨some 28, none, .isn true 4 (.s 27), .none⟩])
   (.cond (.s 28)
    (.seq (.reg [⟨some 29, none, .build [.int .i64 0, .int .i64 0, .nils] [], .cells [(2, 1, false)]⟩,
        ⟨some 30, none, .mv (.s 7), .none⟩,
        ⟨none, none, .st (.s 2) (.s 29) 3, .none⟩,
        ⟨some 3, none, .mv (.s 30), .none⟩])
    (.ret none))
    .skip)))
  (.seq (.reg [⟨some 31, none, .fa (.s 5) 1, .none⟩,
      ⟨some 32, none, .ld (.s 31) 2 true, .none⟩,
      ⟨some 33, none, .call 40 [.s 32] 2, .none⟩,
      ⟨some 8, none, .mv (.s 33), .none⟩])
  (.seq (.seq (.reg [⟨some 34, none, .mv (.s 8), .none⟩,
       ⟨some 35, none, .mv (.s 0), .none⟩,
       ⟨some 36, none, .nc (.s 35), .none⟩,
       ⟨some 37, none, .fa (.s 36) 0, .none⟩,
       ⟨some 38, none, .ld (.s 37) 1 false, .none⟩,
       ⟨some 39, none, .len (.s 38), .none⟩,
       ⟨some 40, none, .bin .gtr (.s 34) (.s 39), .none⟩])
   (.cond (.s 40)
    (.seq (.reg [⟨some 41, none, .build [.int .i64 0, .int .i64 0, .nils] [], .cells [(2, 1, false)]⟩,
        ⟨some 42, none, .build [.int .i64 0] [(0, (1, .c (.d (.int .i64 3))))], .none⟩,
        ⟨some 43, none, .mi 127 (.s 42), .none⟩,
        ⟨none, none, .st (.s 2) (.s 41) 3, .none⟩,
        ⟨some 3, none, .mv (.s 43), .none⟩])
    (.ret none))
    .skip))
  (.seq (.drr [⟨some 44, none, .fa (.s 5) 1, .none⟩,
      ⟨some 45, none, .ld (.s 44) 2 true, .none⟩,
      ⟨some 46, none, .mv (.s 0), .none⟩,
      ⟨some 47, none, .nc (.s 46), .none⟩,
      ⟨some 48, none, .fa (.s 47) 0, .none⟩,
      ⟨some 49, none, .ld (.s 48) 1 false, .none⟩,
      ⟨some 50, none, .mv (.s 8), .none⟩,
      ⟨some 51, none, .sl (.s 49) none (some (.s 50)) none 1, .none⟩,
      ⟨some 52, none, .call 47 [.s 51] 2, .none⟩,
      ⟨some 53, none, .build [.int .i64 0, .int .i64 0, .nils] [(0, (2, .s 45)), (2, (1, .s 52))], .cells [(2, 1, false)]⟩,
      ⟨some 9, none, .alloc 54 [.int .i64 0, .int .i64 0, .nils], .res [(2, 1, false)]⟩,
      ⟨none, none, .st (.s 9) (.s 53) 3, .none⟩]
     [[], [0], [], [2], [3], [4], [], [5, 6], [7], [1, 8], [], [10, 9, 8, 0, 1, 2, 3, 4, 5, 6, 7, 8, 9, 10]] [] [] [])
  (.seq (.reg [⟨some 54, none, .mv (.s 0), .none⟩,
      ⟨some 55, none, .mv (.s 0), .none⟩,
      ⟨some 56, none, .nc (.s 55), .none⟩,
      ⟨some 57, none, .fa (.s 56) 0, .none⟩,
      ⟨some 58, none, .ld (.s 57) 1 false, .none⟩,
      ⟨some 59, none, .mv (.s 8), .none⟩,
      ⟨some 60, none, .sl (.s 58) (some (.s 59)) none none 1, .none⟩,
      ⟨some 61, none, .nc (.s 54), .none⟩,
      ⟨some 62, none, .fa (.s 61) 0, .none⟩,
      ⟨none, none, .st (.s 62) (.s 60) 1, .none⟩])
  (.seq (.reg [⟨some 63, none, .mv (.s 0), .none⟩,
      ⟨some 64, none, .fa (.s 5) 3, .none⟩,
      ⟨some 65, none, .ld (.s 64) 1 false, .none⟩,
      ⟨some 66, none, .nc (.s 63), .none⟩,
      ⟨some 67, none, .fa (.s 66) 2, .none⟩,
      ⟨none, none, .st (.s 67) (.s 65) 1, .none⟩])
  (.seq (.drw [⟨some 68, none, .ld (.s 9) 3 true, .none⟩,
      ⟨some 69, none, .mv (.s 0), .none⟩,
      ⟨some 70, none, .call 70 [.s 69, .c (.d (.str [13, 10]))] 3, .none⟩,
      ⟨none, none, .st (.s 2) (.s 68) 3, .none⟩,
      ⟨some 3, none, .mv (.s 70), .none⟩]
     [[], [], [1], [0, 2, 0], [2, 3, 0, 1, 2, 3]] [(9, 69)])
  (.ret none))))))))))))
def ir72 : F := { n := 71, res := [.cell 2 3 true, .tmp 3], body := bd72 }
@[go_sem] theorem n72 : ir72.n = 71 := rfl
@[go_sem] theorem r72 : ir72.res = [.cell 2 3 true, .tmp 3] := rfl
@[go_sem] theorem b72 : ir72.body = bd72 := rfl
@[go_sem] theorem ks74_0 (v0 v1 v2 v3 v4 v5 v6 v7 v8 v9 v10 v11 v12 v13 v14 v15 v16 v17 v18 v19 v20 v21 v22 v23 v24 v25 v26 v27 v28 v29 v30 v31 v32 v33 v34 v35 v36 v37 v38 v39 v40 v41 v42 v43 v44 v45 v46 v47 v48 v49 v50 v51 v52 v53 v54 v55 v56 v57 v58 v59 v60 v61 v62 v63 v64 v65 v66 v67 v68 v69 v70 v71 v72 v73 v74 v75 v76 v77 v78 v79 v80 v81 v82 v83 v84 v85 v86 v87 v88 v89 v90 : AV) : keepS [2, 8, 10, 11, 12] [v0, v1, v2, v3, v4, v5, v6, v7, v8, v9, v10, v11, v12, v13, v14, v15, v16, v17, v18, v19, v20, v21, v22, v23, v24, v25, v26, v27, v28, v29, v30, v31, v32, v33, v34, v35, v36, v37, v38, v39, v40, v41, v42, v43, v44, v45, v46, v47, v48, v49, v50, v51, v52, v53, v54, v55, v56, v57, v58, v59, v60, v61, v62, v63, v64, v65, v66, v67, v68, v69, v70, v71, v72, v73, v74, v75, v76, v77, v78, v79, v80, v81, v82, v83, v84, v85, v86, v87, v88, v89, v90] 0 = [.unk, .unk, v2, .unk, .unk, .unk, .unk, .unk, v8, .unk, v10, v11, v12, .unk, .unk, .unk, .unk, .unk, .unk, .unk, .unk, .unk, .unk, .unk, .unk, .unk, .unk, .unk, .unk, .unk, .unk, .unk, .unk, .unk, .unk, .unk, .unk, .unk, .unk, .unk, .unk, .unk, .unk, .unk, .unk, .unk, .unk, .unk, .unk, .unk, .unk, .unk, .unk, .unk, .unk, .unk, .unk, .unk, .unk, .unk, .unk, .unk, .unk, .unk, .unk, .unk, .unk, .unk, .unk, .unk, .unk, .unk, .unk, .unk, .unk, .unk, .unk, .unk, .unk, .unk, .unk, .unk, .unk, .unk, .unk, .unk, .unk, .unk, .unk, .unk, .unk] := rfl
@[go_sem] theorem ks74_1 (v0 v1 v2 v3 v4 v5 v6 v7 v8 v9 v10 v11 v12 v13 v14 v15 v16 v17 v18 v19 v20 v21 v22 v23 v24 v25 v26 v27 v28 v29 v30 v31 v32 v33 v34 v35 v36 v37 v38 v39 v40 v41 v42 v43 v44 v45 v46 v47 v48 v49 v50 v51 v52 v53 v54 v55 v56 v57 v58 v59 v60 v61 v62 v63 v64 v65 v66 v67 v68 v69 v70 v71 v72 v73 v74 v75 v76 v77 v78 v79 v80 v81 v82 v83 v84 v85 v86 v87 v88 v89 v90 : AV) : keepS [2, 10, 12] [v0, v1, v2, v3, v4, v5, v6, v7, v8, v9, v10, v11, v12, v13, v14, v15, v16, v17, v18, v19, v20, v21, v22, v23, v24, v25, v26, v27, v28, v29, v30, v31, v32, v33, v34, v35, v36, v37, v38, v39, v40, v41, v42, v43, v44, v45, v46, v47, v48, v49, v50, v51, v52, v53, v54, v55, v56, v57, v58, v59, v60, v61, v62, v63, v64, v65, v66, v67, v68, v69, v70, v71, v72, v73, v74, v75, v76, v77, v78, v79, v80, v81, v82, v83, v84, v85, v86, v87, v88, v89, v90] 0 = [.unk, .unk, v2, .unk, .unk, .unk, .unk, .unk, .unk, .unk, v10, .unk, v12, .unk, .unk, .unk, .unk, .unk, .unk, .unk, .unk, .unk, .unk, .unk, .unk, .unk, .unk, .unk, .unk, .unk, .unk, .unk, .unk, .unk, .unk, .unk, .unk, .unk, .unk, .unk, .unk, .unk, .unk, .unk, .unk, .unk, .unk, .unk, .unk, .unk, .unk, .unk, .unk, .unk, .unk, .unk, .unk, .unk, .unk, .unk, .unk, .unk, .unk, .unk, .unk, .unk, .unk, .unk, .unk, .unk, .unk, .unk, .unk, .unk, .unk, .unk, .unk, .unk, .unk, .unk, .unk, .unk, .unk, .unk, .unk, .unk, .unk, .unk, .unk, .unk, .unk] := rfl
/-- spence/crange.Parse -/
def bd74 : C :=
  (.seq (.reg [⟨some 2, none, .alloc 88 [.bool false, .int .i64 0, .int .i64 0, .int .i64 0], .none⟩,
      ⟨some 3, none, .mv (.c (.d (.int .i64 0))), .none⟩])
  (.seq (.reg [⟨some 17, none, .mv (.s 0), .none⟩,
      ⟨some 18, none, .call 106 [.s 17, .c (.d (.int .u8 32))] 2, .none⟩,
      ⟨some 16, none, .mv (.s 18), .none⟩,
      ⟨some 19, none, .ext (.s 16) 0, .none⟩,
      ⟨some 20, none, .ext (.s 16) 1, .none⟩,
      ⟨some 21, none, .ext (.s 16) 2, .none⟩,
      ⟨some 4, none, .mv (.s 19), .none⟩,
      ⟨some 5, none, .mv (.s 20), .none⟩,
      ⟨some 6, none, .mv (.s 21), .none⟩])
  (.seq (.reg [⟨some 23, none, .mv (.s 5), .none⟩,
      ⟨some 24, none, .call 106 [.s 23, .c (.d (.int .u8 47))] 2, .none⟩,
      ⟨some 22, none, .mv (.s 24), .none⟩,
      ⟨some 25, none, .ext (.s 22) 0, .none⟩,
      ⟨some 26, none, .ext (.s 22) 1, .none⟩,
      ⟨some 27, none, .ext (.s 22) 2, .none⟩,
      ⟨some 7, none, .mv (.s 25), .none⟩,
      ⟨some 8, none, .mv (.s 26), .none⟩,
      ⟨some 9, none, .mv (.s 27), .none⟩])
  (.seq (.seq (.reg [⟨some 28, none, .mv (.s 6), .none⟩,
       ⟨some 29, none, .un .not (.s 28), .none⟩,
       ⟨some 30, none, .mv (.s 29), .none⟩,
       ⟨some 31, some (30, false), .mv (.s 9), .none⟩,
       ⟨some 32, some (30, false), .un .not (.s 31), .none⟩,
       ⟨some 33, none, .pick (.s 30) (.c (.d (.bool true))) (.s 32), .none⟩,
       ⟨some 34, none, .mv (.s 33), .none⟩,
       ⟨some 35, some (34, false), .mv (.s 4), .none⟩,
       ⟨some 36, some (34, false), .call 107 [.s 35, .c (.d (.str [98, 121, 116, 101, 115]))] 2, .none⟩,
       ⟨some 37, some (34, false), .un .not (.s 36), .none⟩,
       ⟨some 38, none, .pick (.s 34) (.c (.d (.bool true))) (.s 37), .none⟩])
   (.cond (.s 38)
    (.seq (.reg [⟨some 39, none, .build [.bool false, .int .i64 0, .int .i64 0, .int .i64 0] [], .none⟩,
        ⟨none, none, .st (.s 2) (.s 39) 4, .none⟩,
        ⟨some 3, none, .mv (.c (.d (.int .i64 3))), .none⟩])
    (.ret none))
    .skip))
  (.seq (.reg [⟨some 40, none, .build [.int .i64 0] [], .none⟩,
      ⟨some 41, none, .box 171 (.s 40), .none⟩,
      ⟨some 10, none, .mv (.s 41), .none⟩])
  (.seq (.reg [⟨some 42, none, .mv (.s 10), .none⟩,
      ⟨some 43, none, .fn (.func 108) [.s 42] [], .none⟩,
      ⟨some 11, none, .mv (.s 43), .none⟩])
  (.seq (.reg [⟨some 44, none, .build [.bool false, .int .i64 0, .int .i64 0, .int .i64 0] [(3, (1, .c (.d (.int .i64 (-1)))))], .none⟩,
      ⟨some 12, none, .alloc 88 [.bool false, .int .i64 0, .int .i64 0, .int .i64 0], .none⟩,
      ⟨none, none, .st (.s 12) (.s 44) 4, .none⟩])
  (.seq (.seq (.reg [⟨some 45, none, .mv (.s 7), .none⟩,
       ⟨some 46, none, .bin .neq (.s 45) (.c (.d (.str [42]))), .none⟩])
   (.cond (.s 46)
    (.seq (.reg [⟨some 48, none, .mv (.s 7), .none⟩,
        ⟨some 49, none, .call 106 [.s 48, .c (.d (.int .u8 45))] 2, .none⟩,
        ⟨some 47, none, .mv (.s 49), .none⟩,
        ⟨some 50, none, .ext (.s 47) 0, .none⟩,
        ⟨some 51, none, .ext (.s 47) 1, .none⟩,
        ⟨some 52, none, .ext (.s 47) 2, .none⟩,
        ⟨some 13, none, .mv (.s 50), .none⟩,
        ⟨some 14, none, .mv (.s 51), .none⟩,
        ⟨some 15, none, .mv (.s 52), .none⟩])
    (.seq (.seq (.reg [⟨some 53, none, .mv (.s 15), .none⟩,
         ⟨some 54, none, .un .not (.s 53), .none⟩])
     (.cond (.s 54)
      (.seq (.reg [⟨some 55, none, .build [.bool false, .int .i64 0, .int .i64 0, .int .i64 0] [], .none⟩,
          ⟨none, none, .st (.s 2) (.s 55) 4, .none⟩,
          ⟨some 3, none, .mv (.c (.d (.int .i64 3))), .none⟩])
      (.ret none))
      .skip))
    (.seq (.reg [⟨some 56, none, .fa (.s 12) 0, .none⟩,
        ⟨none, none, .st (.s 56) (.c (.d (.bool true))) 1, .none⟩])
    (.seq (.reg [⟨some 57, none, .mv (.s 11), .none⟩,
        ⟨some 58, none, .mv (.s 13), .none⟩,
        ⟨some 59, none, .callv (.s 57) [.s 58] 0, .none⟩,
        ⟨some 60, none, .fa (.s 12) 1, .none⟩,
        ⟨some 61, none, .fa (.s 60) 0, .none⟩,
        ⟨none, none, .st (.s 61) (.s 59) 1, .none⟩])
    (.reg [⟨some 62, none, .mv (.s 11), .none⟩,
       ⟨some 63, none, .mv (.s 14), .none⟩,
       ⟨some 64, none, .callv (.s 62) [.s 63] 0, .none⟩,
       ⟨some 65, none, .bin .add (.s 64) (.c (.d (.int .i64 1))), .none⟩,
       ⟨some 66, none, .fa (.s 12) 1, .none⟩,
       ⟨some 67, none, .fa (.s 66) 1, .none⟩,
       ⟨none, none, .st (.s 67) (.s 65) 1, .none⟩])))))
    .skip))
  (.ann [2, 8, 10, 11, 12] (.seq (.seq (.reg [⟨some 68, none, .mv (.s 8), .none⟩,
       ⟨some 69, none, .bin .neq (.s 68) (.c (.d (.str [42]))), .none⟩])
   (.cond (.s 69)
    (.reg [⟨some 70, none, .mv (.s 11), .none⟩,
       ⟨some 71, none, .mv (.s 8), .none⟩,
       ⟨some 72, none, .callv (.s 70) [.s 71] 0, .none⟩,
       ⟨some 73, none, .fa (.s 12) 3, .none⟩,
       ⟨none, none, .st (.s 73) (.s 72) 1, .none⟩])
    .skip))
  (.ann [2, 10, 12] (.seq (.block 0 (.seq (.reg [⟨some 75, none, .mv (.s 10), .none⟩,
        ⟨some 76, none, .nc (.s 75), .none⟩,
        ⟨some 77, none, .fa (.s 76) 0, .none⟩,
        ⟨some 78, none, .ld (.s 77) 1 false, .none⟩,
        ⟨some 79, none, .bin .neq (.s 78) (.c (.d (.int .i64 0))), .none⟩,
        ⟨some 74, none, .mv (.s 79), .none⟩])
    (.cond (.s 74)
     (.seq (.drw [⟨some 80, none, .build [.bool false, .int .i64 0, .int .i64 0, .int .i64 0] [], .none⟩,
         ⟨some 81, none, .mv (.s 10), .none⟩,
         ⟨some 82, none, .nc (.s 81), .none⟩,
         ⟨some 83, none, .fa (.s 82) 0, .none⟩,
         ⟨some 84, none, .ld (.s 83) 1 false, .none⟩,
         ⟨none, none, .st (.s 2) (.s 80) 4, .none⟩,
         ⟨some 3, none, .mv (.s 84), .none⟩]
        [[], [], [1], [2], [3], [0, 0], [4, 5, 0, 1, 2, 3, 4, 5]] [(83, 2)])
     (.ret none))
     (.seq (.reg [⟨some 86, none, .ld (.s 12) 4 true, .none⟩,
         ⟨some 87, none, .call 98 [.s 86] 2, .none⟩,
         ⟨some 88, none, .un .not (.s 87), .none⟩,
         ⟨some 85, none, .mv (.s 88), .none⟩])
     (.cond (.s 85)
      (.seq (.reg [⟨some 89, none, .build [.bool false, .int .i64 0, .int .i64 0, .int .i64 0] [], .none⟩,
          ⟨none, none, .st (.s 2) (.s 89) 4, .none⟩,
          ⟨some 3, none, .mv (.c (.d (.int .i64 3))), .none⟩])
      (.ret none))
      .skip)))))
  (.seq (.reg [⟨some 90, none, .ld (.s 12) 4 true, .none⟩,
      ⟨none, none, .st (.s 2) (.s 90) 4, .none⟩,
      ⟨some 3, none, .mv (.c (.d (.int .i64 0))), .none⟩])
  (.ret none))))))))))))))
def ir74 : F := { n := 91, res := [.cell 2 4 true, .tmp 3], body := bd74 }
@[go_sem] theorem n74 : ir74.n = 91 := rfl
@[go_sem] theorem r74 : ir74.res = [.cell 2 4 true, .tmp 3] := rfl
@[go_sem] theorem b74 : ir74.body = bd74 := rfl
def lb76_0 : C :=
  (.seq (.seq (.reg [⟨some 6, none, .mv (.s 3), .none⟩,
       ⟨some 7, none, .mv (.s 0), .none⟩,
       ⟨some 8, none, .lens (.s 7), .none⟩,
       ⟨some 9, none, .bin .lss (.s 6) (.s 8), .none⟩,
       ⟨some 10, none, .mv (.s 9), .none⟩,
       ⟨some 11, some (10, true), .mv (.s 0), .none⟩,
       ⟨some 12, some (10, true), .mv (.s 3), .none⟩,
       ⟨some 13, some (10, true), .sti (.s 11) (.s 12), .none⟩,
       ⟨some 14, some (10, true), .call 113 [.s 13] 2, .none⟩,
       ⟨some 15, none, .pick (.s 10) (.s 14) (.c (.d (.bool false))), .none⟩])
   (.cond (.s 15)
    .skip
    (.exit 0 (some [0, 3]))))
  (.block 1 (.reg [⟨some 16, none, .mv (.s 3), .none⟩,
      ⟨some 17, none, .bin .add (.s 16) (.c (.d (.int .i64 1))), .none⟩,
      ⟨some 3, none, .mv (.s 17), .none⟩])))
def lp76_0 : C := lb76_0
theorem u76_0 (c : Ev.Callee) (l : Ev.Looper) (s : St) : evC c l lp76_0 s = evC c l lb76_0 s := rfl
abbrev st76_0 (m : Nat) (s0 s3 : AV) (h : Heap) : St := ⟨m, [s0, .unk, .unk, s3, .unk, .unk, .unk, .unk, .unk, .unk, .unk, .unk, .unk, .unk, .unk, .unk, .unk, .unk, .unk, .unk, .unk], h⟩
@[go_sem] theorem ks76_0 (v0 v1 v2 v3 v4 v5 v6 v7 v8 v9 v10 v11 v12 v13 v14 v15 v16 v17 v18 v19 v20 : AV) : keepS [0, 3] [v0, v1, v2, v3, v4, v5, v6, v7, v8, v9, v10, v11, v12, v13, v14, v15, v16, v17, v18, v19, v20] 0 = [v0, .unk, .unk, v3, .unk, .unk, .unk, .unk, .unk, .unk, .unk, .unk, .unk, .unk, .unk, .unk, .unk, .unk, .unk, .unk, .unk] := rfl
/-- spence/text.Trim -/
def bd76 : C :=
  (.seq (.reg [⟨some 2, none, .mv (.c (.d (.str []))), .none⟩])
  (.seq (.reg [⟨some 4, none, .mv (.s 0), .none⟩,
      ⟨some 5, none, .call 112 [.s 4] 2, .none⟩,
      ⟨some 0, none, .mv (.s 5), .none⟩])
  (.seq (.reg [⟨some 3, none, .mv (.c (.d (.int .i64 0))), .none⟩])
  (.seq (.block 0 (.loop [0, 3] lp76_0))
  (.seq (.reg [⟨some 18, none, .mv (.s 0), .none⟩,
      ⟨some 19, none, .mv (.s 3), .none⟩,
      ⟨some 20, none, .ssl (.s 18) (some (.s 19)) none, .none⟩,
      ⟨some 2, none, .mv (.s 20), .none⟩])
  (.ret none))))))
def ir76 : F := { n := 21, res := [.tmp 2], body := bd76 }
@[go_sem] theorem n76 : ir76.n = 21 := rfl
@[go_sem] theorem r76 : ir76.res = [.tmp 2] := rfl
@[go_sem] theorem b76 : ir76.body = bd76 := rfl
/-- spence/nums.Fits -/
def bd79 : C :=
  (.seq (.reg [⟨some 6, none, .mv (.c (.d (.bool false))), .none⟩])
  (.seq (.reg [⟨some 7, none, .mv (.s 0), .none⟩,
      ⟨some 8, none, .mv (.s 1), .none⟩,
      ⟨some 9, none, .bin .geq (.s 7) (.s 8), .none⟩,
      ⟨some 10, none, .mv (.s 9), .none⟩,
      ⟨some 11, some (10, true), .mv (.s 0), .none⟩,
      ⟨some 12, some (10, true), .mv (.s 2), .none⟩,
      ⟨some 13, some (10, true), .bin .leq (.s 11) (.s 12), .none⟩,
      ⟨some 14, none, .pick (.s 10) (.s 13) (.c (.d (.bool false))), .none⟩,
      ⟨some 6, none, .mv (.s 14), .none⟩])
  (.ret none)))
def ir79 : F := { n := 15, res := [.tmp 6], body := bd79 }
@[go_sem] theorem n79 : ir79.n = 15 := rfl
@[go_sem] theorem r79 : ir79.res = [.tmp 6] := rfl
@[go_sem] theorem b79 : ir79.body = bd79 := rfl
/-- spence/spenceref01.Blank -/
def bd90 : C :=
  (.seq (.reg [⟨some 2, none, .mv (.c (.d (.bool false))), .none⟩])
  (.seq (.reg [⟨some 3, none, .mv (.s 0), .none⟩,
      ⟨some 4, none, .bin .eql (.s 3) (.c (.d (.int .u8 32))), .none⟩,
      ⟨some 5, none, .mv (.s 4), .none⟩,
      ⟨some 6, some (5, false), .mv (.s 0), .none⟩,
      ⟨some 7, some (5, false), .bin .eql (.s 6) (.c (.d (.int .u8 9))), .none⟩,
      ⟨some 8, none, .pick (.s 5) (.c (.d (.bool true))) (.s 7), .none⟩,
      ⟨some 2, none, .mv (.s 8), .none⟩])
  (.ret none)))
def ir90 : F := { n := 9, res := [.tmp 2], body := bd90 }
@[go_sem] theorem n90 : ir90.n = 9 := rfl
@[go_sem] theorem r90 : ir90.res = [.tmp 2] := rfl
@[go_sem] theorem b90 : ir90.body = bd90 := rfl
def lb91_2 : C :=
  (.seq (.seq (.reg [⟨some 51, none, .mv (.s 8), .none⟩,
       ⟨some 52, none, .mv (.s 6), .none⟩,
       ⟨some 53, none, .lens (.s 52), .none⟩,
       ⟨some 54, none, .bin .lss (.s 51) (.s 53), .none⟩])
   (.cond (.s 54)
    .skip
    (.exit 4 (some [7]))))
  (.seq (.block 5 (.reg [⟨some 57, none, .mv (.s 7), .none⟩,
       ⟨some 58, none, .bin .mul (.c (.d (.int .i64 10))) (.s 57), .none⟩,
       ⟨some 59, none, .mv (.s 6), .none⟩,
       ⟨some 60, none, .mv (.s 8), .none⟩,
       ⟨some 61, none, .sti (.s 59) (.s 60), .none⟩,
       ⟨some 62, none, .cvi .i64 (.s 61), .none⟩,
       ⟨some 63, none, .bin .add (.s 58) (.s 62), .none⟩,
       ⟨some 64, none, .bin .sub (.s 63) (.c (.d (.int .i64 48))), .none⟩,
       ⟨some 7, none, .mv (.s 64), .none⟩]))
  (.reg [⟨some 55, none, .mv (.s 8), .none⟩,
     ⟨some 56, none, .bin .add (.s 55) (.c (.d (.int .i64 1))), .none⟩,
     ⟨some 8, none, .mv (.s 56), .none⟩])))
def lp91_2 : C := lb91_2
theorem u91_2 (c : Ev.Callee) (l : Ev.Looper) (s : St) : evC c l lp91_2 s = evC c l lb91_2 s := rfl
abbrev st91_2 (m : Nat) (s6 s7 s8 : AV) (h : Heap) : St := ⟨m, [.unk, .unk, .unk, .unk, .unk, .unk, s6, s7, s8, .unk, .unk, .unk, .unk, .unk, .unk, .unk, .unk, .unk, .unk, .unk, .unk, .unk, .unk, .unk, .unk, .unk, .unk, .unk, .unk, .unk, .unk, .unk, .unk, .unk, .unk, .unk, .unk, .unk, .unk, .unk, .unk, .unk, .unk, .unk, .unk, .unk, .unk, .unk, .unk, .unk, .unk, .unk, .unk, .unk, .unk, .unk, .unk, .unk, .unk, .unk, .unk, .unk, .unk, .unk, .unk, .unk], h⟩
def lb91_1 : C :=
  (.seq (.seq (.reg [⟨some 23, none, .mv (.s 5), .none⟩,
       ⟨some 24, none, .mv (.s 0), .none⟩,
       ⟨some 25, none, .lens (.s 24), .none⟩,
       ⟨some 26, none, .bin .sub (.s 25) (.c (.d (.int .i64 1))), .none⟩,
       ⟨some 27, none, .bin .lss (.s 23) (.s 26), .none⟩,
       ⟨some 28, none, .mv (.s 27), .none⟩,
       ⟨some 29, some (28, true), .mv (.s 0), .none⟩,
       ⟨some 30, some (28, true), .mv (.s 5), .none⟩,
       ⟨some 31, some (28, true), .sti (.s 29) (.s 30), .none⟩,
       ⟨some 32, some (28, true), .bin .eql (.s 31) (.c (.d (.int .u8 48))), .none⟩,
       ⟨some 33, none, .pick (.s 28) (.s 32) (.c (.d (.bool false))), .none⟩])
   (.cond (.s 33)
    .skip
    (.exit 2 (some [0, 5]))))
  (.block 3 (.reg [⟨some 34, none, .mv (.s 5), .none⟩,
      ⟨some 35, none, .bin .add (.s 34) (.c (.d (.int .i64 1))), .none⟩,
      ⟨some 5, none, .mv (.s 35), .none⟩])))
def lp91_1 : C := lb91_1
theorem u91_1 (c : Ev.Callee) (l : Ev.Looper) (s : St) : evC c l lp91_1 s = evC c l lb91_1 s := rfl
abbrev st91_1 (m : Nat) (s0 s5 : AV) (h : Heap) : St := ⟨m, [s0, .unk, .unk, .unk, .unk, s5, .unk, .unk, .unk, .unk, .unk, .unk, .unk, .unk, .unk, .unk, .unk, .unk, .unk, .unk, .unk, .unk, .unk, .unk, .unk, .unk, .unk, .unk, .unk, .unk, .unk, .unk, .unk, .unk, .unk, .unk, .unk, .unk, .unk, .unk, .unk, .unk, .unk, .unk, .unk, .unk, .unk, .unk, .unk, .unk, .unk, .unk, .unk, .unk, .unk, .unk, .unk, .unk, .unk, .unk, .unk, .unk, .unk, .unk, .unk, .unk], h⟩
def lb91_0 : C :=
  (.seq (.seq (.reg [⟨some 12, none, .mv (.s 4), .none⟩,
       ⟨some 13, none, .mv (.s 0), .none⟩,
       ⟨some 14, none, .lens (.s 13), .none⟩,
       ⟨some 15, none, .bin .lss (.s 12) (.s 14), .none⟩])
   (.cond (.s 15)
    .skip
    (.exit 0 (some [0]))))
  (.seq (.block 1 (.seq (.reg [⟨some 18, none, .mv (.s 0), .none⟩,
        ⟨some 19, none, .mv (.s 4), .none⟩,
        ⟨some 20, none, .sti (.s 18) (.s 19), .none⟩,
        ⟨some 21, none, .call 45 [.s 20] 2, .none⟩,
        ⟨some 22, none, .un .not (.s 21), .none⟩])
    (.cond (.s 22)
     (.seq (.reg [⟨some 2, none, .mv (.c (.d (.int .i64 0))), .none⟩,
         ⟨some 3, none, .mv (.c (.d (.int .i64 3))), .none⟩])
     (.ret (some [2, 3])))
     .skip)))
  (.reg [⟨some 16, none, .mv (.s 4), .none⟩,
     ⟨some 17, none, .bin .add (.s 16) (.c (.d (.int .i64 1))), .none⟩,
     ⟨some 4, none, .mv (.s 17), .none⟩])))
def lp91_0 : C := lb91_0
theorem u91_0 (c : Ev.Callee) (l : Ev.Looper) (s : St) : evC c l lp91_0 s = evC c l lb91_0 s := rfl
abbrev st91_0 (m : Nat) (s0 s4 : AV) (h : Heap) : St := ⟨m, [s0, .unk, .unk, .unk, s4, .unk, .unk, .unk, .unk, .unk, .unk, .unk, .unk, .unk, .unk, .unk, .unk, .unk, .unk, .unk, .unk, .unk, .unk, .unk, .unk, .unk, .unk, .unk, .unk, .unk, .unk, .unk, .unk, .unk, .unk, .unk, .unk, .unk, .unk, .unk, .unk, .unk, .unk, .unk, .unk, .unk, .unk, .unk, .unk, .unk, .unk, .unk, .unk, .unk, .unk, .unk, .unk, .unk, .unk, .unk, .unk, .unk, .unk, .unk, .unk, .unk], h⟩
@[go_sem] theorem ks91_0 (v0 v1 v2 v3 v4 v5 v6 v7 v8 v9 v10 v11 v12 v13 v14 v15 v16 v17 v18 v19 v20 v21 v22 v23 v24 v25 v26 v27 v28 v29 v30 v31 v32 v33 v34 v35 v36 v37 v38 v39 v40 v41 v42 v43 v44 v45 v46 v47 v48 v49 v50 v51 v52 v53 v54 v55 v56 v57 v58 v59 v60 v61 v62 v63 v64 v65 : AV) : keepS [0, 4] [v0, v1, v2, v3, v4, v5, v6, v7, v8, v9, v10, v11, v12, v13, v14, v15, v16, v17, v18, v19, v20, v21, v22, v23, v24, v25, v26, v27, v28, v29, v30, v31, v32, v33, v34, v35, v36, v37, v38, v39, v40, v41, v42, v43, v44, v45, v46, v47, v48, v49, v50, v51, v52, v53, v54, v55, v56, v57, v58, v59, v60, v61, v62, v63, v64, v65] 0 = [v0, .unk, .unk, .unk, v4, .unk, .unk, .unk, .unk, .unk, .unk, .unk, .unk, .unk, .unk, .unk, .unk, .unk, .unk, .unk, .unk, .unk, .unk, .unk, .unk, .unk, .unk, .unk, .unk, .unk, .unk, .unk, .unk, .unk, .unk, .unk, .unk, .unk, .unk, .unk, .unk, .unk, .unk, .unk, .unk, .unk, .unk, .unk, .unk, .unk, .unk, .unk, .unk, .unk, .unk, .unk, .unk, .unk, .unk, .unk, .unk, .unk, .unk, .unk, .unk, .unk] := rfl
@[go_sem] theorem ks91_1 (v0 v1 v2 v3 v4 v5 v6 v7 v8 v9 v10 v11 v12 v13 v14 v15 v16 v17 v18 v19 v20 v21 v22 v23 v24 v25 v26 v27 v28 v29 v30 v31 v32 v33 v34 v35 v36 v37 v38 v39 v40 v41 v42 v43 v44 v45 v46 v47 v48 v49 v50 v51 v52 v53 v54 v55 v56 v57 v58 v59 v60 v61 v62 v63 v64 v65 : AV) : keepS [0] [v0, v1, v2, v3, v4, v5, v6, v7, v8, v9, v10, v11, v12, v13, v14, v15, v16, v17, v18, v19, v20, v21, v22, v23, v24, v25, v26, v27, v28, v29, v30, v31, v32, v33, v34, v35, v36, v37, v38, v39, v40, v41, v42, v43, v44, v45, v46, v47, v48, v49, v50, v51, v52, v53, v54, v55, v56, v57, v58, v59, v60, v61, v62, v63, v64, v65] 0 = [v0, .unk, .unk, .unk, .unk, .unk, .unk, .unk, .unk, .unk, .unk, .unk, .unk, .unk, .unk, .unk, .unk, .unk, .unk, .unk, .unk, .unk, .unk, .unk, .unk, .unk, .unk, .unk, .unk, .unk, .unk, .unk, .unk, .unk, .unk, .unk, .unk, .unk, .unk, .unk, .unk, .unk, .unk, .unk, .unk, .unk, .unk, .unk, .unk, .unk, .unk, .unk, .unk, .unk, .unk, .unk, .unk, .unk, .unk, .unk, .unk, .unk, .unk, .unk, .unk, .unk] := rfl
@[go_sem] theorem ks91_2 (v0 v1 v2 v3 v4 v5 v6 v7 v8 v9 v10 v11 v12 v13 v14 v15 v16 v17 v18 v19 v20 v21 v22 v23 v24 v25 v26 v27 v28 v29 v30 v31 v32 v33 v34 v35 v36 v37 v38 v39 v40 v41 v42 v43 v44 v45 v46 v47 v48 v49 v50 v51 v52 v53 v54 v55 v56 v57 v58 v59 v60 v61 v62 v63 v64 v65 : AV) : keepS [2, 3] [v0, v1, v2, v3, v4, v5, v6, v7, v8, v9, v10, v11, v12, v13, v14, v15, v16, v17, v18, v19, v20, v21, v22, v23, v24, v25, v26, v27, v28, v29, v30, v31, v32, v33, v34, v35, v36, v37, v38, v39, v40, v41, v42, v43, v44, v45, v46, v47, v48, v49, v50, v51, v52, v53, v54, v55, v56, v57, v58, v59, v60, v61, v62, v63, v64, v65] 0 = [.unk, .unk, v2, v3, .unk, .unk, .unk, .unk, .unk, .unk, .unk, .unk, .unk, .unk, .unk, .unk, .unk, .unk, .unk, .unk, .unk, .unk, .unk, .unk, .unk, .unk, .unk, .unk, .unk, .unk, .unk, .unk, .unk, .unk, .unk, .unk, .unk, .unk, .unk, .unk, .unk, .unk, .unk, .unk, .unk, .unk, .unk, .unk, .unk, .unk, .unk, .unk, .unk, .unk, .unk, .unk, .unk, .unk, .unk, .unk, .unk, .unk, .unk, .unk, .unk, .unk] := rfl
@[go_sem] theorem ks91_3 (v0 v1 v2 v3 v4 v5 v6 v7 v8 v9 v10 v11 v12 v13 v14 v15 v16 v17 v18 v19 v20 v21 v22 v23 v24 v25 v26 v27 v28 v29 v30 v31 v32 v33 v34 v35 v36 v37 v38 v39 v40 v41 v42 v43 v44 v45 v46 v47 v48 v49 v50 v51 v52 v53 v54 v55 v56 v57 v58 v59 v60 v61 v62 v63 v64 v65 : AV) : keepS [0, 5] [v0, v1, v2, v3, v4, v5, v6, v7, v8, v9, v10, v11, v12, v13, v14, v15, v16, v17, v18, v19, v20, v21, v22, v23, v24, v25, v26, v27, v28, v29, v30, v31, v32, v33, v34, v35, v36, v37, v38, v39, v40, v41, v42, v43, v44, v45, v46, v47, v48, v49, v50, v51, v52, v53, v54, v55, v56, v57, v58, v59, v60, v61, v62, v63, v64, v65] 0 = [v0, .unk, .unk, .unk, .unk, v5, .unk, .unk, .unk, .unk, .unk, .unk, .unk, .unk, .unk, .unk, .unk, .unk, .unk, .unk, .unk, .unk, .unk, .unk, .unk, .unk, .unk, .unk, .unk, .unk, .unk, .unk, .unk, .unk, .unk, .unk, .unk, .unk, .unk, .unk, .unk, .unk, .unk, .unk, .unk, .unk, .unk, .unk, .unk, .unk, .unk, .unk, .unk, .unk, .unk, .unk, .unk, .unk, .unk, .unk, .unk, .unk, .unk, .unk, .unk, .unk] := rfl
@[go_sem] theorem ks91_4 (v0 v1 v2 v3 v4 v5 v6 v7 v8 v9 v10 v11 v12 v13 v14 v15 v16 v17 v18 v19 v20 v21 v22 v23 v24 v25 v26 v27 v28 v29 v30 v31 v32 v33 v34 v35 v36 v37 v38 v39 v40 v41 v42 v43 v44 v45 v46 v47 v48 v49 v50 v51 v52 v53 v54 v55 v56 v57 v58 v59 v60 v61 v62 v63 v64 v65 : AV) : keepS [6, 7, 8] [v0, v1, v2, v3, v4, v5, v6, v7, v8, v9, v10, v11, v12, v13, v14, v15, v16, v17, v18, v19, v20, v21, v22, v23, v24, v25, v26, v27, v28, v29, v30, v31, v32, v33, v34, v35, v36, v37, v38, v39, v40, v41, v42, v43, v44, v45, v46, v47, v48, v49, v50, v51, v52, v53, v54, v55, v56, v57, v58, v59, v60, v61, v62, v63, v64, v65] 0 = [.unk, .unk, .unk, .unk, .unk, .unk, v6, v7, v8, .unk, .unk, .unk, .unk, .unk, .unk, .unk, .unk, .unk, .unk, .unk, .unk, .unk, .unk, .unk, .unk, .unk, .unk, .unk, .unk, .unk, .unk, .unk, .unk, .unk, .unk, .unk, .unk, .unk, .unk, .unk, .unk, .unk, .unk, .unk, .unk, .unk, .unk, .unk, .unk, .unk, .unk, .unk, .unk, .unk, .unk, .unk, .unk, .unk, .unk, .unk, .unk, .unk, .unk, .unk, .unk, .unk] := rfl
@[go_sem] theorem ks91_5 (v0 v1 v2 v3 v4 v5 v6 v7 v8 v9 v10 v11 v12 v13 v14 v15 v16 v17 v18 v19 v20 v21 v22 v23 v24 v25 v26 v27 v28 v29 v30 v31 v32 v33 v34 v35 v36 v37 v38 v39 v40 v41 v42 v43 v44 v45 v46 v47 v48 v49 v50 v51 v52 v53 v54 v55 v56 v57 v58 v59 v60 v61 v62 v63 v64 v65 : AV) : keepS [7] [v0, v1, v2, v3, v4, v5, v6, v7, v8, v9, v10, v11, v12, v13, v14, v15, v16, v17, v18, v19, v20, v21, v22, v23, v24, v25, v26, v27, v28, v29, v30, v31, v32, v33, v34, v35, v36, v37, v38, v39, v40, v41, v42, v43, v44, v45, v46, v47, v48, v49, v50, v51, v52, v53, v54, v55, v56, v57, v58, v59, v60, v61, v62, v63, v64, v65] 0 = [.unk, .unk, .unk, .unk, .unk, .unk, .unk, v7, .unk, .unk, .unk, .unk, .unk, .unk, .unk, .unk, .unk, .unk, .unk, .unk, .unk, .unk, .unk, .unk, .unk, .unk, .unk, .unk, .unk, .unk, .unk, .unk, .unk, .unk, .unk, .unk, .unk, .unk, .unk, .unk, .unk, .unk, .unk, .unk, .unk, .unk, .unk, .unk, .unk, .unk, .unk, .unk, .unk, .unk, .unk, .unk, .unk, .unk, .unk, .unk, .unk, .unk, .unk, .unk, .unk, .unk] := rfl
/-- spence/spenceref01.Parse -/
def bd91 : C :=
  (.seq (.reg [⟨some 2, none, .mv (.c (.d (.int .i64 0))), .none⟩,
      ⟨some 3, none, .mv (.c (.d (.int .i64 0))), .none⟩])
  (.seq (.seq (.reg [⟨some 9, none, .mv (.s 0), .none⟩,
       ⟨some 10, none, .lens (.s 9), .none⟩,
       ⟨some 11, none, .bin .eql (.s 10) (.c (.d (.int .i64 0))), .none⟩])
   (.cond (.s 11)
    (.seq (.reg [⟨some 2, none, .mv (.c (.d (.int .i64 0))), .none⟩,
        ⟨some 3, none, .mv (.c (.d (.int .i64 3))), .none⟩])
    (.ret none))
    .skip))
  (.seq (.seq (.reg [⟨some 4, none, .mv (.c (.d (.int .i64 0))), .none⟩])
   (.block 0 (.loop [0, 4] lp91_0)))
  (.seq (.reg [⟨some 5, none, .mv (.c (.d (.int .i64 0))), .none⟩])
  (.seq (.block 2 (.loop [0, 5] lp91_1))
  (.seq (.reg [⟨some 36, none, .mv (.s 0), .none⟩,
      ⟨some 37, none, .mv (.s 5), .none⟩,
      ⟨some 38, none, .ssl (.s 36) (some (.s 37)) none, .none⟩,
      ⟨some 6, none, .mv (.s 38), .none⟩])
  (.seq (.seq (.reg [⟨some 39, none, .mv (.s 6), .none⟩,
       ⟨some 40, none, .lens (.s 39), .none⟩,
       ⟨some 41, none, .bin .gtr (.s 40) (.c (.d (.int .i64 19))), .none⟩,
       ⟨some 42, none, .mv (.s 41), .none⟩,
       ⟨some 43, some (42, false), .mv (.s 6), .none⟩,
       ⟨some 44, some (42, false), .lens (.s 43), .none⟩,
       ⟨some 45, some (42, false), .bin .eql (.s 44) (.c (.d (.int .i64 19))), .none⟩,
       ⟨some 46, some (42, false), .mv (.s 45), .none⟩,
       ⟨some 47, some (46, true), .mv (.s 6), .none⟩,
       ⟨some 48, some (46, true), .bin .gtr (.s 47) (.c (.d (.str [52, 54, 49, 49, 54, 56, 54, 48, 49, 56, 52, 50, 55, 51, 56, 55, 57, 48, 51]))), .none⟩,
       ⟨some 49, some (42, false), .pick (.s 46) (.s 48) (.c (.d (.bool false))), .none⟩,
       ⟨some 50, none, .pick (.s 42) (.c (.d (.bool true))) (.s 49), .none⟩])
   (.cond (.s 50)
    (.seq (.reg [⟨some 2, none, .mv (.c (.d (.int .i64 0))), .none⟩,
        ⟨some 3, none, .mv (.c (.d (.int .i64 9))), .none⟩])
    (.ret none))
    .skip))
  (.seq (.reg [⟨some 7, none, .mv (.c (.d (.int .i64 0))), .none⟩])
  (.seq (.seq (.reg [⟨some 8, none, .mv (.c (.d (.int .i64 0))), .none⟩])
   (.block 4 (.loop [6, 7, 8] lp91_2)))
  (.seq (.reg [⟨some 65, none, .mv (.s 7), .none⟩,
      ⟨some 2, none, .mv (.s 65), .none⟩,
      ⟨some 3, none, .mv (.c (.d (.int .i64 0))), .none⟩])
  (.ret none)))))))))))
def ir91 : F := { n := 66, res := [.tmp 2, .tmp 3], body := bd91 }
@[go_sem] theorem n91 : ir91.n = 66 := rfl
@[go_sem] theorem r91 : ir91.res = [.tmp 2, .tmp 3] := rfl
@[go_sem] theorem b91 : ir91.body = bd91 := rfl
def lb93_0 : C :=
  (.seq (.seq (.reg [⟨some 10, none, .mv (.s 0), .none⟩,
       ⟨some 11, none, .bin .geq (.s 10) (.c (.d (.int .u64 10))), .none⟩])
   (.cond (.s 11)
    .skip
    (.exit 0 (some [3]))))
  (.block 1 (.seq (.reg [⟨some 12, none, .mv (.s 0), .none⟩,
       ⟨some 13, none, .bin .quo (.s 12) (.c (.d (.int .u64 10))), .none⟩,
       ⟨some 0, none, .mv (.s 13), .none⟩])
   (.reg [⟨some 14, none, .mv (.s 0), .none⟩,
      ⟨some 15, none, .bin .rem (.s 14) (.c (.d (.int .u64 10))), .none⟩,
      ⟨some 16, none, .bin .add (.c (.d (.int .u64 48))) (.s 15), .none⟩,
      ⟨some 17, none, .cvi .u8 (.s 16), .none⟩,
      ⟨some 18, none, .bsl 5 1 1 [.int .u8 0] [(0, (1, .s 17))], .none⟩,
      ⟨some 19, none, .b2s (.s 18), .none⟩,
      ⟨some 20, none, .mv (.s 3), .none⟩,
      ⟨some 21, none, .bin .add (.s 19) (.s 20), .none⟩,
      ⟨some 3, none, .mv (.s 21), .none⟩]))))
def lp93_0 : C := lb93_0
theorem u93_0 (c : Ev.Callee) (l : Ev.Looper) (s : St) : evC c l lp93_0 s = evC c l lb93_0 s := rfl
abbrev st93_0 (m : Nat) (s0 s3 : AV) (h : Heap) : St := ⟨m, [s0, .unk, .unk, s3, .unk, .unk, .unk, .unk, .unk, .unk, .unk, .unk, .unk, .unk, .unk, .unk, .unk, .unk, .unk, .unk, .unk, .unk, .unk], h⟩
@[go_sem] theorem ks93_0 (v0 v1 v2 v3 v4 v5 v6 v7 v8 v9 v10 v11 v12 v13 v14 v15 v16 v17 v18 v19 v20 v21 v22 : AV) : keepS [0, 3] [v0, v1, v2, v3, v4, v5, v6, v7, v8, v9, v10, v11, v12, v13, v14, v15, v16, v17, v18, v19, v20, v21, v22] 0 = [v0, .unk, .unk, v3, .unk, .unk, .unk, .unk, .unk, .unk, .unk, .unk, .unk, .unk, .unk, .unk, .unk, .unk, .unk, .unk, .unk, .unk, .unk] := rfl
@[go_sem] theorem ks93_1 (v0 v1 v2 v3 v4 v5 v6 v7 v8 v9 v10 v11 v12 v13 v14 v15 v16 v17 v18 v19 v20 v21 v22 : AV) : keepS [3] [v0, v1, v2, v3, v4, v5, v6, v7, v8, v9, v10, v11, v12, v13, v14, v15, v16, v17, v18, v19, v20, v21, v22] 0 = [.unk, .unk, .unk, v3, .unk, .unk, .unk, .unk, .unk, .unk, .unk, .unk, .unk, .unk, .unk, .unk, .unk, .unk, .unk, .unk, .unk, .unk, .unk] := rfl
/-- spence/spenceref01.digits -/
def bd93 : C :=
  (.seq (.reg [⟨some 2, none, .mv (.c (.d (.str []))), .none⟩])
  (.seq (.reg [⟨some 4, none, .mv (.s 0), .none⟩,
      ⟨some 5, none, .bin .rem (.s 4) (.c (.d (.int .u64 10))), .none⟩,
      ⟨some 6, none, .bin .add (.c (.d (.int .u64 48))) (.s 5), .none⟩,
      ⟨some 7, none, .cvi .u8 (.s 6), .none⟩,
      ⟨some 8, none, .bsl 5 1 1 [.int .u8 0] [(0, (1, .s 7))], .none⟩,
      ⟨some 9, none, .b2s (.s 8), .none⟩,
      ⟨some 3, none, .mv (.s 9), .none⟩])
  (.seq (.block 0 (.loop [0, 3] lp93_0))
  (.seq (.reg [⟨some 22, none, .mv (.s 3), .none⟩,
      ⟨some 2, none, .mv (.s 22), .none⟩])
  (.ret none)))))
def ir93 : F := { n := 23, res := [.tmp 2], body := bd93 }
@[go_sem] theorem n93 : ir93.n = 23 := rfl
@[go_sem] theorem r93 : ir93.res = [.tmp 2] := rfl
@[go_sem] theorem b93 : ir93.body = bd93 := rfl
@[go_sem] theorem ks94_0 (v0 v1 v2 v3 v4 v5 v6 v7 v8 v9 v10 v11 v12 v13 v14 v15 v16 v17 v18 v19 v20 v21 v22 : AV) : keepS [0, 3, 4] [v0, v1, v2, v3, v4, v5, v6, v7, v8, v9, v10, v11, v12, v13, v14, v15, v16, v17, v18, v19, v20, v21, v22] 0 = [v0, .unk, .unk, v3, v4, .unk, .unk, .unk, .unk, .unk, .unk, .unk, .unk, .unk, .unk, .unk, .unk, .unk, .unk, .unk, .unk, .unk, .unk] := rfl
@[go_sem] theorem ks94_1 (v0 v1 v2 v3 v4 v5 v6 v7 v8 v9 v10 v11 v12 v13 v14 v15 v16 v17 v18 v19 v20 v21 v22 : AV) : keepS [0, 11] [v0, v1, v2, v3, v4, v5, v6, v7, v8, v9, v10, v11, v12, v13, v14, v15, v16, v17, v18, v19, v20, v21, v22] 0 = [v0, .unk, .unk, .unk, .unk, .unk, .unk, .unk, .unk, .unk, .unk, v11, .unk, .unk, .unk, .unk, .unk, .unk, .unk, .unk, .unk, .unk, .unk] := rfl
/-- spence/text.part -/
def bd94 : C :=
  (.seq (.reg [⟨some 2, none, .mv (.c (.d (.bool false))), .none⟩])
  (.seq (.seq (.reg [⟨some 3, none, .mv (.s 0), .none⟩])
   (.block 0 (.seq (.block 2 (.block 1 (.seq (.seq (.seq (.seq (.reg [⟨some 5, none, .bin .eql (.s 3) (.c (.d (.int .u8 33))), .none⟩,
              ⟨some 4, none, .mv (.s 5), .none⟩])
          (.cond (.s 4)
           .skip
           (.seq (.reg [⟨some 6, none, .bin .eql (.s 3) (.c (.d (.int .u8 35))), .none⟩,
               ⟨some 4, none, .mv (.s 6), .none⟩])
           (.cond (.s 4)
            .skip
            (.seq (.reg [⟨some 7, none, .bin .eql (.s 3) (.c (.d (.int .u8 36))), .none⟩,
                ⟨some 4, none, .mv (.s 7), .none⟩])
            (.cond (.s 4)
             .skip
             (.seq (.reg [⟨some 8, none, .bin .eql (.s 3) (.c (.d (.int .u8 37))), .none⟩,
                 ⟨some 4, none, .mv (.s 8), .none⟩])
             (.cond (.s 4)
              .skip
              (.seq (.reg [⟨some 9, none, .bin .eql (.s 3) (.c (.d (.int .u8 38))), .none⟩,
                  ⟨some 4, none, .mv (.s 9), .none⟩])
              (.cond (.s 4)
               .skip
               (.reg [⟨some 10, none, .bin .eql (.s 3) (.c (.d (.int .u8 39))), .none⟩,
                  ⟨some 4, none, .mv (.s 10), .none⟩])))))))))))
         (.ann [0, 3, 4] (.cond (.s 4)
          (.exit 1 none)
          .skip)))
        (.seq (.seq (.reg [⟨some 12, none, .bin .eql (.s 3) (.c (.d (.int .u8 42))), .none⟩,
             ⟨some 11, none, .mv (.s 12), .none⟩])
         (.cond (.s 11)
          .skip
          (.seq (.reg [⟨some 13, none, .bin .eql (.s 3) (.c (.d (.int .u8 43))), .none⟩,
              ⟨some 11, none, .mv (.s 13), .none⟩])
          (.cond (.s 11)
           .skip
           (.seq (.reg [⟨some 14, none, .bin .eql (.s 3) (.c (.d (.int .u8 45))), .none⟩,
               ⟨some 11, none, .mv (.s 14), .none⟩])
           (.cond (.s 11)
            .skip
            (.seq (.reg [⟨some 15, none, .bin .eql (.s 3) (.c (.d (.int .u8 46))), .none⟩,
                ⟨some 11, none, .mv (.s 15), .none⟩])
            (.cond (.s 11)
             .skip
             (.seq (.reg [⟨some 16, none, .bin .eql (.s 3) (.c (.d (.int .u8 94))), .none⟩,
                 ⟨some 11, none, .mv (.s 16), .none⟩])
             (.cond (.s 11)
              .skip
              (.seq (.reg [⟨some 17, none, .bin .eql (.s 3) (.c (.d (.int .u8 95))), .none⟩,
                  ⟨some 11, none, .mv (.s 17), .none⟩])
              (.cond (.s 11)
               .skip
               (.seq (.reg [⟨some 18, none, .bin .eql (.s 3) (.c (.d (.int .u8 96))), .none⟩,
                   ⟨some 11, none, .mv (.s 18), .none⟩])
               (.cond (.s 11)
                .skip
                (.seq (.reg [⟨some 19, none, .bin .eql (.s 3) (.c (.d (.int .u8 124))), .none⟩,
                    ⟨some 11, none, .mv (.s 19), .none⟩])
                (.cond (.s 11)
                 .skip
                 (.reg [⟨some 20, none, .bin .eql (.s 3) (.c (.d (.int .u8 126))), .none⟩,
                    ⟨some 11, none, .mv (.s 20), .none⟩])))))))))))))))))
        (.ann [0, 11] (.cond (.s 11)
         (.exit 2 none)
         .skip))))
       (.exit 0 none))))
    (.seq (.seq (.reg [⟨some 2, none, .mv (.c (.d (.bool true))), .none⟩])
     (.ret none))
    (.exit 0 none)))))
  (.seq (.reg [⟨some 21, none, .mv (.s 0), .none⟩,
      ⟨some 22, none, .call 122 [.s 21] 2, .none⟩,
      ⟨some 2, none, .mv (.s 22), .none⟩])
  (.ret none))))
def ir94 : F := { n := 23, res := [.tmp 2], body := bd94 }
@[go_sem] theorem n94 : ir94.n = 23 := rfl
@[go_sem] theorem r94 : ir94.res = [.tmp 2] := rfl
@[go_sem] theorem b94 : ir94.body = bd94 := rfl
/-- spence/crange.Right -/
def bd98 : C :=
  (.seq (.reg [⟨some 1, none, .box 88 (.s 0), .none⟩,
      ⟨some 2, none, .mv (.c (.d (.bool false))), .none⟩])
  (.seq (.seq (.reg [⟨some 3, none, .fa (.s 1) 3, .none⟩,
       ⟨some 4, none, .ld (.s 3) 1 false, .none⟩,
       ⟨some 5, none, .bin .neq (.s 4) (.c (.d (.int .i64 (-1)))), .none⟩,
       ⟨some 6, none, .mv (.s 5), .none⟩,
       ⟨some 7, some (6, true), .fa (.s 1) 3, .none⟩,
       ⟨some 8, some (6, true), .ld (.s 7) 1 false, .none⟩,
       ⟨some 9, some (6, true), .call 79 [.s 8, .c (.d (.int .i64 0)), .c (.d (.int .i64 4611686018427387903))] 2, .none⟩,
       ⟨some 10, some (6, true), .un .not (.s 9), .none⟩,
       ⟨some 11, none, .pick (.s 6) (.s 10) (.c (.d (.bool false))), .none⟩])
   (.cond (.s 11)
    (.seq (.reg [⟨some 2, none, .mv (.c (.d (.bool false))), .none⟩])
    (.ret none))
    .skip))
  (.seq (.seq (.reg [⟨some 12, none, .fa (.s 1) 0, .none⟩,
       ⟨some 13, none, .ld (.s 12) 1 false, .none⟩,
       ⟨some 14, none, .un .not (.s 13), .none⟩])
   (.cond (.s 14)
    (.seq (.reg [⟨some 15, none, .fa (.s 1) 1, .none⟩,
        ⟨some 16, none, .ld (.s 15) 2 true, .none⟩,
        ⟨some 17, none, .build [.int .i64 0, .int .i64 0] [], .none⟩,
        ⟨some 18, none, .eqs false [1, 1] (.s 16) (.s 17), .none⟩,
        ⟨some 19, none, .mv (.s 18), .none⟩,
        ⟨some 20, some (19, true), .fa (.s 1) 3, .none⟩,
        ⟨some 21, some (19, true), .ld (.s 20) 1 false, .none⟩,
        ⟨some 22, some (19, true), .bin .neq (.s 21) (.c (.d (.int .i64 (-1)))), .none⟩,
        ⟨some 23, none, .pick (.s 19) (.s 22) (.c (.d (.bool false))), .none⟩,
        ⟨some 2, none, .mv (.s 23), .none⟩])
    (.ret none))
    .skip))
  (.seq (.reg [⟨some 24, none, .fa (.s 1) 1, .none⟩,
      ⟨some 25, none, .ld (.s 24) 2 true, .none⟩,
      ⟨some 26, none, .call 39 [.s 25] 2, .none⟩,
      ⟨some 27, none, .mv (.s 26), .none⟩,
      ⟨some 28, some (27, true), .fa (.s 1) 3, .none⟩,
      ⟨some 29, some (27, true), .ld (.s 28) 1 false, .none⟩,
      ⟨some 30, some (27, true), .bin .eql (.s 29) (.c (.d (.int .i64 (-1)))), .none⟩,
      ⟨some 31, some (27, true), .mv (.s 30), .none⟩,
      ⟨some 32, some (31, false), .fa (.s 1) 1, .none⟩,
      ⟨some 33, some (31, false), .fa (.s 32) 1, .none⟩,
      ⟨some 34, some (31, false), .ld (.s 33) 1 false, .none⟩,
      ⟨some 35, some (31, false), .fa (.s 1) 3, .none⟩,
      ⟨some 36, some (31, false), .ld (.s 35) 1 false, .none⟩,
      ⟨some 37, some (31, false), .bin .leq (.s 34) (.s 36), .none⟩,
      ⟨some 38, some (27, true), .pick (.s 31) (.c (.d (.bool true))) (.s 37), .none⟩,
      ⟨some 39, none, .pick (.s 27) (.s 38) (.c (.d (.bool false))), .none⟩,
      ⟨some 2, none, .mv (.s 39), .none⟩])
  (.ret none)))))
def ir98 : F := { n := 40, res := [.tmp 2], body := bd98 }
@[go_sem] theorem n98 : ir98.n = 40 := rfl
@[go_sem] theorem r98 : ir98.res = [.tmp 2] := rfl
@[go_sem] theorem b98 : ir98.body = bd98 := rfl
def lb99_0 : C :=
  (.block 1 (.seq (.reg [⟨some 12, none, .mv (.s 5), .none⟩,
       ⟨some 13, none, .mv (.s 3), .none⟩,
       ⟨some 14, none, .bin .rem (.s 13) (.c (.d (.int .u64 10))), .none⟩,
       ⟨some 15, none, .bin .add (.c (.d (.int .u64 48))) (.s 14), .none⟩,
       ⟨some 16, none, .cvi .u8 (.s 15), .none⟩,
       ⟨some 17, none, .bsl 5 1 1 [.int .u8 0] [(0, (1, .s 16))], .none⟩,
       ⟨some 18, none, .app 5 1 1 (.s 12) (.s 17), .none⟩,
       ⟨some 5, none, .mv (.s 18), .none⟩])
   (.seq (.reg [⟨some 19, none, .mv (.s 3), .none⟩,
       ⟨some 20, none, .bin .quo (.s 19) (.c (.d (.int .u64 10))), .none⟩,
       ⟨some 3, none, .mv (.s 20), .none⟩])
   (.seq (.reg [⟨some 21, none, .mv (.s 3), .none⟩,
       ⟨some 22, none, .bin .eql (.s 21) (.c (.d (.int .u64 0))), .none⟩])
   (.cond (.s 22)
    (.exit 0 (some [4, 5]))
    .skip)))))
def lp99_0 : C := lb99_0
theorem u99_0 (c : Ev.Callee) (l : Ev.Looper) (s : St) : evC c l lp99_0 s = evC c l lb99_0 s := rfl
abbrev st99_0 (m : Nat) (s3 s4 s5 : AV) (h : Heap) : St := ⟨m, [.unk, .unk, .unk, s3, s4, s5, .unk, .unk, .unk, .unk, .unk, .unk, .unk, .unk, .unk, .unk, .unk, .unk, .unk, .unk, .unk, .unk, .unk, .unk, .unk, .unk, .unk, .unk, .unk], h⟩
@[go_sem] theorem ks99_0 (v0 v1 v2 v3 v4 v5 v6 v7 v8 v9 v10 v11 v12 v13 v14 v15 v16 v17 v18 v19 v20 v21 v22 v23 v24 v25 v26 v27 v28 : AV) : keepS [3, 4] [v0, v1, v2, v3, v4, v5, v6, v7, v8, v9, v10, v11, v12, v13, v14, v15, v16, v17, v18, v19, v20, v21, v22, v23, v24, v25, v26, v27, v28] 0 = [.unk, .unk, .unk, v3, v4, .unk, .unk, .unk, .unk, .unk, .unk, .unk, .unk, .unk, .unk, .unk, .unk, .unk, .unk, .unk, .unk, .unk, .unk, .unk, .unk, .unk, .unk, .unk, .unk] := rfl
@[go_sem] theorem ks99_1 (v0 v1 v2 v3 v4 v5 v6 v7 v8 v9 v10 v11 v12 v13 v14 v15 v16 v17 v18 v19 v20 v21 v22 v23 v24 v25 v26 v27 v28 : AV) : keepS [3, 4, 5] [v0, v1, v2, v3, v4, v5, v6, v7, v8, v9, v10, v11, v12, v13, v14, v15, v16, v17, v18, v19, v20, v21, v22, v23, v24, v25, v26, v27, v28] 0 = [.unk, .unk, .unk, v3, v4, v5, .unk, .unk, .unk, .unk, .unk, .unk, .unk, .unk, .unk, .unk, .unk, .unk, .unk, .unk, .unk, .unk, .unk, .unk, .unk, .unk, .unk, .unk, .unk] := rfl
@[go_sem] theorem ks99_2 (v0 v1 v2 v3 v4 v5 v6 v7 v8 v9 v10 v11 v12 v13 v14 v15 v16 v17 v18 v19 v20 v21 v22 v23 v24 v25 v26 v27 v28 : AV) : keepS [4, 5] [v0, v1, v2, v3, v4, v5, v6, v7, v8, v9, v10, v11, v12, v13, v14, v15, v16, v17, v18, v19, v20, v21, v22, v23, v24, v25, v26, v27, v28] 0 = [.unk, .unk, .unk, .unk, v4, v5, .unk, .unk, .unk, .unk, .unk, .unk, .unk, .unk, .unk, .unk, .unk, .unk, .unk, .unk, .unk, .unk, .unk, .unk, .unk, .unk, .unk, .unk, .unk] := rfl
/-- spence/nums.Print -/
def bd99 : C :=
  (.seq (.reg [⟨some 2, none, .mv (.c (.d (.str []))), .none⟩])
  (.seq (.reg [⟨some 6, none, .mv (.s 0), .none⟩,
      ⟨some 7, none, .cvi .u64 (.s 6), .none⟩,
      ⟨some 3, none, .mv (.s 7), .none⟩,
      ⟨some 4, none, .mv (.c (.d (.str []))), .none⟩])
  (.seq (.seq (.reg [⟨some 8, none, .mv (.s 0), .none⟩,
       ⟨some 9, none, .bin .lss (.s 8) (.c (.d (.int .i64 0))), .none⟩])
   (.cond (.s 9)
    (.reg [⟨some 10, none, .mv (.s 3), .none⟩,
       ⟨some 11, none, .un .neg (.s 10), .none⟩,
       ⟨some 3, none, .mv (.s 11), .none⟩,
       ⟨some 4, none, .mv (.c (.d (.str [45]))), .none⟩])
    .skip))
  (.ann [3, 4] (.seq (.reg [⟨some 5, none, .mv (.c (.d .nils)), .one 1 true⟩])
  (.seq (.block 0 (.loop [3, 4, 5] lp99_0))
  (.seq (.reg [⟨some 23, none, .mv (.s 5), .none⟩,
      ⟨some 24, none, .call 124 [.s 23] 1, .none⟩])
  (.seq (.reg [⟨some 25, none, .mv (.s 4), .none⟩,
      ⟨some 26, none, .mv (.s 5), .none⟩,
      ⟨some 27, none, .b2s (.s 26), .none⟩,
      ⟨some 28, none, .bin .add (.s 25) (.s 27), .none⟩,
      ⟨some 2, none, .mv (.s 28), .none⟩])
  (.ret none)))))))))
def ir99 : F := { n := 29, res := [.tmp 2], body := bd99 }
@[go_sem] theorem n99 : ir99.n = 29 := rfl
@[go_sem] theorem r99 : ir99.res = [.tmp 2] := rfl
@[go_sem] theorem b99 : ir99.body = bd99 := rfl
/-- bytes.CutPrefix -/
def bd100 : C :=
  (.seq (.reg [⟨some 4, none, .mv (.c (.d .nils)), .one 1 false⟩,
      ⟨some 5, none, .mv (.c (.d (.bool false))), .none⟩])
  (.seq (.seq (.reg [⟨some 6, none, .mv (.s 0), .none⟩,
       ⟨some 7, none, .mv (.s 1), .none⟩,
       ⟨some 8, none, .call 71 [.s 6, .s 7] 2, .none⟩,
       ⟨some 9, none, .un .not (.s 8), .none⟩])
   (.cond (.s 9)
    (.seq (.reg [⟨some 10, none, .mv (.s 0), .none⟩,
        ⟨some 4, none, .mv (.s 10), .none⟩,
        ⟨some 5, none, .mv (.c (.d (.bool false))), .none⟩])
    (.ret none))
    .skip))
  (.seq (.reg [⟨some 11, none, .mv (.s 0), .none⟩,
      ⟨some 12, none, .mv (.s 1), .none⟩,
      ⟨some 13, none, .len (.s 12), .none⟩,
      ⟨some 14, none, .sl (.s 11) (some (.s 13)) none none 1, .none⟩,
      ⟨some 4, none, .mv (.s 14), .none⟩,
      ⟨some 5, none, .mv (.c (.d (.bool true))), .none⟩])
  (.ret none))))
def ir100 : F := { n := 15, res := [.tmp 4, .tmp 5], body := bd100 }
@[go_sem] theorem n100 : ir100.n = 15 := rfl
@[go_sem] theorem r100 : ir100.res = [.tmp 4, .tmp 5] := rfl
@[go_sem] theorem b100 : ir100.body = bd100 := rfl
/-- (*spence/multi.reader).content -/
def bd101 : C :=
  (.seq (.reg [⟨some 2, none, .alloc 88 [.bool false, .int .i64 0, .int .i64 0, .int .i64 0], .none⟩,
      ⟨some 3, none, .mv (.c (.d .nili)), .none⟩])
  (.seq (.reg [⟨some 9, none, .mv (.s 0), .none⟩,
      ⟨some 10, none, .call 125 [.s 9] 0, .none⟩,
      ⟨some 8, none, .mv (.s 10), .none⟩,
      ⟨some 11, none, .ext (.s 8) 0, .none⟩,
      ⟨some 12, none, .ext (.s 8) 1, .none⟩,
      ⟨some 4, none, .mv (.s 11), .none⟩,
      ⟨some 5, none, .mv (.s 12), .none⟩])
  (.seq (.seq (.reg [⟨some 13, none, .mv (.s 5), .none⟩,
       ⟨some 14, none, .isn true 4 (.s 13), .none⟩])
   (.cond (.s 14)
    (.seq (.reg [⟨some 15, none, .build [.bool false, .int .i64 0, .int .i64 0, .int .i64 0] [], .none⟩,
        ⟨some 16, none, .mv (.s 5), .none⟩,
        ⟨none, none, .st (.s 2) (.s 15) 4, .none⟩,
        ⟨some 3, none, .mv (.s 16), .none⟩])
    (.ret none))
    .skip))
  (.seq (.reg [⟨some 18, none, .mv (.s 4), .none⟩,
      ⟨some 19, none, .call 74 [.s 18] 2, .none⟩,
      ⟨some 17, none, .mv (.s 19), .none⟩,
      ⟨some 20, none, .ext (.s 17) 0, .none⟩,
      ⟨some 21, none, .ext (.s 17) 1, .none⟩,
      ⟨some 6, none, .alloc 88 [.bool false, .int .i64 0, .int .i64 0, .int .i64 0], .none⟩,
      ⟨none, none, .st (.s 6) (.s 20) 4, .none⟩,
      ⟨some 7, none, .mv (.s 21), .none⟩])
  (.seq (.seq (.reg [⟨some 22, none, .mv (.s 7), .none⟩,
       ⟨some 23, none, .bin .neq (.s 22) (.c (.d (.int .i64 0))), .none⟩,
       ⟨some 24, none, .mv (.s 23), .none⟩,
       ⟨some 25, some (24, false), .ld (.s 6) 4 true, .none⟩,
       ⟨some 26, some (24, false), .call 68 [.s 25] 2, .none⟩,
       ⟨some 27, some (24, false), .mv (.s 4), .none⟩,
       ⟨some 28, some (24, false), .bin .neq (.s 26) (.s 27), .none⟩,
       ⟨some 29, none, .pick (.s 24) (.c (.d (.bool true))) (.s 28), .none⟩,
       ⟨some 30, none, .mv (.s 29), .none⟩,
       ⟨some 31, some (30, false), .fa (.s 6) 0, .none⟩,
       ⟨some 32, some (30, false), .ld (.s 31) 1 false, .none⟩,
       ⟨some 33, some (30, false), .un .not (.s 32), .none⟩,
       ⟨some 34, none, .pick (.s 30) (.c (.d (.bool true))) (.s 33), .none⟩,
       ⟨some 35, none, .mv (.s 34), .none⟩,
       ⟨some 36, some (35, false), .fa (.s 6) 3, .none⟩,
       ⟨some 37, some (35, false), .ld (.s 36) 1 false, .none⟩,
       ⟨some 38, some (35, false), .bin .lss (.s 37) (.c (.d (.int .i64 0))), .none⟩,
       ⟨some 39, none, .pick (.s 35) (.c (.d (.bool true))) (.s 38), .none⟩])
   (.cond (.s 39)
    (.seq (.reg [⟨some 40, none, .build [.bool false, .int .i64 0, .int .i64 0, .int .i64 0] [], .none⟩,
        ⟨some 41, none, .build [.int .i64 0] [(0, (1, .c (.d (.int .i64 3))))], .none⟩,
        ⟨some 42, none, .mi 127 (.s 41), .none⟩,
        ⟨none, none, .st (.s 2) (.s 40) 4, .none⟩,
        ⟨some 3, none, .mv (.s 42), .none⟩])
    (.ret none))
    .skip))
  (.seq (.reg [⟨some 43, none, .ld (.s 6) 4 true, .none⟩,
      ⟨none, none, .st (.s 2) (.s 43) 4, .none⟩,
      ⟨some 3, none, .mv (.c (.d .nili)), .none⟩])
  (.ret none)))))))
def ir101 : F := { n := 44, res := [.cell 2 4 true, .tmp 3], body := bd101 }
@[go_sem] theorem n101 : ir101.n = 44 := rfl
@[go_sem] theorem r101 : ir101.res = [.cell 2 4 true, .tmp 3] := rfl
@[go_sem] theorem b101 : ir101.body = bd101 := rfl
/-- spence/text.Cut -/
def bd106 : C :=
  (.seq (.reg [⟨some 4, none, .mv (.c (.d (.str []))), .none⟩,
      ⟨some 5, none, .mv (.c (.d (.str []))), .none⟩,
      ⟨some 6, none, .mv (.c (.d (.bool false))), .none⟩])
  (.seq (.reg [⟨some 8, none, .mv (.s 0), .none⟩,
      ⟨some 9, none, .mv (.s 1), .none⟩,
      ⟨some 10, none, .call 129 [.s 8, .s 9] 2, .none⟩,
      ⟨some 7, none, .mv (.s 10), .none⟩])
  (.seq (.seq (.reg [⟨some 11, none, .mv (.s 7), .none⟩,
       ⟨some 12, none, .bin .lss (.s 11) (.c (.d (.int .i64 0))), .none⟩])
   (.cond (.s 12)
    (.seq (.reg [⟨some 13, none, .mv (.s 0), .none⟩,
        ⟨some 4, none, .mv (.s 13), .none⟩,
        ⟨some 5, none, .mv (.c (.d (.str []))), .none⟩,
        ⟨some 6, none, .mv (.c (.d (.bool false))), .none⟩])
    (.ret none))
    .skip))
  (.seq (.drw [⟨some 14, none, .mv (.s 0), .none⟩,
      ⟨some 15, none, .mv (.s 7), .none⟩,
      ⟨some 16, none, .ssl (.s 14) none (some (.s 15)), .none⟩,
      ⟨some 17, none, .mv (.s 0), .none⟩,
      ⟨some 18, none, .mv (.s 7), .none⟩,
      ⟨some 19, none, .bin .add (.s 18) (.c (.d (.int .i64 1))), .none⟩,
      ⟨some 20, none, .ssl (.s 17) (some (.s 19)) none, .none⟩,
      ⟨some 4, none, .mv (.s 16), .none⟩,
      ⟨some 5, none, .mv (.s 20), .none⟩,
      ⟨some 6, none, .mv (.c (.d (.bool true))), .none⟩]
     [[], [], [0, 1], [], [], [4], [3, 5], [2, 0, 1, 2], [6, 7, 0, 1, 2, 3, 4, 5, 6, 7], [8, 0, 1, 2, 3, 4, 5, 6, 7, 8]] [])
  (.ret none)))))
def ir106 : F := { n := 21, res := [.tmp 4, .tmp 5, .tmp 6], body := bd106 }
@[go_sem] theorem n106 : ir106.n = 21 := rfl
@[go_sem] theorem r106 : ir106.res = [.tmp 4, .tmp 5, .tmp 6] := rfl
@[go_sem] theorem b106 : ir106.body = bd106 := rfl
/-- spence/text.Fold -/
def bd107 : C :=
  (.seq (.reg [⟨some 4, none, .mv (.c (.d (.bool false))), .none⟩])
  (.seq (.reg [⟨some 5, none, .mv (.s 0), .none⟩,
      ⟨some 6, none, .call 130 [.s 5] 2, .none⟩,
      ⟨some 7, none, .mv (.s 1), .none⟩,
      ⟨some 8, none, .call 130 [.s 7] 2, .none⟩,
      ⟨some 9, none, .bin .eql (.s 6) (.s 8), .none⟩,
      ⟨some 4, none, .mv (.s 9), .none⟩])
  (.ret none)))
def ir107 : F := { n := 10, res := [.tmp 4], body := bd107 }
@[go_sem] theorem n107 : ir107.n = 10 := rfl
@[go_sem] theorem r107 : ir107.res = [.tmp 4] := rfl
@[go_sem] theorem b107 : ir107.body = bd107 := rfl
@[go_sem] theorem ks108_0 (v0 v1 v2 v3 v4 v5 v6 v7 v8 v9 v10 v11 v12 v13 v14 v15 v16 v17 v18 v19 v20 v21 v22 v23 v24 v25 : AV) : keepS [5] [v0, v1, v2, v3, v4, v5, v6, v7, v8, v9, v10, v11, v12, v13, v14, v15, v16, v17, v18, v19, v20, v21, v22, v23, v24, v25] 0 = [.unk, .unk, .unk, .unk, .unk, v5, .unk, .unk, .unk, .unk, .unk, .unk, .unk, .unk, .unk, .unk, .unk, .unk, .unk, .unk, .unk, .unk, .unk, .unk, .unk, .unk] := rfl
/-- (*spence/crange.reader).number -/
def bd108 : C :=
  (.seq (.reg [⟨some 4, none, .mv (.c (.d (.int .i64 0))), .none⟩])
  (.seq (.reg [⟨some 8, none, .mv (.s 1), .none⟩,
      ⟨some 9, none, .call 131 [.s 8] 2, .none⟩,
      ⟨some 7, none, .mv (.s 9), .none⟩,
      ⟨some 10, none, .ext (.s 7) 0, .none⟩,
      ⟨some 11, none, .ext (.s 7) 1, .none⟩,
      ⟨some 5, none, .mv (.s 10), .none⟩,
      ⟨some 6, none, .mv (.s 11), .none⟩])
  (.seq (.seq (.reg [⟨some 12, none, .mv (.s 6), .none⟩,
       ⟨some 13, none, .bin .eql (.s 12) (.c (.d (.int .i64 3))), .none⟩,
       ⟨some 14, none, .mv (.s 13), .none⟩,
       ⟨some 15, some (14, false), .mv (.s 0), .none⟩,
       ⟨some 16, some (14, false), .nc (.s 15), .none⟩,
       ⟨some 17, some (14, false), .fa (.s 16) 0, .none⟩,
       ⟨some 18, some (14, false), .ld (.s 17) 1 false, .none⟩,
       ⟨some 19, some (14, false), .bin .eql (.s 18) (.c (.d (.int .i64 0))), .none⟩,
       ⟨some 20, none, .pick (.s 14) (.c (.d (.bool true))) (.s 19), .none⟩])
   (.cond (.s 20)
    (.reg [⟨some 21, none, .mv (.s 0), .none⟩,
       ⟨some 22, none, .mv (.s 6), .none⟩,
       ⟨some 23, none, .nc (.s 21), .none⟩,
       ⟨some 24, none, .fa (.s 23) 0, .none⟩,
       ⟨none, none, .st (.s 24) (.s 22) 1, .none⟩])
    .skip))
  (.ann [5] (.seq (.reg [⟨some 25, none, .mv (.s 5), .none⟩,
      ⟨some 4, none, .mv (.s 25), .none⟩])
  (.ret none))))))
def ir108 : F := { n := 26, res := [.tmp 4], body := bd108 }
@[go_sem] theorem n108 : ir108.n = 26 := rfl
@[go_sem] theorem r108 : ir108.res = [.tmp 4] := rfl
@[go_sem] theorem b108 : ir108.body = bd108 := rfl
def lb112_0 : C :=
  (.seq (.seq (.reg [⟨some 6, none, .mv (.s 3), .none⟩,
       ⟨some 7, none, .bin .gtr (.s 6) (.c (.d (.int .i64 0))), .none⟩,
       ⟨some 8, none, .mv (.s 7), .none⟩,
       ⟨some 9, some (8, true), .mv (.s 0), .none⟩,
       ⟨some 10, some (8, true), .mv (.s 3), .none⟩,
       ⟨some 11, some (8, true), .bin .sub (.s 10) (.c (.d (.int .i64 1))), .none⟩,
       ⟨some 12, some (8, true), .sti (.s 9) (.s 11), .none⟩,
       ⟨some 13, some (8, true), .call 113 [.s 12] 2, .none⟩,
       ⟨some 14, none, .pick (.s 8) (.s 13) (.c (.d (.bool false))), .none⟩])
   (.cond (.s 14)
    .skip
    (.exit 0 (some [0, 3]))))
  (.block 1 (.reg [⟨some 15, none, .mv (.s 3), .none⟩,
      ⟨some 16, none, .bin .sub (.s 15) (.c (.d (.int .i64 1))), .none⟩,
      ⟨some 3, none, .mv (.s 16), .none⟩])))
def lp112_0 : C := lb112_0
theorem u112_0 (c : Ev.Callee) (l : Ev.Looper) (s : St) : evC c l lp112_0 s = evC c l lb112_0 s := rfl
abbrev st112_0 (m : Nat) (s0 s3 : AV) (h : Heap) : St := ⟨m, [s0, .unk, .unk, s3, .unk, .unk, .unk, .unk, .unk, .unk, .unk, .unk, .unk, .unk, .unk, .unk, .unk, .unk, .unk, .unk], h⟩
@[go_sem] theorem ks112_0 (v0 v1 v2 v3 v4 v5 v6 v7 v8 v9 v10 v11 v12 v13 v14 v15 v16 v17 v18 v19 : AV) : keepS [0, 3] [v0, v1, v2, v3, v4, v5, v6, v7, v8, v9, v10, v11, v12, v13, v14, v15, v16, v17, v18, v19] 0 = [v0, .unk, .unk, v3, .unk, .unk, .unk, .unk, .unk, .unk, .unk, .unk, .unk, .unk, .unk, .unk, .unk, .unk, .unk, .unk] := rfl
/-- spence/text.Right -/
def bd112 : C :=
  (.seq (.reg [⟨some 2, none, .mv (.c (.d (.str []))), .none⟩])
  (.seq (.reg [⟨some 4, none, .mv (.s 0), .none⟩,
      ⟨some 5, none, .lens (.s 4), .none⟩,
      ⟨some 3, none, .mv (.s 5), .none⟩])
  (.seq (.block 0 (.loop [0, 3] lp112_0))
  (.seq (.reg [⟨some 17, none, .mv (.s 0), .none⟩,
      ⟨some 18, none, .mv (.s 3), .none⟩,
      ⟨some 19, none, .ssl (.s 17) none (some (.s 18)), .none⟩,
      ⟨some 2, none, .mv (.s 19), .none⟩])
  (.ret none)))))
def ir112 : F := { n := 20, res := [.tmp 2], body := bd112 }
@[go_sem] theorem n112 : ir112.n = 20 := rfl
@[go_sem] theorem r112 : ir112.res = [.tmp 2] := rfl
@[go_sem] theorem b112 : ir112.body = bd112 := rfl
/-- spence/text.blank -/
def bd113 : C :=
  (.seq (.reg [⟨some 2, none, .mv (.c (.d (.bool false))), .none⟩])
  (.seq (.reg [⟨some 3, none, .mv (.s 0), .none⟩,
      ⟨some 4, none, .bin .eql (.s 3) (.c (.d (.int .u8 32))), .none⟩,
      ⟨some 5, none, .mv (.s 4), .none⟩,
      ⟨some 6, some (5, false), .mv (.s 0), .none⟩,
      ⟨some 7, some (5, false), .bin .eql (.s 6) (.c (.d (.int .u8 9))), .none⟩,
      ⟨some 8, none, .pick (.s 5) (.c (.d (.bool true))) (.s 7), .none⟩,
      ⟨some 2, none, .mv (.s 8), .none⟩])
  (.ret none)))
def ir113 : F := { n := 9, res := [.tmp 2], body := bd113 }
@[go_sem] theorem n113 : ir113.n = 9 := rfl
@[go_sem] theorem r113 : ir113.res = [.tmp 2] := rfl
@[go_sem] theorem b113 : ir113.body = bd113 := rfl
/-- spence/text.letter -/
def bd122 : C :=
  (.seq (.reg [⟨some 2, none, .mv (.c (.d (.bool false))), .none⟩])
  (.seq (.reg [⟨some 3, none, .mv (.s 0), .none⟩,
      ⟨some 4, none, .bin .geq (.s 3) (.c (.d (.int .u8 97))), .none⟩,
      ⟨some 5, none, .mv (.s 4), .none⟩,
      ⟨some 6, some (5, true), .mv (.s 0), .none⟩,
      ⟨some 7, some (5, true), .bin .leq (.s 6) (.c (.d (.int .u8 122))), .none⟩,
      ⟨some 8, none, .pick (.s 5) (.s 7) (.c (.d (.bool false))), .none⟩,
      ⟨some 9, none, .mv (.s 8), .none⟩,
      ⟨some 10, some (9, false), .mv (.s 0), .none⟩,
      ⟨some 11, some (9, false), .bin .geq (.s 10) (.c (.d (.int .u8 65))), .none⟩,
      ⟨some 12, some (9, false), .mv (.s 11), .none⟩,
      ⟨some 13, some (12, true), .mv (.s 0), .none⟩,
      ⟨some 14, some (12, true), .bin .leq (.s 13) (.c (.d (.int .u8 90))), .none⟩,
      ⟨some 15, some (9, false), .pick (.s 12) (.s 14) (.c (.d (.bool false))), .none⟩,
      ⟨some 16, none, .pick (.s 9) (.c (.d (.bool true))) (.s 15), .none⟩,
      ⟨some 17, none, .mv (.s 16), .none⟩,
      ⟨some 18, some (17, false), .mv (.s 0), .none⟩,
      ⟨some 19, some (17, false), .bin .geq (.s 18) (.c (.d (.int .u8 48))), .none⟩,
      ⟨some 20, some (17, false), .mv (.s 19), .none⟩,
      ⟨some 21, some (20, true), .mv (.s 0), .none⟩,
      ⟨some 22, some (20, true), .bin .leq (.s 21) (.c (.d (.int .u8 57))), .none⟩,
      ⟨some 23, some (17, false), .pick (.s 20) (.s 22) (.c (.d (.bool false))), .none⟩,
      ⟨some 24, none, .pick (.s 17) (.c (.d (.bool true))) (.s 23), .none⟩,
      ⟨some 2, none, .mv (.s 24), .none⟩])
  (.ret none)))
def ir122 : F := { n := 25, res := [.tmp 2], body := bd122 }
@[go_sem] theorem n122 : ir122.n = 25 := rfl
@[go_sem] theorem r122 : ir122.res = [.tmp 2] := rfl
@[go_sem] theorem b122 : ir122.body = bd122 := rfl
def lb124_0 : C :=
  (.seq (.seq (.reg [⟨some 7, none, .mv (.s 2), .none⟩,
       ⟨some 8, none, .mv (.s 3), .none⟩,
       ⟨some 9, none, .bin .lss (.s 7) (.s 8), .none⟩])
   (.cond (.s 9)
    .skip
    (.exit 0 (some []))))
  (.seq (.block 1 (.drw [⟨some 14, none, .mv (.s 0), .none⟩,
       ⟨some 15, none, .mv (.s 2), .none⟩,
       ⟨some 16, none, .mv (.s 0), .none⟩,
       ⟨some 17, none, .mv (.s 3), .none⟩,
       ⟨some 18, none, .mv (.s 0), .none⟩,
       ⟨some 19, none, .mv (.s 3), .none⟩,
       ⟨some 20, none, .is (.s 18) (.s 19) 1, .none⟩,
       ⟨some 21, none, .ld (.s 20) 1 false, .none⟩,
       ⟨some 22, none, .mv (.s 0), .none⟩,
       ⟨some 23, none, .mv (.s 2), .none⟩,
       ⟨some 24, none, .is (.s 22) (.s 23) 1, .none⟩,
       ⟨some 25, none, .ld (.s 24) 1 false, .none⟩,
       ⟨some 26, none, .is (.s 14) (.s 15) 1, .none⟩,
       ⟨none, none, .st (.s 26) (.s 21) 1, .none⟩,
       ⟨some 27, none, .is (.s 16) (.s 17) 1, .none⟩,
       ⟨none, none, .st (.s 27) (.s 25) 1, .none⟩]
      [[], [], [], [], [], [], [4, 5], [6], [], [], [8, 9], [10], [0, 1, 0, 1, 4, 5, 6, 7, 11], [12, 7, 0, 1, 4, 5, 6, 7, 11], [2, 3, 0, 1, 2, 3, 4, 5, 6, 7, 8, 9, 10, 11, 12, 13], [14, 11, 13, 0, 1, 2, 3, 4, 5, 6, 7, 8, 9, 10, 11, 12, 13]] []))
  (.reg [⟨some 10, none, .mv (.s 2), .none⟩,
     ⟨some 11, none, .bin .add (.s 10) (.c (.d (.int .i64 1))), .none⟩,
     ⟨some 12, none, .mv (.s 3), .none⟩,
     ⟨some 13, none, .bin .sub (.s 12) (.c (.d (.int .i64 1))), .none⟩,
     ⟨some 2, none, .mv (.s 11), .none⟩,
     ⟨some 3, none, .mv (.s 13), .none⟩])))
def lp124_0 : C := lb124_0
theorem u124_0 (c : Ev.Callee) (l : Ev.Looper) (s : St) : evC c l lp124_0 s = evC c l lb124_0 s := rfl
abbrev st124_0 (m : Nat) (s0 s2 s3 : AV) (h : Heap) : St := ⟨m, [s0, .unk, s2, s3, .unk, .unk, .unk, .unk, .unk, .unk, .unk, .unk, .unk, .unk, .unk, .unk, .unk, .unk, .unk, .unk, .unk, .unk, .unk, .unk, .unk, .unk, .unk, .unk], h⟩
@[go_sem] theorem ks124_0 (v0 v1 v2 v3 v4 v5 v6 v7 v8 v9 v10 v11 v12 v13 v14 v15 v16 v17 v18 v19 v20 v21 v22 v23 v24 v25 v26 v27 : AV) : keepS [0, 2, 3] [v0, v1, v2, v3, v4, v5, v6, v7, v8, v9, v10, v11, v12, v13, v14, v15, v16, v17, v18, v19, v20, v21, v22, v23, v24, v25, v26, v27] 0 = [v0, .unk, v2, v3, .unk, .unk, .unk, .unk, .unk, .unk, .unk, .unk, .unk, .unk, .unk, .unk, .unk, .unk, .unk, .unk, .unk, .unk, .unk, .unk, .unk, .unk, .unk, .unk] := rfl
@[go_sem] theorem ks124_1 (v0 v1 v2 v3 v4 v5 v6 v7 v8 v9 v10 v11 v12 v13 v14 v15 v16 v17 v18 v19 v20 v21 v22 v23 v24 v25 v26 v27 : AV) : keepS [] [v0, v1, v2, v3, v4, v5, v6, v7, v8, v9, v10, v11, v12, v13, v14, v15, v16, v17, v18, v19, v20, v21, v22, v23, v24, v25, v26, v27] 0 = [.unk, .unk, .unk, .unk, .unk, .unk, .unk, .unk, .unk, .unk, .unk, .unk, .unk, .unk, .unk, .unk, .unk, .unk, .unk, .unk, .unk, .unk, .unk, .unk, .unk, .unk, .unk, .unk] := rfl
/-- slices.Reverse[[]byte,byte] -/
def bd124 : C :=
  (.seq (.reg [⟨some 4, none, .mv (.s 0), .none⟩,
      ⟨some 5, none, .len (.s 4), .none⟩,
      ⟨some 6, none, .bin .sub (.s 5) (.c (.d (.int .i64 1))), .none⟩,
      ⟨some 2, none, .mv (.c (.d (.int .i64 0))), .none⟩,
      ⟨some 3, none, .mv (.s 6), .none⟩])
  (.block 0 (.loop [0, 2, 3] lp124_0)))
def ir124 : F := { n := 28, res := [], body := bd124 }
@[go_sem] theorem n124 : ir124.n = 28 := rfl
@[go_sem] theorem r124 : ir124.res = [] := rfl
@[go_sem] theorem b124 : ir124.body = bd124 := rfl
/-- (*spence/multi.reader).until -/
def bd125 : C :=
  (.seq (.reg [⟨some 2, none, .mv (.c (.d (.str []))), .none⟩,
      ⟨some 3, none, .mv (.c (.d .nili)), .none⟩])
  (.seq (.reg [⟨some 8, none, .mv (.s 0), .none⟩,
      ⟨some 9, none, .nc (.s 8), .none⟩,
      ⟨some 10, none, .fa (.s 9) 0, .none⟩,
      ⟨some 11, none, .ld (.s 10) 1 false, .none⟩,
      ⟨some 12, none, .bsl 5 1 2 [.int .u8 0] [(0, (1, .c (.d (.int .u8 13)))), (1, (1, .c (.d (.int .u8 10))))], .none⟩,
      ⟨some 13, none, .cvl (.s 12), .none⟩,
      ⟨some 14, none, .call 146 [.s 11, .s 13] 0, .none⟩,
      ⟨some 7, none, .mv (.s 14), .none⟩,
      ⟨some 15, none, .ext (.s 7) 0, .none⟩,
      ⟨some 16, none, .ext (.s 7) 1, .none⟩,
      ⟨some 17, none, .ext (.s 7) 2, .none⟩,
      ⟨some 4, none, .mv (.s 15), .none⟩,
      ⟨some 5, none, .mv (.s 16), .none⟩,
      ⟨some 6, none, .mv (.s 17), .none⟩])
  (.seq (.seq (.reg [⟨some 18, none, .mv (.s 6), .none⟩,
       ⟨some 19, none, .un .not (.s 18), .none⟩])
   (.cond (.s 19)
    (.seq (.reg [⟨some 20, none, .build [.int .i64 0] [(0, (1, .c (.d (.int .i64 3))))], .none⟩,
        ⟨some 21, none, .mi 127 (.s 20), .none⟩,
        ⟨some 2, none, .mv (.c (.d (.str []))), .none⟩,
        ⟨some 3, none, .mv (.s 21), .none⟩])
    (.ret none))
    .skip))
  (.seq (.reg [⟨some 22, none, .mv (.s 0), .none⟩,
      ⟨some 23, none, .mv (.s 5), .none⟩,
      ⟨some 24, none, .nc (.s 22), .none⟩,
      ⟨some 25, none, .fa (.s 24) 0, .none⟩,
      ⟨none, none, .st (.s 25) (.s 23) 1, .none⟩])
  (.seq (.reg [⟨some 26, none, .mv (.s 4), .none⟩,
      ⟨some 27, none, .b2s (.s 26), .none⟩,
      ⟨some 2, none, .mv (.s 27), .none⟩,
      ⟨some 3, none, .mv (.c (.d .nili)), .none⟩])
  (.ret none))))))
def ir125 : F := { n := 28, res := [.tmp 2, .tmp 3], body := bd125 }
@[go_sem] theorem n125 : ir125.n = 28 := rfl
@[go_sem] theorem r125 : ir125.res = [.tmp 2, .tmp 3] := rfl
@[go_sem] theorem b125 : ir125.body = bd125 := rfl
def lb130_0 : C :=
  (.seq (.reg [⟨some 11, none, .bin .lss (.s 10) (.s 9), .none⟩])
  (.seq (.cond (.s 11)
    .skip
    (.exit 0 (some [3])))
  (.seq (.block 1 (.seq (.reg [⟨some 12, none, .mv (.s 10), .none⟩,
        ⟨some 13, none, .is (.s 8) (.s 10) 1, .none⟩,
        ⟨some 14, none, .ld (.s 13) 1 false, .none⟩,
        ⟨some 4, none, .mv (.s 12), .none⟩,
        ⟨some 5, none, .mv (.s 14), .none⟩])
    (.seq (.reg [⟨some 15, none, .mv (.s 5), .none⟩,
        ⟨some 16, none, .bin .geq (.s 15) (.c (.d (.int .u8 65))), .none⟩,
        ⟨some 17, none, .mv (.s 16), .none⟩,
        ⟨some 18, some (17, true), .mv (.s 5), .none⟩,
        ⟨some 19, some (17, true), .bin .leq (.s 18) (.c (.d (.int .u8 90))), .none⟩,
        ⟨some 20, none, .pick (.s 17) (.s 19) (.c (.d (.bool false))), .none⟩])
    (.cond (.s 20)
     (.reg [⟨some 21, none, .mv (.s 3), .none⟩,
        ⟨some 22, none, .mv (.s 4), .none⟩,
        ⟨some 23, none, .mv (.s 5), .none⟩,
        ⟨some 24, none, .bin .sub (.s 23) (.c (.d (.int .u8 65))), .none⟩,
        ⟨some 25, none, .bin .add (.s 24) (.c (.d (.int .u8 97))), .none⟩,
        ⟨some 26, none, .is (.s 21) (.s 22) 1, .none⟩,
        ⟨none, none, .st (.s 26) (.s 25) 1, .none⟩])
     .skip))))
  (.reg [⟨some 27, none, .bin .add (.s 10) (.c (.d (.int .i64 1))), .none⟩,
     ⟨some 10, none, .mv (.s 27), .none⟩]))))
def lp130_0 : C := lb130_0
theorem u130_0 (c : Ev.Callee) (l : Ev.Looper) (s : St) : evC c l lp130_0 s = evC c l lb130_0 s := rfl
abbrev st130_0 (m : Nat) (s3 s8 s9 s10 : AV) (h : Heap) : St := ⟨m, [.unk, .unk, .unk, s3, .unk, .unk, .unk, .unk, s8, s9, s10, .unk, .unk, .unk, .unk, .unk, .unk, .unk, .unk, .unk, .unk, .unk, .unk, .unk, .unk, .unk, .unk, .unk, .unk, .unk], h⟩
@[go_sem] theorem ks130_0 (v0 v1 v2 v3 v4 v5 v6 v7 v8 v9 v10 v11 v12 v13 v14 v15 v16 v17 v18 v19 v20 v21 v22 v23 v24 v25 v26 v27 v28 v29 : AV) : keepS [3, 8, 9, 10] [v0, v1, v2, v3, v4, v5, v6, v7, v8, v9, v10, v11, v12, v13, v14, v15, v16, v17, v18, v19, v20, v21, v22, v23, v24, v25, v26, v27, v28, v29] 0 = [.unk, .unk, .unk, v3, .unk, .unk, .unk, .unk, v8, v9, v10, .unk, .unk, .unk, .unk, .unk, .unk, .unk, .unk, .unk, .unk, .unk, .unk, .unk, .unk, .unk, .unk, .unk, .unk, .unk] := rfl
@[go_sem] theorem ks130_1 (v0 v1 v2 v3 v4 v5 v6 v7 v8 v9 v10 v11 v12 v13 v14 v15 v16 v17 v18 v19 v20 v21 v22 v23 v24 v25 v26 v27 v28 v29 : AV) : keepS [3] [v0, v1, v2, v3, v4, v5, v6, v7, v8, v9, v10, v11, v12, v13, v14, v15, v16, v17, v18, v19, v20, v21, v22, v23, v24, v25, v26, v27, v28, v29] 0 = [.unk, .unk, .unk, v3, .unk, .unk, .unk, .unk, .unk, .unk, .unk, .unk, .unk, .unk, .unk, .unk, .unk, .unk, .unk, .unk, .unk, .unk, .unk, .unk, .unk, .unk, .unk, .unk, .unk, .unk] := rfl
/-- spence/text.Lower -/
def bd130 : C :=
  (.seq (.reg [⟨some 2, none, .mv (.c (.d (.str []))), .none⟩])
  (.seq (.reg [⟨some 6, none, .mv (.s 0), .none⟩,
      ⟨some 7, none, .s2b 5 (.s 6), .none⟩,
      ⟨some 3, none, .mv (.s 7), .none⟩])
  (.seq (.seq (.reg [⟨some 8, none, .mv (.s 3), .none⟩,
       ⟨some 9, none, .len (.s 8), .none⟩,
       ⟨some 10, none, .mv (.c (.d (.int .i64 0))), .none⟩])
   (.block 0 (.loop [3, 8, 9, 10] lp130_0)))
  (.seq (.reg [⟨some 28, none, .mv (.s 3), .none⟩,
      ⟨some 29, none, .b2s (.s 28), .none⟩,
      ⟨some 2, none, .mv (.s 29), .none⟩])
  (.ret none)))))
def ir130 : F := { n := 30, res := [.tmp 2], body := bd130 }
@[go_sem] theorem n130 : ir130.n = 30 := rfl
@[go_sem] theorem r130 : ir130.res = [.tmp 2] := rfl
@[go_sem] theorem b130 : ir130.body = bd130 := rfl
def lb131_0 : C :=
  (.seq (.reg [⟨some 12, none, .bin .lss (.s 11) (.s 10), .none⟩])
  (.seq (.cond (.s 12)
    .skip
    (.exit 0 (some [0, 4, 5])))
  (.seq (.block 1 (.seq (.reg [⟨some 13, none, .mv (.s 11), .none⟩,
        ⟨some 6, none, .mv (.s 13), .none⟩])
    (.seq (.reg [⟨some 15, none, .mv (.s 0), .none⟩,
        ⟨some 16, none, .mv (.s 6), .none⟩,
        ⟨some 17, none, .sti (.s 15) (.s 16), .none⟩,
        ⟨some 18, none, .call 148 [.s 17] 2, .none⟩,
        ⟨some 14, none, .mv (.s 18), .none⟩,
        ⟨some 19, none, .ext (.s 14) 0, .none⟩,
        ⟨some 20, none, .ext (.s 14) 1, .none⟩,
        ⟨some 7, none, .mv (.s 19), .none⟩,
        ⟨some 8, none, .mv (.s 20), .none⟩])
    (.seq (.block 2 (.seq (.reg [⟨some 22, none, .mv (.s 8), .none⟩,
          ⟨some 23, none, .un .not (.s 22), .none⟩,
          ⟨some 21, none, .mv (.s 23), .none⟩])
      (.cond (.s 21)
       (.seq (.reg [⟨some 2, none, .mv (.c (.d (.int .i64 0))), .none⟩,
           ⟨some 3, none, .mv (.c (.d (.int .i64 3))), .none⟩])
       (.ret (some [2, 3])))
       (.seq (.reg [⟨some 25, none, .mv (.s 5), .none⟩,
           ⟨some 24, none, .mv (.s 25), .none⟩])
       (.cond (.s 24)
        (.exit 1 none)
        .skip)))))
    (.seq (.seq (.reg [⟨some 26, none, .mv (.s 4), .none⟩,
         ⟨some 27, none, .mv (.s 7), .none⟩,
         ⟨some 28, none, .bin .sub (.c (.d (.int .i64 4611686018427387903))) (.s 27), .none⟩,
         ⟨some 29, none, .bin .quo (.s 28) (.c (.d (.int .i64 10))), .none⟩,
         ⟨some 30, none, .bin .gtr (.s 26) (.s 29), .none⟩])
     (.cond (.s 30)
      (.seq (.reg [⟨some 5, none, .mv (.c (.d (.bool true))), .none⟩])
      (.exit 1 none))
      .skip))
    (.reg [⟨some 31, none, .mv (.s 4), .none⟩,
       ⟨some 32, none, .bin .mul (.c (.d (.int .i64 10))) (.s 31), .none⟩,
       ⟨some 33, none, .mv (.s 7), .none⟩,
       ⟨some 34, none, .bin .add (.s 32) (.s 33), .none⟩,
       ⟨some 4, none, .mv (.s 34), .none⟩]))))))
  (.reg [⟨some 35, none, .bin .add (.s 11) (.c (.d (.int .i64 1))), .none⟩,
     ⟨some 11, none, .mv (.s 35), .none⟩]))))
def lp131_0 : C := lb131_0
theorem u131_0 (c : Ev.Callee) (l : Ev.Looper) (s : St) : evC c l lp131_0 s = evC c l lb131_0 s := rfl
abbrev st131_0 (m : Nat) (s0 s4 s5 s10 s11 : AV) (h : Heap) : St := ⟨m, [s0, .unk, .unk, .unk, s4, s5, .unk, .unk, .unk, .unk, s10, s11, .unk, .unk, .unk, .unk, .unk, .unk, .unk, .unk, .unk, .unk, .unk, .unk, .unk, .unk, .unk, .unk, .unk, .unk, .unk, .unk, .unk, .unk, .unk, .unk, .unk, .unk, .unk, .unk, .unk, .unk], h⟩
@[go_sem] theorem ks131_0 (v0 v1 v2 v3 v4 v5 v6 v7 v8 v9 v10 v11 v12 v13 v14 v15 v16 v17 v18 v19 v20 v21 v22 v23 v24 v25 v26 v27 v28 v29 v30 v31 v32 v33 v34 v35 v36 v37 v38 v39 v40 v41 : AV) : keepS [0, 4, 5, 10, 11] [v0, v1, v2, v3, v4, v5, v6, v7, v8, v9, v10, v11, v12, v13, v14, v15, v16, v17, v18, v19, v20, v21, v22, v23, v24, v25, v26, v27, v28, v29, v30, v31, v32, v33, v34, v35, v36, v37, v38, v39, v40, v41] 0 = [v0, .unk, .unk, .unk, v4, v5, .unk, .unk, .unk, .unk, v10, v11, .unk, .unk, .unk, .unk, .unk, .unk, .unk, .unk, .unk, .unk, .unk, .unk, .unk, .unk, .unk, .unk, .unk, .unk, .unk, .unk, .unk, .unk, .unk, .unk, .unk, .unk, .unk, .unk, .unk, .unk] := rfl
@[go_sem] theorem ks131_1 (v0 v1 v2 v3 v4 v5 v6 v7 v8 v9 v10 v11 v12 v13 v14 v15 v16 v17 v18 v19 v20 v21 v22 v23 v24 v25 v26 v27 v28 v29 v30 v31 v32 v33 v34 v35 v36 v37 v38 v39 v40 v41 : AV) : keepS [0, 4, 5] [v0, v1, v2, v3, v4, v5, v6, v7, v8, v9, v10, v11, v12, v13, v14, v15, v16, v17, v18, v19, v20, v21, v22, v23, v24, v25, v26, v27, v28, v29, v30, v31, v32, v33, v34, v35, v36, v37, v38, v39, v40, v41] 0 = [v0, .unk, .unk, .unk, v4, v5, .unk, .unk, .unk, .unk, .unk, .unk, .unk, .unk, .unk, .unk, .unk, .unk, .unk, .unk, .unk, .unk, .unk, .unk, .unk, .unk, .unk, .unk, .unk, .unk, .unk, .unk, .unk, .unk, .unk, .unk, .unk, .unk, .unk, .unk, .unk, .unk] := rfl
@[go_sem] theorem ks131_2 (v0 v1 v2 v3 v4 v5 v6 v7 v8 v9 v10 v11 v12 v13 v14 v15 v16 v17 v18 v19 v20 v21 v22 v23 v24 v25 v26 v27 v28 v29 v30 v31 v32 v33 v34 v35 v36 v37 v38 v39 v40 v41 : AV) : keepS [2, 3] [v0, v1, v2, v3, v4, v5, v6, v7, v8, v9, v10, v11, v12, v13, v14, v15, v16, v17, v18, v19, v20, v21, v22, v23, v24, v25, v26, v27, v28, v29, v30, v31, v32, v33, v34, v35, v36, v37, v38, v39, v40, v41] 0 = [.unk, .unk, v2, v3, .unk, .unk, .unk, .unk, .unk, .unk, .unk, .unk, .unk, .unk, .unk, .unk, .unk, .unk, .unk, .unk, .unk, .unk, .unk, .unk, .unk, .unk, .unk, .unk, .unk, .unk, .unk, .unk, .unk, .unk, .unk, .unk, .unk, .unk, .unk, .unk, .unk, .unk] := rfl
/-- spence/nums.Parse -/
def bd131 : C :=
  (.seq (.reg [⟨some 2, none, .mv (.c (.d (.int .i64 0))), .none⟩,
      ⟨some 3, none, .mv (.c (.d (.int .i64 0))), .none⟩])
  (.scp (.seq (.reg [⟨some 4, none, .mv (.c (.d (.int .i64 0))), .none⟩,
      ⟨some 5, none, .mv (.c (.d (.bool false))), .none⟩])
  (.seq .skip
  (.seq (.seq (.reg [⟨some 9, none, .mv (.s 0), .none⟩,
       ⟨some 10, none, .lens (.s 9), .none⟩,
       ⟨some 11, none, .mv (.c (.d (.int .i64 0))), .none⟩])
   (.block 0 (.loop [0, 4, 5, 10, 11] lp131_0)))
  (.seq (.block 3 (.seq (.reg [⟨some 37, none, .mv (.s 0), .none⟩,
        ⟨some 38, none, .bin .eql (.s 37) (.c (.d (.str []))), .none⟩,
        ⟨some 36, none, .mv (.s 38), .none⟩])
    (.cond (.s 36)
     (.seq (.reg [⟨some 2, none, .mv (.c (.d (.int .i64 0))), .none⟩,
         ⟨some 3, none, .mv (.c (.d (.int .i64 3))), .none⟩])
     (.ret none))
     (.seq (.reg [⟨some 40, none, .mv (.s 5), .none⟩,
         ⟨some 39, none, .mv (.s 40), .none⟩])
     (.cond (.s 39)
      (.seq (.reg [⟨some 2, none, .mv (.c (.d (.int .i64 0))), .none⟩,
          ⟨some 3, none, .mv (.c (.d (.int .i64 9))), .none⟩])
      (.ret none))
      .skip)))))
  (.seq (.reg [⟨some 41, none, .mv (.s 4), .none⟩,
      ⟨some 2, none, .mv (.s 41), .none⟩,
      ⟨some 3, none, .mv (.c (.d (.int .i64 0))), .none⟩])
  (.ret none))))))))
def ir131 : F := { n := 42, res := [.tmp 2, .tmp 3], body := bd131 }
@[go_sem] theorem n131 : ir131.n = 42 := rfl
@[go_sem] theorem r131 : ir131.res = [.tmp 2, .tmp 3] := rfl
@[go_sem] theorem b131 : ir131.body = bd131 := rfl
/-- spence/nums.digit -/
def bd148 : C :=
  (.seq (.reg [⟨some 2, none, .mv (.c (.d (.int .i64 0))), .none⟩,
      ⟨some 3, none, .mv (.c (.d (.bool false))), .none⟩])
  (.seq (.seq (.reg [⟨some 4, none, .mv (.s 0), .none⟩,
       ⟨some 5, none, .bin .lss (.s 4) (.c (.d (.int .u8 48))), .none⟩,
       ⟨some 6, none, .mv (.s 5), .none⟩,
       ⟨some 7, some (6, false), .mv (.s 0), .none⟩,
       ⟨some 8, some (6, false), .bin .gtr (.s 7) (.c (.d (.int .u8 57))), .none⟩,
       ⟨some 9, none, .pick (.s 6) (.c (.d (.bool true))) (.s 8), .none⟩])
   (.cond (.s 9)
    (.seq (.reg [⟨some 2, none, .mv (.c (.d (.int .i64 0))), .none⟩,
        ⟨some 3, none, .mv (.c (.d (.bool false))), .none⟩])
    (.ret none))
    .skip))
  (.seq (.reg [⟨some 10, none, .mv (.s 0), .none⟩,
      ⟨some 11, none, .bin .sub (.s 10) (.c (.d (.int .u8 48))), .none⟩,
      ⟨some 12, none, .cvi .i64 (.s 11), .none⟩,
      ⟨some 2, none, .mv (.s 12), .none⟩,
      ⟨some 3, none, .mv (.c (.d (.bool true))), .none⟩])
  (.ret none))))
def ir148 : F := { n := 13, res := [.tmp 2, .tmp 3], body := bd148 }
@[go_sem] theorem n148 : ir148.n = 13 := rfl
@[go_sem] theorem r148 : ir148.res = [.tmp 2, .tmp 3] := rfl
@[go_sem] theorem b148 : ir148.body = bd148 := rfl

def irf : FuncId → Option F
  | 3 => some ir3
  | 4 => some ir4
  | 5 => some ir5
  | 6 => some ir6
  | 9 => some ir9
  | 10 => some ir10
  | 12 => some ir12
  | 13 => some ir13
  | 14 => some ir14
  | 15 => some ir15
  | 16 => some ir16
  | 17 => some ir17
  | 18 => some ir18
  | 19 => some ir19
  | 20 => some ir20
  | 21 => some ir21
  | 22 => some ir22
  | 23 => some ir23
  | 24 => some ir24
  | 25 => some ir25
  | 32 => some ir32
  | 33 => some ir33
  | 35 => some ir35
  | 38 => some ir38
  | 39 => some ir39
  | 40 => some ir40
  | 41 => some ir41
  | 42 => some ir42
  | 44 => some ir44
  | 45 => some ir45
  | 46 => some ir46
  | 48 => some ir48
  | 49 => some ir49
  | 50 => some ir50
  | 57 => some ir57
  | 58 => some ir58
  | 61 => some ir61
  | 64 => some ir64
  | 65 => some ir65
  | 68 => some ir68
  | 69 => some ir69
  | 70 => some ir70
  | 71 => some ir71
  | 72 => some ir72
  | 74 => some ir74
  | 76 => some ir76
  | 79 => some ir79
  | 90 => some ir90
  | 91 => some ir91
  | 93 => some ir93
  | 94 => some ir94
  | 98 => some ir98
  | 99 => some ir99
  | 100 => some ir100
  | 101 => some ir101
  | 106 => some ir106
  | 107 => some ir107
  | 108 => some ir108
  | 112 => some ir112
  | 113 => some ir113
  | 122 => some ir122
  | 124 => some ir124
  | 125 => some ir125
  | 130 => some ir130
  | 131 => some ir131
  | 148 => some ir148
  | _ => none
def ir : IR := ⟨irf, natOr (natWhy 43 127) (natOr (natCut 146) (natOr (natIB 129) (natOr (natBC 47) (natNo))))⟩
theorem nat_eq : ir.nat = natOr (natWhy 43 127) (natOr (natCut 146) (natOr (natIB 129) (natOr (natBC 47) (natNo)))) := rfl
theorem c3 : cF Tryd.prog 3 = some ir3.strip := by kernel_rfl
theorem k3 : ir3.body.okD = true := by kernel_rfl
theorem c4 : cF Tryd.prog 4 = some ir4.strip := by kernel_rfl
theorem k4 : ir4.body.okD = true := by kernel_rfl
theorem c5 : cF Tryd.prog 5 = some ir5.strip := by kernel_rfl
theorem k5 : ir5.body.okD = true := by kernel_rfl
theorem c6 : cF Tryd.prog 6 = some ir6.strip := by kernel_rfl
theorem k6 : ir6.body.okD = true := by kernel_rfl
theorem c9 : cF Tryd.prog 9 = some ir9.strip := by kernel_rfl
theorem k9 : ir9.body.okD = true := by kernel_rfl
theorem c10 : cF Tryd.prog 10 = some ir10.strip := by kernel_rfl
theorem k10 : ir10.body.okD = true := by kernel_rfl
theorem c12 : cF Tryd.prog 12 = some ir12.strip := by kernel_rfl
theorem k12 : ir12.body.okD = true := by kernel_rfl
theorem c13 : cF Tryd.prog 13 = some ir13.strip := by kernel_rfl
theorem k13 : ir13.body.okD = true := by kernel_rfl
theorem c14 : cF Tryd.prog 14 = some ir14.strip := by kernel_rfl
theorem k14 : ir14.body.okD = true := by kernel_rfl
theorem c15 : cF Tryd.prog 15 = some ir15.strip := by kernel_rfl
theorem k15 : ir15.body.okD = true := by kernel_rfl
theorem c16 : cF Tryd.prog 16 = some ir16.strip := by kernel_rfl
theorem k16 : ir16.body.okD = true := by kernel_rfl
theorem c17 : cF Tryd.prog 17 = some ir17.strip := by kernel_rfl
theorem k17 : ir17.body.okD = true := by kernel_rfl
theorem c18 : cF Tryd.prog 18 = some ir18.strip := by kernel_rfl
theorem k18 : ir18.body.okD = true := by kernel_rfl
theorem c19 : cF Tryd.prog 19 = some ir19.strip := by kernel_rfl
theorem k19 : ir19.body.okD = true := by kernel_rfl
theorem c20 : cF Tryd.prog 20 = some ir20.strip := by kernel_rfl
theorem k20 : ir20.body.okD = true := by kernel_rfl
theorem c21 : cF Tryd.prog 21 = some ir21.strip := by kernel_rfl
theorem k21 : ir21.body.okD = true := by kernel_rfl
theorem c22 : cF Tryd.prog 22 = some ir22.strip := by kernel_rfl
theorem k22 : ir22.body.okD = true := by kernel_rfl
theorem c23 : cF Tryd.prog 23 = some ir23.strip := by kernel_rfl
theorem k23 : ir23.body.okD = true := by kernel_rfl
theorem c24 : cF Tryd.prog 24 = some ir24.strip := by kernel_rfl
theorem k24 : ir24.body.okD = true := by kernel_rfl
theorem c25 : cF Tryd.prog 25 = some ir25.strip := by kernel_rfl
theorem k25 : ir25.body.okD = true := by kernel_rfl
theorem c32 : cF Tryd.prog 32 = some ir32.strip := by kernel_rfl
theorem k32 : ir32.body.okD = true := by kernel_rfl
theorem c33 : cF Tryd.prog 33 = some ir33.strip := by kernel_rfl
theorem k33 : ir33.body.okD = true := by kernel_rfl
theorem c35 : cF Tryd.prog 35 = some ir35.strip := by kernel_rfl
theorem k35 : ir35.body.okD = true := by kernel_rfl
theorem c38 : cF Tryd.prog 38 = some ir38.strip := by kernel_rfl
theorem k38 : ir38.body.okD = true := by kernel_rfl
theorem c39 : cF Tryd.prog 39 = some ir39.strip := by kernel_rfl
theorem k39 : ir39.body.okD = true := by kernel_rfl
theorem c40 : cF Tryd.prog 40 = some ir40.strip := by kernel_rfl
theorem k40 : ir40.body.okD = true := by kernel_rfl
theorem c41 : cF Tryd.prog 41 = some ir41.strip := by kernel_rfl
theorem k41 : ir41.body.okD = true := by kernel_rfl
theorem c42 : cF Tryd.prog 42 = some ir42.strip := by kernel_rfl
theorem k42 : ir42.body.okD = true := by kernel_rfl
theorem c44 : cF Tryd.prog 44 = some ir44.strip := by kernel_rfl
theorem k44 : ir44.body.okD = true := by kernel_rfl
theorem c45 : cF Tryd.prog 45 = some ir45.strip := by kernel_rfl
theorem k45 : ir45.body.okD = true := by kernel_rfl
theorem c46 : cF Tryd.prog 46 = some ir46.strip := by kernel_rfl
theorem k46 : ir46.body.okD = true := by kernel_rfl
theorem c48 : cF Tryd.prog 48 = some ir48.strip := by kernel_rfl
theorem k48 : ir48.body.okD = true := by kernel_rfl
theorem c49 : cF Tryd.prog 49 = some ir49.strip := by kernel_rfl
theorem k49 : ir49.body.okD = true := by kernel_rfl
theorem c50 : cF Tryd.prog 50 = some ir50.strip := by kernel_rfl
theorem k50 : ir50.body.okD = true := by kernel_rfl
theorem c57 : cF Tryd.prog 57 = some ir57.strip := by kernel_rfl
theorem k57 : ir57.body.okD = true := by kernel_rfl
theorem c58 : cF Tryd.prog 58 = some ir58.strip := by kernel_rfl
theorem k58 : ir58.body.okD = true := by kernel_rfl
theorem c61 : cF Tryd.prog 61 = some ir61.strip := by kernel_rfl
theorem k61 : ir61.body.okD = true := by kernel_rfl
theorem c64 : cF Tryd.prog 64 = some ir64.strip := by kernel_rfl
theorem k64 : ir64.body.okD = true := by kernel_rfl
theorem c65 : cF Tryd.prog 65 = some ir65.strip := by kernel_rfl
theorem k65 : ir65.body.okD = true := by kernel_rfl
theorem c68 : cF Tryd.prog 68 = some ir68.strip := by kernel_rfl
theorem k68 : ir68.body.okD = true := by kernel_rfl
theorem c69 : cF Tryd.prog 69 = some ir69.strip := by kernel_rfl
theorem k69 : ir69.body.okD = true := by kernel_rfl
theorem c70 : cF Tryd.prog 70 = some ir70.strip := by kernel_rfl
theorem k70 : ir70.body.okD = true := by kernel_rfl
theorem c71 : cF Tryd.prog 71 = some ir71.strip := by kernel_rfl
theorem k71 : ir71.body.okD = true := by kernel_rfl
theorem c72 : cF Tryd.prog 72 = some ir72.strip := by kernel_rfl
theorem k72 : ir72.body.okD = true := by kernel_rfl
theorem c74 : cF Tryd.prog 74 = some ir74.strip := by kernel_rfl
theorem k74 : ir74.body.okD = true := by kernel_rfl
theorem c76 : cF Tryd.prog 76 = some ir76.strip := by kernel_rfl
theorem k76 : ir76.body.okD = true := by kernel_rfl
theorem c79 : cF Tryd.prog 79 = some ir79.strip := by kernel_rfl
theorem k79 : ir79.body.okD = true := by kernel_rfl
theorem c90 : cF Tryd.prog 90 = some ir90.strip := by kernel_rfl
theorem k90 : ir90.body.okD = true := by kernel_rfl
theorem c91 : cF Tryd.prog 91 = some ir91.strip := by kernel_rfl
theorem k91 : ir91.body.okD = true := by kernel_rfl
theorem c93 : cF Tryd.prog 93 = some ir93.strip := by kernel_rfl
theorem k93 : ir93.body.okD = true := by kernel_rfl
theorem c94 : cF Tryd.prog 94 = some ir94.strip := by kernel_rfl
theorem k94 : ir94.body.okD = true := by kernel_rfl
theorem c98 : cF Tryd.prog 98 = some ir98.strip := by kernel_rfl
theorem k98 : ir98.body.okD = true := by kernel_rfl
theorem c99 : cF Tryd.prog 99 = some ir99.strip := by kernel_rfl
theorem k99 : ir99.body.okD = true := by kernel_rfl
theorem c100 : cF Tryd.prog 100 = some ir100.strip := by kernel_rfl
theorem k100 : ir100.body.okD = true := by kernel_rfl
theorem c101 : cF Tryd.prog 101 = some ir101.strip := by kernel_rfl
theorem k101 : ir101.body.okD = true := by kernel_rfl
theorem c106 : cF Tryd.prog 106 = some ir106.strip := by kernel_rfl
theorem k106 : ir106.body.okD = true := by kernel_rfl
theorem c107 : cF Tryd.prog 107 = some ir107.strip := by kernel_rfl
theorem k107 : ir107.body.okD = true := by kernel_rfl
theorem c108 : cF Tryd.prog 108 = some ir108.strip := by kernel_rfl
theorem k108 : ir108.body.okD = true := by kernel_rfl
theorem c112 : cF Tryd.prog 112 = some ir112.strip := by kernel_rfl
theorem k112 : ir112.body.okD = true := by kernel_rfl
theorem c113 : cF Tryd.prog 113 = some ir113.strip := by kernel_rfl
theorem k113 : ir113.body.okD = true := by kernel_rfl
theorem c122 : cF Tryd.prog 122 = some ir122.strip := by kernel_rfl
theorem k122 : ir122.body.okD = true := by kernel_rfl
theorem c124 : cF Tryd.prog 124 = some ir124.strip := by kernel_rfl
theorem k124 : ir124.body.okD = true := by kernel_rfl
theorem c125 : cF Tryd.prog 125 = some ir125.strip := by kernel_rfl
theorem k125 : ir125.body.okD = true := by kernel_rfl
theorem c130 : cF Tryd.prog 130 = some ir130.strip := by kernel_rfl
theorem k130 : ir130.body.okD = true := by kernel_rfl
theorem c131 : cF Tryd.prog 131 = some ir131.strip := by kernel_rfl
theorem k131 : ir131.body.okD = true := by kernel_rfl
theorem c148 : cF Tryd.prog 148 = some ir148.strip := by kernel_rfl
theorem k148 : ir148.body.okD = true := by kernel_rfl
theorem tab : Tab Tryd.prog ir := by
  refine ⟨by kernel_rfl, fun f fn h => ?_, natOr_snd (Tryd.whyN) (natOr_snd (Tryd.cutN) (natOr_snd (Tryd.ixbN) (natOr_snd (Tryd.bcloneN) (natNo_snd))))⟩
  change irf f = some fn at h
  unfold irf at h
  split at h
  · cases h; exact ⟨c3, k3⟩
  · cases h; exact ⟨c4, k4⟩
  · cases h; exact ⟨c5, k5⟩
  · cases h; exact ⟨c6, k6⟩
  · cases h; exact ⟨c9, k9⟩
  · cases h; exact ⟨c10, k10⟩
  · cases h; exact ⟨c12, k12⟩
  · cases h; exact ⟨c13, k13⟩
  · cases h; exact ⟨c14, k14⟩
  · cases h; exact ⟨c15, k15⟩
  · cases h; exact ⟨c16, k16⟩
  · cases h; exact ⟨c17, k17⟩
  · cases h; exact ⟨c18, k18⟩
  · cases h; exact ⟨c19, k19⟩
  · cases h; exact ⟨c20, k20⟩
  · cases h; exact ⟨c21, k21⟩
  · cases h; exact ⟨c22, k22⟩
  · cases h; exact ⟨c23, k23⟩
  · cases h; exact ⟨c24, k24⟩
  · cases h; exact ⟨c25, k25⟩
  · cases h; exact ⟨c32, k32⟩
  · cases h; exact ⟨c33, k33⟩
  · cases h; exact ⟨c35, k35⟩
  · cases h; exact ⟨c38, k38⟩
  · cases h; exact ⟨c39, k39⟩
  · cases h; exact ⟨c40, k40⟩
  · cases h; exact ⟨c41, k41⟩
  · cases h; exact ⟨c42, k42⟩
  · cases h; exact ⟨c44, k44⟩
  · cases h; exact ⟨c45, k45⟩
  · cases h; exact ⟨c46, k46⟩
  · cases h; exact ⟨c48, k48⟩
  · cases h; exact ⟨c49, k49⟩
  · cases h; exact ⟨c50, k50⟩
  · cases h; exact ⟨c57, k57⟩
  · cases h; exact ⟨c58, k58⟩
  · cases h; exact ⟨c61, k61⟩
  · cases h; exact ⟨c64, k64⟩
  · cases h; exact ⟨c65, k65⟩
  · cases h; exact ⟨c68, k68⟩
  · cases h; exact ⟨c69, k69⟩
  · cases h; exact ⟨c70, k70⟩
  · cases h; exact ⟨c71, k71⟩
  · cases h; exact ⟨c72, k72⟩
  · cases h; exact ⟨c74, k74⟩
  · cases h; exact ⟨c76, k76⟩
  · cases h; exact ⟨c79, k79⟩
  · cases h; exact ⟨c90, k90⟩
  · cases h; exact ⟨c91, k91⟩
  · cases h; exact ⟨c93, k93⟩
  · cases h; exact ⟨c94, k94⟩
  · cases h; exact ⟨c98, k98⟩
  · cases h; exact ⟨c99, k99⟩
  · cases h; exact ⟨c100, k100⟩
  · cases h; exact ⟨c101, k101⟩
  · cases h; exact ⟨c106, k106⟩
  · cases h; exact ⟨c107, k107⟩
  · cases h; exact ⟨c108, k108⟩
  · cases h; exact ⟨c112, k112⟩
  · cases h; exact ⟨c113, k113⟩
  · cases h; exact ⟨c122, k122⟩
  · cases h; exact ⟨c124, k124⟩
  · cases h; exact ⟨c125, k125⟩
  · cases h; exact ⟨c130, k130⟩
  · cases h; exact ⟨c131, k131⟩
  · cases h; exact ⟨c148, k148⟩
  · cases h
end Go.Proofs.YtpibecljdooilaaDoor.Ir
