/- The texts of the functions in the small language. Printed by a program of my own (irgen.py). -/
import Derived.Test.YtbcpffhialoliaaEvSim
import Derived.Test.YtbcpffhialoliaaProg
import Derived.Test.YtbcpffhialoliaaEvSrk
import Derived.Test.YtbcpffhialoliaaEvNatC
import Derived.Test.YtbcpffhialoliaaShBc
import Derived.Test.YtbcpffhialoliaaShSrk
import Derived.Test.YtbcpffhialoliaaShClh
import Derived.Test.YtbcpffhialoliaaShSort
import Derived.Test.YtbcpffhialoliaaShCpy
namespace Go.Proofs.Ytbcpffhialoliaa.Ir
open Go Go.Ev
set_option maxRecDepth 10000

def lb3_3 : C :=
  (.seq (.reg [⟨some 192, none, .bin .lss (.s 191) (.s 190), .none⟩])
  (.seq (.cond (.s 192)
    .skip
    (.exit 6 (some [0, 1, 5, 6, 8, 18, 44, 45, 46])))
  (.seq (.block 7 (.seq (.reg [⟨some 193, none, .is (.s 189) (.s 191) 4, .none⟩,
        ⟨some 194, none, .ld (.s 193) 4 true, .none⟩,
        ⟨some 20, none, .alloc 39 [.int .i64 0, .int .i64 0, .int .i64 0, .nils], .cells [(3, 1, false)]⟩,
        ⟨none, none, .st (.s 20) (.s 194) 4, .none⟩])
    (.seq (.reg [⟨some 195, none, .mv (.s 12), .none⟩,
        ⟨some 196, none, .mv (.s 195), .none⟩,
        ⟨some 197, some (196, true), .mv (.s 13), .none⟩,
        ⟨some 198, some (196, true), .un .not (.s 197), .none⟩,
        ⟨some 199, none, .pick (.s 196) (.s 198) (.c (.d (.bool false))), .none⟩,
        ⟨some 200, none, .mv (.s 199), .none⟩,
        ⟨some 201, some (200, true), .fa (.s 11) 5, .none⟩,
        ⟨some 202, some (200, true), .ld (.s 201) 1 false, .none⟩,
        ⟨some 203, some (200, true), .fa (.s 20) 2, .none⟩,
        ⟨some 204, some (200, true), .ld (.s 203) 1 false, .none⟩,
        ⟨some 205, some (200, true), .call 12 [.s 202, .s 204] 2, .none⟩,
        ⟨some 206, some (200, true), .un .not (.s 205), .none⟩,
        ⟨some 207, none, .pick (.s 200) (.s 206) (.c (.d (.bool false))), .none⟩])
    (.cond (.s 207)
     (.seq (.seq (.drw [⟨some 208, none, .mv (.s 18), .none⟩,
          ⟨some 209, none, .fa (.s 8) 9, .none⟩,
          ⟨some 210, none, .ld (.s 209) 1 false, .none⟩,
          ⟨some 211, none, .len (.s 210), .none⟩,
          ⟨some 212, none, .bin .geq (.s 208) (.s 211), .none⟩,
          ⟨some 213, none, .mv (.s 212), .none⟩,
          ⟨some 214, some (213, false), .fa (.s 8) 9, .none⟩,
          ⟨some 215, some (213, false), .ld (.s 214) 1 false, .none⟩,
          ⟨some 216, some (213, false), .mv (.s 18), .none⟩,
          ⟨some 217, some (213, false), .is (.s 215) (.s 216) 1, .none⟩,
          ⟨some 218, some (213, false), .ld (.s 217) 1 false, .none⟩,
          ⟨some 219, some (213, false), .fa (.s 20) 2, .none⟩,
          ⟨some 220, some (213, false), .ld (.s 219) 1 false, .none⟩,
          ⟨some 221, some (213, false), .bin .neq (.s 218) (.s 220), .none⟩,
          ⟨some 222, none, .pick (.s 213) (.c (.d (.bool true))) (.s 221), .none⟩]
         [[], [], [1], [2], [0, 3], [4], [5], [6, 5], [5], [7, 8, 5], [9, 5], [5], [11, 5], [10, 12, 5], [5, 13]] [])
      (.cond (.s 222)
       (.seq (.reg [⟨some 4, none, .mv (.c (.d (.bool false))), .none⟩])
       (.ret (some [4])))
       .skip))
     (.reg [⟨some 223, none, .mv (.s 18), .none⟩,
        ⟨some 224, none, .bin .add (.s 223) (.c (.d (.int .i64 1))), .none⟩,
        ⟨some 18, none, .mv (.s 224), .none⟩]))
     .skip))))
  (.reg [⟨some 225, none, .bin .add (.s 191) (.c (.d (.int .i64 1))), .none⟩,
     ⟨some 191, none, .mv (.s 225), .none⟩]))))
def lp3_3 : C := lb3_3
theorem u3_3 (c : Ev.Callee) (l : Ev.Looper) (s : St) : evC c l lp3_3 s = evC c l lb3_3 s := rfl
abbrev st3_3 (m : Nat) (s0 s1 s5 s6 s8 s11 s12 s13 s18 s44 s45 s46 s189 s190 s191 : AV) (h : Heap) : St := ⟨m,[s0,s1,.unk,.unk,.unk,s5,s6,.unk,s8,.unk,.unk,s11,s12,s13,.unk,.unk,.unk,.unk,s18,.unk,.unk,.unk,.unk,.unk,.unk,.unk,.unk,.unk,.unk,.unk,.unk,.unk,.unk,.unk,.unk,.unk,.unk,.unk,.unk,.unk,.unk,.unk,.unk,.unk,s44,s45,s46,.unk,.unk,.unk,.unk,.unk,.unk,.unk,.unk,.unk,.unk,.unk,.unk,.unk,.unk,.unk,.unk,.unk,.unk,.unk,.unk,.unk,.unk,.unk,.unk,.unk,.unk,.unk,.unk,.unk,.unk,.unk,.unk,.unk,.unk,.unk,.unk,.unk,.unk,.unk,.unk,.unk,.unk,.unk,.unk,.unk,.unk,.unk,.unk,.unk,.unk,.unk,.unk,.unk,.unk,.unk,.unk,.unk,.unk,.unk,.unk,.unk,.unk,.unk,.unk,.unk,.unk,.unk,.unk,.unk,.unk,.unk,.unk,.unk,.unk,.unk,.unk,.unk,.unk,.unk,.unk,.unk,.unk,.unk,.unk,.unk,.unk,.unk,.unk,.unk,.unk,.unk,.unk,.unk,.unk,.unk,.unk,.unk,.unk,.unk,.unk,.unk,.unk,.unk,.unk,.unk,.unk,.unk,.unk,.unk,.unk,.unk,.unk,.unk,.unk,.unk,.unk,.unk,.unk,.unk,.unk,.unk,.unk,.unk,.unk,.unk,.unk,.unk,.unk,.unk,.unk,.unk,.unk,.unk,.unk,.unk,.unk,.unk,.unk,.unk,.unk,.unk,.unk,s189,s190,s191,.unk,.unk,.unk,.unk,.unk,.unk,.unk,.unk,.unk,.unk,.unk,.unk,.unk,.unk,.unk,.unk,.unk,.unk,.unk,.unk,.unk,.unk,.unk,.unk,.unk,.unk,.unk,.unk,.unk,.unk,.unk,.unk,.unk,.unk,.unk,.unk,.unk,.unk,.unk,.unk,.unk,.unk,.unk,.unk,.unk,.unk,.unk,.unk,.unk,.unk,.unk,.unk,.unk,.unk,.unk,.unk,.unk,.unk,.unk],h⟩
def lb3_2 : C :=
  (.seq (.reg [⟨some 179, none, .bin .lss (.s 178) (.s 177), .none⟩])
  (.seq (.cond (.s 179)
    .skip
    (.exit 4 (some [0, 1, 5, 6, 8, 9, 11, 12, 13, 44, 45, 46])))
  (.seq (.block 5 (.seq (.reg [⟨some 180, none, .is (.s 176) (.s 178) 4, .none⟩,
        ⟨some 181, none, .ld (.s 180) 4 true, .none⟩,
        ⟨some 17, none, .alloc 39 [.int .i64 0, .int .i64 0, .int .i64 0, .nils], .cells [(3, 1, false)]⟩,
        ⟨none, none, .st (.s 17) (.s 181) 4, .none⟩])
    (.seq (.reg [⟨some 182, none, .fa (.s 11) 5, .none⟩,
        ⟨some 183, none, .ld (.s 182) 1 false, .none⟩,
        ⟨some 184, none, .ld (.s 17) 4 true, .none⟩,
        ⟨some 185, none, .call 11 [.s 183, .s 184] 2, .none⟩,
        ⟨some 186, none, .un .not (.s 185), .none⟩])
    (.cond (.s 186)
     (.seq (.reg [⟨some 4, none, .mv (.c (.d (.bool false))), .none⟩])
     (.ret (some [4])))
     .skip))))
  (.reg [⟨some 187, none, .bin .add (.s 178) (.c (.d (.int .i64 1))), .none⟩,
     ⟨some 178, none, .mv (.s 187), .none⟩]))))
def lp3_2 : C := lb3_2
theorem u3_2 (c : Ev.Callee) (l : Ev.Looper) (s : St) : evC c l lp3_2 s = evC c l lb3_2 s := rfl
abbrev st3_2 (m : Nat) (s0 s1 s5 s6 s8 s9 s11 s12 s13 s44 s45 s46 s176 s177 s178 : AV) (h : Heap) : St := ⟨m,[s0,s1,.unk,.unk,.unk,s5,s6,.unk,s8,s9,.unk,s11,s12,s13,.unk,.unk,.unk,.unk,.unk,.unk,.unk,.unk,.unk,.unk,.unk,.unk,.unk,.unk,.unk,.unk,.unk,.unk,.unk,.unk,.unk,.unk,.unk,.unk,.unk,.unk,.unk,.unk,.unk,.unk,s44,s45,s46,.unk,.unk,.unk,.unk,.unk,.unk,.unk,.unk,.unk,.unk,.unk,.unk,.unk,.unk,.unk,.unk,.unk,.unk,.unk,.unk,.unk,.unk,.unk,.unk,.unk,.unk,.unk,.unk,.unk,.unk,.unk,.unk,.unk,.unk,.unk,.unk,.unk,.unk,.unk,.unk,.unk,.unk,.unk,.unk,.unk,.unk,.unk,.unk,.unk,.unk,.unk,.unk,.unk,.unk,.unk,.unk,.unk,.unk,.unk,.unk,.unk,.unk,.unk,.unk,.unk,.unk,.unk,.unk,.unk,.unk,.unk,.unk,.unk,.unk,.unk,.unk,.unk,.unk,.unk,.unk,.unk,.unk,.unk,.unk,.unk,.unk,.unk,.unk,.unk,.unk,.unk,.unk,.unk,.unk,.unk,.unk,.unk,.unk,.unk,.unk,.unk,.unk,.unk,.unk,.unk,.unk,.unk,.unk,.unk,.unk,.unk,.unk,.unk,.unk,.unk,.unk,.unk,.unk,.unk,.unk,.unk,.unk,.unk,.unk,.unk,.unk,.unk,.unk,.unk,s176,s177,s178,.unk,.unk,.unk,.unk,.unk,.unk,.unk,.unk,.unk,.unk,.unk,.unk,.unk,.unk,.unk,.unk,.unk,.unk,.unk,.unk,.unk,.unk,.unk,.unk,.unk,.unk,.unk,.unk,.unk,.unk,.unk,.unk,.unk,.unk,.unk,.unk,.unk,.unk,.unk,.unk,.unk,.unk,.unk,.unk,.unk,.unk,.unk,.unk,.unk,.unk,.unk,.unk,.unk,.unk,.unk,.unk,.unk,.unk,.unk,.unk,.unk,.unk,.unk,.unk,.unk,.unk,.unk,.unk,.unk,.unk,.unk,.unk],h⟩
def lb3_1 : C :=
  (.seq (.reg [⟨some 158, none, .bin .lss (.s 157) (.s 156), .none⟩])
  (.seq (.cond (.s 158)
    .skip
    (.exit 2 (some [0, 1, 5, 6, 8, 9, 11, 12, 13, 44, 45, 46])))
  (.seq (.block 3 (.seq (.reg [⟨some 159, none, .is (.s 155) (.s 157) 4, .none⟩,
        ⟨some 160, none, .ld (.s 159) 4 true, .none⟩,
        ⟨some 15, none, .alloc 39 [.int .i64 0, .int .i64 0, .int .i64 0, .nils], .cells [(3, 1, false)]⟩,
        ⟨none, none, .st (.s 15) (.s 160) 4, .none⟩])
    (.seq (.reg [⟨some 161, none, .fa (.s 8) 8, .none⟩,
        ⟨some 162, none, .ld (.s 161) 1 false, .none⟩,
        ⟨some 163, none, .ld (.s 15) 4 true, .none⟩,
        ⟨some 164, none, .call 11 [.s 162, .s 163] 2, .none⟩,
        ⟨some 165, none, .mv (.s 13), .none⟩,
        ⟨some 166, none, .mv (.s 165), .none⟩,
        ⟨some 167, some (166, false), .fa (.s 9) 5, .none⟩,
        ⟨some 168, some (166, false), .ld (.s 167) 1 false, .none⟩,
        ⟨some 169, some (166, false), .ld (.s 15) 4 true, .none⟩,
        ⟨some 170, some (166, false), .call 11 [.s 168, .s 169] 2, .none⟩,
        ⟨some 171, some (166, false), .un .not (.s 170), .none⟩,
        ⟨some 172, none, .pick (.s 166) (.c (.d (.bool true))) (.s 171), .none⟩,
        ⟨some 173, none, .beq true (.s 164) (.s 172), .none⟩])
    (.cond (.s 173)
     (.seq (.reg [⟨some 4, none, .mv (.c (.d (.bool false))), .none⟩])
     (.ret (some [4])))
     .skip))))
  (.reg [⟨some 174, none, .bin .add (.s 157) (.c (.d (.int .i64 1))), .none⟩,
     ⟨some 157, none, .mv (.s 174), .none⟩]))))
def lp3_1 : C := lb3_1
theorem u3_1 (c : Ev.Callee) (l : Ev.Looper) (s : St) : evC c l lp3_1 s = evC c l lb3_1 s := rfl
abbrev st3_1 (m : Nat) (s0 s1 s5 s6 s8 s9 s11 s12 s13 s44 s45 s46 s155 s156 s157 : AV) (h : Heap) : St := ⟨m,[s0,s1,.unk,.unk,.unk,s5,s6,.unk,s8,s9,.unk,s11,s12,s13,.unk,.unk,.unk,.unk,.unk,.unk,.unk,.unk,.unk,.unk,.unk,.unk,.unk,.unk,.unk,.unk,.unk,.unk,.unk,.unk,.unk,.unk,.unk,.unk,.unk,.unk,.unk,.unk,.unk,.unk,s44,s45,s46,.unk,.unk,.unk,.unk,.unk,.unk,.unk,.unk,.unk,.unk,.unk,.unk,.unk,.unk,.unk,.unk,.unk,.unk,.unk,.unk,.unk,.unk,.unk,.unk,.unk,.unk,.unk,.unk,.unk,.unk,.unk,.unk,.unk,.unk,.unk,.unk,.unk,.unk,.unk,.unk,.unk,.unk,.unk,.unk,.unk,.unk,.unk,.unk,.unk,.unk,.unk,.unk,.unk,.unk,.unk,.unk,.unk,.unk,.unk,.unk,.unk,.unk,.unk,.unk,.unk,.unk,.unk,.unk,.unk,.unk,.unk,.unk,.unk,.unk,.unk,.unk,.unk,.unk,.unk,.unk,.unk,.unk,.unk,.unk,.unk,.unk,.unk,.unk,.unk,.unk,.unk,.unk,.unk,.unk,.unk,.unk,.unk,.unk,.unk,.unk,.unk,.unk,.unk,.unk,.unk,.unk,.unk,.unk,s155,s156,s157,.unk,.unk,.unk,.unk,.unk,.unk,.unk,.unk,.unk,.unk,.unk,.unk,.unk,.unk,.unk,.unk,.unk,.unk,.unk,.unk,.unk,.unk,.unk,.unk,.unk,.unk,.unk,.unk,.unk,.unk,.unk,.unk,.unk,.unk,.unk,.unk,.unk,.unk,.unk,.unk,.unk,.unk,.unk,.unk,.unk,.unk,.unk,.unk,.unk,.unk,.unk,.unk,.unk,.unk,.unk,.unk,.unk,.unk,.unk,.unk,.unk,.unk,.unk,.unk,.unk,.unk,.unk,.unk,.unk,.unk,.unk,.unk,.unk,.unk,.unk,.unk,.unk,.unk,.unk,.unk,.unk,.unk,.unk,.unk,.unk,.unk,.unk,.unk,.unk,.unk,.unk,.unk,.unk],h⟩
def lb3_0 : C :=
  (.seq (.reg [⟨some 47, none, .bin .lss (.s 46) (.s 45), .none⟩])
  (.seq (.cond (.s 47)
    .skip
    (.exit 0 (some [5, 6])))
  (.seq (.block 1 (.seq (.reg [⟨some 48, none, .mv (.s 46), .none⟩,
        ⟨some 49, none, .is (.s 44) (.s 46) 10, .none⟩,
        ⟨some 50, none, .ld (.s 49) 10 true, .none⟩,
        ⟨some 8, none, .alloc 32 [.int .i64 0, .bool false, .bool false, .int .i64 0, .int .i64 0, .str [], .int .i64 0, .int .i64 0, .nils, .nils], .cells [(8, 4, false), (9, 1, false)]⟩,
        ⟨some 7, none, .mv (.s 48), .none⟩,
        ⟨none, none, .st (.s 8) (.s 50) 10, .none⟩])
    (.seq (.seq (.drw [⟨some 51, none, .mv (.s 7), .none⟩,
         ⟨some 52, none, .bin .gtr (.s 51) (.c (.d (.int .i64 0))), .none⟩,
         ⟨some 53, none, .mv (.s 52), .none⟩,
         ⟨some 54, some (53, true), .mv (.s 5), .none⟩,
         ⟨some 55, some (53, true), .mv (.s 7), .none⟩,
         ⟨some 56, some (53, true), .bin .sub (.s 55) (.c (.d (.int .i64 1))), .none⟩,
         ⟨some 57, some (53, true), .is (.s 54) (.s 56) 10, .none⟩,
         ⟨some 58, some (53, true), .fa (.s 57) 0, .none⟩,
         ⟨some 59, some (53, true), .ld (.s 58) 1 false, .none⟩,
         ⟨some 60, some (53, true), .fa (.s 8) 0, .none⟩,
         ⟨some 61, some (53, true), .ld (.s 60) 1 false, .none⟩,
         ⟨some 62, some (53, true), .bin .geq (.s 59) (.s 61), .none⟩,
         ⟨some 63, none, .pick (.s 53) (.s 62) (.c (.d (.bool false))), .none⟩,
         ⟨some 64, none, .mv (.s 63), .none⟩,
         ⟨some 65, some (64, false), .fa (.s 8) 2, .none⟩,
         ⟨some 66, some (64, false), .ld (.s 65) 1 false, .none⟩,
         ⟨some 67, some (64, false), .mv (.s 66), .none⟩,
         ⟨some 68, some (67, true), .fa (.s 8) 1, .none⟩,
         ⟨some 69, some (67, true), .ld (.s 68) 1 false, .none⟩,
         ⟨some 70, some (67, true), .mv (.s 69), .none⟩,
         ⟨some 71, some (70, false), .fa (.s 8) 8, .none⟩,
         ⟨some 72, some (70, false), .ld (.s 71) 1 false, .none⟩,
         ⟨some 73, some (70, false), .len (.s 72), .none⟩,
         ⟨some 74, some (70, false), .fa (.s 8) 9, .none⟩,
         ⟨some 75, some (70, false), .ld (.s 74) 1 false, .none⟩,
         ⟨some 76, some (70, false), .len (.s 75), .none⟩,
         ⟨some 77, some (70, false), .bin .add (.s 73) (.s 76), .none⟩,
         ⟨some 78, some (70, false), .bin .gtr (.s 77) (.c (.d (.int .i64 0))), .none⟩,
         ⟨some 79, some (67, true), .pick (.s 70) (.c (.d (.bool true))) (.s 78), .none⟩,
         ⟨some 80, some (64, false), .pick (.s 67) (.s 79) (.c (.d (.bool false))), .none⟩,
         ⟨some 81, none, .pick (.s 64) (.c (.d (.bool true))) (.s 80), .none⟩,
         ⟨some 82, none, .mv (.s 81), .none⟩,
         ⟨some 83, some (82, false), .fa (.s 8) 1, .none⟩,
         ⟨some 84, some (82, false), .ld (.s 83) 1 false, .none⟩,
         ⟨some 85, some (82, false), .un .not (.s 84), .none⟩,
         ⟨some 86, some (82, false), .mv (.s 85), .none⟩,
         ⟨some 87, some (86, true), .fa (.s 8) 3, .none⟩,
         ⟨some 88, some (86, true), .ld (.s 87) 5 true, .none⟩,
         ⟨some 89, some (86, true), .build [.int .i64 0, .int .i64 0, .str [], .int .i64 0, .int .i64 0] [], .none⟩,
         ⟨some 90, some (86, true), .eqs true [1, 1, 2, 1, 1] (.s 88) (.s 89), .none⟩,
         ⟨some 91, some (82, false), .pick (.s 86) (.s 90) (.c (.d (.bool false))), .none⟩,
         ⟨some 92, none, .pick (.s 82) (.c (.d (.bool true))) (.s 91), .none⟩]
        [[], [0], [1], [2], [2], [4, 2], [3, 5, 2], [6, 2], [7, 2], [2], [9, 2], [8, 10, 2], [2, 11], [12, 2], [13], [14, 13], [15, 13, 13], [16], [17, 16], [18, 16, 16], [19], [20, 19], [21, 19], [19], [23, 19], [24, 19], [22, 25, 19], [26, 19], [19, 27, 16], [16, 28, 13], [13, 29], [30, 19], [31], [32, 31], [33, 31], [34, 31, 31], [35], [36, 35], [35], [37, 38, 35], [35, 39, 31], [31, 40]] [])
     (.cond (.s 92)
      (.seq (.reg [⟨some 4, none, .mv (.c (.d (.bool false))), .none⟩])
      (.ret (some [4])))
      .skip))
    (.seq (.reg [⟨some 94, none, .mv (.s 0), .none⟩,
        ⟨some 95, none, .fa (.s 8) 0, .none⟩,
        ⟨some 96, none, .ld (.s 95) 1 false, .none⟩,
        ⟨some 97, none, .call 10 [.s 94, .s 96] 0, .none⟩,
        ⟨some 93, none, .mv (.s 97), .none⟩,
        ⟨some 98, none, .ext (.s 93) 0, .none⟩,
        ⟨some 99, none, .ext (.s 93) 1, .none⟩,
        ⟨some 9, none, .alloc 34 [.int .i64 0, .int .i64 0, .str [], .int .i64 0, .int .i64 0, .nils], .cells [(5, 4, false)]⟩,
        ⟨none, none, .st (.s 9) (.s 98) 6, .none⟩,
        ⟨some 10, none, .mv (.s 99), .none⟩])
    (.seq (.reg [⟨some 101, none, .mv (.s 1), .none⟩,
        ⟨some 102, none, .fa (.s 8) 0, .none⟩,
        ⟨some 103, none, .ld (.s 102) 1 false, .none⟩,
        ⟨some 104, none, .call 10 [.s 101, .s 103] 0, .none⟩,
        ⟨some 100, none, .mv (.s 104), .none⟩,
        ⟨some 105, none, .ext (.s 100) 0, .none⟩,
        ⟨some 106, none, .ext (.s 100) 1, .none⟩,
        ⟨some 11, none, .alloc 34 [.int .i64 0, .int .i64 0, .str [], .int .i64 0, .int .i64 0, .nils], .cells [(5, 4, false)]⟩,
        ⟨none, none, .st (.s 11) (.s 105) 6, .none⟩,
        ⟨some 12, none, .mv (.s 106), .none⟩])
    (.seq (.seq (.drw [⟨some 107, none, .fa (.s 8) 2, .none⟩,
         ⟨some 108, none, .ld (.s 107) 1 false, .none⟩,
         ⟨some 109, none, .mv (.s 10), .none⟩,
         ⟨some 110, none, .mv (.s 109), .none⟩,
         ⟨some 111, some (110, true), .mv (.s 12), .none⟩,
         ⟨some 112, some (110, true), .un .not (.s 111), .none⟩,
         ⟨some 113, none, .pick (.s 110) (.s 112) (.c (.d (.bool false))), .none⟩,
         ⟨some 114, none, .beq true (.s 108) (.s 113), .none⟩,
         ⟨some 115, none, .mv (.s 114), .none⟩,
         ⟨some 116, some (115, false), .fa (.s 8) 1, .none⟩,
         ⟨some 117, some (115, false), .ld (.s 116) 1 false, .none⟩,
         ⟨some 118, some (115, false), .mv (.s 12), .none⟩,
         ⟨some 119, some (115, false), .mv (.s 118), .none⟩,
         ⟨some 120, some (119, true), .mv (.s 10), .none⟩,
         ⟨some 121, some (119, true), .un .not (.s 120), .none⟩,
         ⟨some 122, some (119, true), .mv (.s 121), .none⟩,
         ⟨some 123, some (122, false), .fa (.s 9) 0, .none⟩,
         ⟨some 124, some (122, false), .ld (.s 123) 5 true, .none⟩,
         ⟨some 125, some (122, false), .fa (.s 11) 0, .none⟩,
         ⟨some 126, some (122, false), .ld (.s 125) 5 true, .none⟩,
         ⟨some 127, some (122, false), .eqs true [1, 1, 2, 1, 1] (.s 124) (.s 126), .none⟩,
         ⟨some 128, some (119, true), .pick (.s 122) (.c (.d (.bool true))) (.s 127), .none⟩,
         ⟨some 129, some (115, false), .pick (.s 119) (.s 128) (.c (.d (.bool false))), .none⟩,
         ⟨some 130, some (115, false), .beq true (.s 117) (.s 129), .none⟩,
         ⟨some 131, none, .pick (.s 115) (.c (.d (.bool true))) (.s 130), .none⟩,
         ⟨some 132, none, .mv (.s 131), .none⟩,
         ⟨some 133, some (132, false), .fa (.s 8) 1, .none⟩,
         ⟨some 134, some (132, false), .ld (.s 133) 1 false, .none⟩,
         ⟨some 135, some (132, false), .mv (.s 134), .none⟩,
         ⟨some 136, some (135, true), .fa (.s 8) 3, .none⟩,
         ⟨some 137, some (135, true), .ld (.s 136) 5 true, .none⟩,
         ⟨some 138, some (135, true), .fa (.s 11) 0, .none⟩,
         ⟨some 139, some (135, true), .ld (.s 138) 5 true, .none⟩,
         ⟨some 140, some (135, true), .eqs true [1, 1, 2, 1, 1] (.s 137) (.s 139), .none⟩,
         ⟨some 141, some (132, false), .pick (.s 135) (.s 140) (.c (.d (.bool false))), .none⟩,
         ⟨some 142, none, .pick (.s 132) (.c (.d (.bool true))) (.s 141), .none⟩]
        [[], [0], [], [2], [3], [4, 3], [3, 5], [1, 6], [7, 3], [8], [9, 8], [8], [11, 8, 8], [12], [13, 12], [14, 12, 12], [15], [16, 15], [15], [18, 15], [17, 19, 15], [15, 20, 12], [12, 21, 8], [10, 22, 8], [8, 23], [24, 15], [25], [26, 25], [27, 25, 25], [28], [29, 28], [28], [31, 28], [30, 32, 28], [28, 33, 25], [25, 34]] [])
     (.cond (.s 142)
      (.seq (.reg [⟨some 4, none, .mv (.c (.d (.bool false))), .none⟩])
      (.ret (some [4])))
      .skip))
    (.seq (.reg [⟨some 143, none, .mv (.s 10), .none⟩,
        ⟨some 144, none, .un .not (.s 143), .none⟩,
        ⟨some 145, none, .mv (.s 144), .none⟩,
        ⟨some 146, some (145, false), .fa (.s 9) 0, .none⟩,
        ⟨some 147, some (145, false), .fa (.s 146) 1, .none⟩,
        ⟨some 148, some (145, false), .ld (.s 147) 1 false, .none⟩,
        ⟨some 149, some (145, false), .fa (.s 11) 0, .none⟩,
        ⟨some 150, some (145, false), .fa (.s 149) 1, .none⟩,
        ⟨some 151, some (145, false), .ld (.s 150) 1 false, .none⟩,
        ⟨some 152, some (145, false), .bin .neq (.s 148) (.s 151), .none⟩,
        ⟨some 153, none, .pick (.s 145) (.c (.d (.bool true))) (.s 152), .none⟩,
        ⟨some 13, none, .mv (.s 153), .none⟩])
    (.seq (.seq (.reg [⟨some 154, none, .fa (.s 11) 5, .none⟩,
         ⟨some 155, none, .ld (.s 154) 1 false, .none⟩,
         ⟨some 156, none, .len (.s 155), .none⟩,
         ⟨some 157, none, .mv (.c (.d (.int .i64 0))), .none⟩])
     (.block 2 (.loop [0, 1, 5, 6, 8, 9, 11, 12, 13, 44, 45, 46, 155, 156, 157] lp3_1)))
    (.seq (.seq (.reg [⟨some 175, none, .fa (.s 8) 8, .none⟩,
         ⟨some 176, none, .ld (.s 175) 1 false, .none⟩,
         ⟨some 177, none, .len (.s 176), .none⟩,
         ⟨some 178, none, .mv (.c (.d (.int .i64 0))), .none⟩])
     (.block 4 (.loop [0, 1, 5, 6, 8, 9, 11, 12, 13, 44, 45, 46, 176, 177, 178] lp3_2)))
    (.seq (.reg [⟨some 18, none, .mv (.c (.d (.int .i64 0))), .none⟩])
    (.seq (.seq (.reg [⟨some 188, none, .fa (.s 9) 5, .none⟩,
         ⟨some 189, none, .ld (.s 188) 1 false, .none⟩,
         ⟨some 190, none, .len (.s 189), .none⟩,
         ⟨some 191, none, .mv (.c (.d (.int .i64 0))), .none⟩])
     (.block 6 (.loop [0, 1, 5, 6, 8, 11, 12, 13, 18, 44, 45, 46, 189, 190, 191] lp3_3)))
    (.seq (.seq (.reg [⟨some 226, none, .mv (.s 18), .none⟩,
         ⟨some 227, none, .fa (.s 8) 9, .none⟩,
         ⟨some 228, none, .ld (.s 227) 1 false, .none⟩,
         ⟨some 229, none, .len (.s 228), .none⟩,
         ⟨some 230, none, .bin .neq (.s 226) (.s 229), .none⟩])
     (.cond (.s 230)
      (.seq (.reg [⟨some 4, none, .mv (.c (.d (.bool false))), .none⟩])
      (.ret (some [4])))
      .skip))
    (.reg [⟨some 231, none, .mv (.s 6), .none⟩,
       ⟨some 232, none, .fa (.s 8) 8, .none⟩,
       ⟨some 233, none, .ld (.s 232) 1 false, .none⟩,
       ⟨some 234, none, .len (.s 233), .none⟩,
       ⟨some 235, none, .bin .add (.c (.d (.int .i64 1))) (.s 234), .none⟩,
       ⟨some 236, none, .fa (.s 8) 9, .none⟩,
       ⟨some 237, none, .ld (.s 236) 1 false, .none⟩,
       ⟨some 238, none, .len (.s 237), .none⟩,
       ⟨some 239, none, .bin .add (.s 235) (.s 238), .none⟩,
       ⟨some 240, none, .bin .add (.s 231) (.s 239), .none⟩,
       ⟨some 6, none, .mv (.s 240), .none⟩])))))))))))))
  (.reg [⟨some 241, none, .bin .add (.s 46) (.c (.d (.int .i64 1))), .none⟩,
     ⟨some 46, none, .mv (.s 241), .none⟩]))))
def lp3_0 : C := lb3_0
theorem u3_0 (c : Ev.Callee) (l : Ev.Looper) (s : St) : evC c l lp3_0 s = evC c l lb3_0 s := rfl
abbrev st3_0 (m : Nat) (s0 s1 s5 s6 s44 s45 s46 : AV) (h : Heap) : St := ⟨m,[s0,s1,.unk,.unk,.unk,s5,s6,.unk,.unk,.unk,.unk,.unk,.unk,.unk,.unk,.unk,.unk,.unk,.unk,.unk,.unk,.unk,.unk,.unk,.unk,.unk,.unk,.unk,.unk,.unk,.unk,.unk,.unk,.unk,.unk,.unk,.unk,.unk,.unk,.unk,.unk,.unk,.unk,.unk,s44,s45,s46,.unk,.unk,.unk,.unk,.unk,.unk,.unk,.unk,.unk,.unk,.unk,.unk,.unk,.unk,.unk,.unk,.unk,.unk,.unk,.unk,.unk,.unk,.unk,.unk,.unk,.unk,.unk,.unk,.unk,.unk,.unk,.unk,.unk,.unk,.unk,.unk,.unk,.unk,.unk,.unk,.unk,.unk,.unk,.unk,.unk,.unk,.unk,.unk,.unk,.unk,.unk,.unk,.unk,.unk,.unk,.unk,.unk,.unk,.unk,.unk,.unk,.unk,.unk,.unk,.unk,.unk,.unk,.unk,.unk,.unk,.unk,.unk,.unk,.unk,.unk,.unk,.unk,.unk,.unk,.unk,.unk,.unk,.unk,.unk,.unk,.unk,.unk,.unk,.unk,.unk,.unk,.unk,.unk,.unk,.unk,.unk,.unk,.unk,.unk,.unk,.unk,.unk,.unk,.unk,.unk,.unk,.unk,.unk,.unk,.unk,.unk,.unk,.unk,.unk,.unk,.unk,.unk,.unk,.unk,.unk,.unk,.unk,.unk,.unk,.unk,.unk,.unk,.unk,.unk,.unk,.unk,.unk,.unk,.unk,.unk,.unk,.unk,.unk,.unk,.unk,.unk,.unk,.unk,.unk,.unk,.unk,.unk,.unk,.unk,.unk,.unk,.unk,.unk,.unk,.unk,.unk,.unk,.unk,.unk,.unk,.unk,.unk,.unk,.unk,.unk,.unk,.unk,.unk,.unk,.unk,.unk,.unk,.unk,.unk,.unk,.unk,.unk,.unk,.unk,.unk,.unk,.unk,.unk,.unk,.unk,.unk,.unk,.unk,.unk,.unk,.unk,.unk,.unk,.unk,.unk,.unk,.unk,.unk,.unk,.unk,.unk,.unk,.unk,.unk],h⟩
@[go_sem] theorem ks3_0 (a b c d e f g h i j k l m n o p q r s t u v w x y z a0 a1 a2 a3 a4 a5 a6 a7 a8 a9 b0 b1 b2 b3 b4 b5 b6 b7 b8 b9 c0 c1 c2 c3 c4 c5 c6 c7 c8 c9 d0 d1 d2 d3 d4 d5 d6 d7 d8 d9 e0 e1 e2 e3 e4 e5 e6 e7 e8 e9 f0 f1 f2 f3 f4 f5 f6 f7 f8 f9 g0 g1 g2 g3 g4 g5 g6 g7 g8 g9 h0 h1 h2 h3 h4 h5 h6 h7 h8 h9 i0 i1 i2 i3 i4 i5 i6 i7 i8 i9 j0 j1 j2 j3 j4 j5 j6 j7 j8 j9 k0 k1 k2 k3 k4 k5 k6 k7 k8 k9 l0 l1 l2 l3 l4 l5 l6 l7 l8 l9 m0 m1 m2 m3 m4 m5 m6 m7 m8 m9 n0 n1 n2 n3 n4 n5 n6 n7 n8 n9 o0 o1 o2 o3 o4 o5 o6 o7 o8 o9 p0 p1 p2 p3 p4 p5 p6 p7 p8 p9 q0 q1 q2 q3 q4 q5 q6 q7 q8 q9 r0 r1 r2 r3 r4 r5 r6 r7 r8 r9 s0 s1 s2 s3 s4 s5 s6 s7 s8 s9 t0 t1 t2 t3 t4 t5 t6 t7 t8 t9 u0 u1 u2 u3 u4 u5 u6 u7 u8 u9 v0 v1 v2 v3 v4 v5 v6 v7 v8 v9 w0 w1 w2 w3 w4 : AV) : keepS [0,1,5,6,44,45,46] [a,b,c,d,e,f,g,h,i,j,k,l,m,n,o,p,q,r,s,t,u,v,w,x,y,z,a0,a1,a2,a3,a4,a5,a6,a7,a8,a9,b0,b1,b2,b3,b4,b5,b6,b7,b8,b9,c0,c1,c2,c3,c4,c5,c6,c7,c8,c9,d0,d1,d2,d3,d4,d5,d6,d7,d8,d9,e0,e1,e2,e3,e4,e5,e6,e7,e8,e9,f0,f1,f2,f3,f4,f5,f6,f7,f8,f9,g0,g1,g2,g3,g4,g5,g6,g7,g8,g9,h0,h1,h2,h3,h4,h5,h6,h7,h8,h9,i0,i1,i2,i3,i4,i5,i6,i7,i8,i9,j0,j1,j2,j3,j4,j5,j6,j7,j8,j9,k0,k1,k2,k3,k4,k5,k6,k7,k8,k9,l0,l1,l2,l3,l4,l5,l6,l7,l8,l9,m0,m1,m2,m3,m4,m5,m6,m7,m8,m9,n0,n1,n2,n3,n4,n5,n6,n7,n8,n9,o0,o1,o2,o3,o4,o5,o6,o7,o8,o9,p0,p1,p2,p3,p4,p5,p6,p7,p8,p9,q0,q1,q2,q3,q4,q5,q6,q7,q8,q9,r0,r1,r2,r3,r4,r5,r6,r7,r8,r9,s0,s1,s2,s3,s4,s5,s6,s7,s8,s9,t0,t1,t2,t3,t4,t5,t6,t7,t8,t9,u0,u1,u2,u3,u4,u5,u6,u7,u8,u9,v0,v1,v2,v3,v4,v5,v6,v7,v8,v9,w0,w1,w2,w3,w4] 0 = [a,b,.unk,.unk,.unk,f,g,.unk,.unk,.unk,.unk,.unk,.unk,.unk,.unk,.unk,.unk,.unk,.unk,.unk,.unk,.unk,.unk,.unk,.unk,.unk,.unk,.unk,.unk,.unk,.unk,.unk,.unk,.unk,.unk,.unk,.unk,.unk,.unk,.unk,.unk,.unk,.unk,.unk,b8,b9,c0,.unk,.unk,.unk,.unk,.unk,.unk,.unk,.unk,.unk,.unk,.unk,.unk,.unk,.unk,.unk,.unk,.unk,.unk,.unk,.unk,.unk,.unk,.unk,.unk,.unk,.unk,.unk,.unk,.unk,.unk,.unk,.unk,.unk,.unk,.unk,.unk,.unk,.unk,.unk,.unk,.unk,.unk,.unk,.unk,.unk,.unk,.unk,.unk,.unk,.unk,.unk,.unk,.unk,.unk,.unk,.unk,.unk,.unk,.unk,.unk,.unk,.unk,.unk,.unk,.unk,.unk,.unk,.unk,.unk,.unk,.unk,.unk,.unk,.unk,.unk,.unk,.unk,.unk,.unk,.unk,.unk,.unk,.unk,.unk,.unk,.unk,.unk,.unk,.unk,.unk,.unk,.unk,.unk,.unk,.unk,.unk,.unk,.unk,.unk,.unk,.unk,.unk,.unk,.unk,.unk,.unk,.unk,.unk,.unk,.unk,.unk,.unk,.unk,.unk,.unk,.unk,.unk,.unk,.unk,.unk,.unk,.unk,.unk,.unk,.unk,.unk,.unk,.unk,.unk,.unk,.unk,.unk,.unk,.unk,.unk,.unk,.unk,.unk,.unk,.unk,.unk,.unk,.unk,.unk,.unk,.unk,.unk,.unk,.unk,.unk,.unk,.unk,.unk,.unk,.unk,.unk,.unk,.unk,.unk,.unk,.unk,.unk,.unk,.unk,.unk,.unk,.unk,.unk,.unk,.unk,.unk,.unk,.unk,.unk,.unk,.unk,.unk,.unk,.unk,.unk,.unk,.unk,.unk,.unk,.unk,.unk,.unk,.unk,.unk,.unk,.unk,.unk,.unk,.unk,.unk,.unk,.unk,.unk,.unk,.unk,.unk,.unk,.unk,.unk] := rfl
@[go_sem] theorem ks3_1 (a b c d e f g h i j k l m n o p q r s t u v w x y z a0 a1 a2 a3 a4 a5 a6 a7 a8 a9 b0 b1 b2 b3 b4 b5 b6 b7 b8 b9 c0 c1 c2 c3 c4 c5 c6 c7 c8 c9 d0 d1 d2 d3 d4 d5 d6 d7 d8 d9 e0 e1 e2 e3 e4 e5 e6 e7 e8 e9 f0 f1 f2 f3 f4 f5 f6 f7 f8 f9 g0 g1 g2 g3 g4 g5 g6 g7 g8 g9 h0 h1 h2 h3 h4 h5 h6 h7 h8 h9 i0 i1 i2 i3 i4 i5 i6 i7 i8 i9 j0 j1 j2 j3 j4 j5 j6 j7 j8 j9 k0 k1 k2 k3 k4 k5 k6 k7 k8 k9 l0 l1 l2 l3 l4 l5 l6 l7 l8 l9 m0 m1 m2 m3 m4 m5 m6 m7 m8 m9 n0 n1 n2 n3 n4 n5 n6 n7 n8 n9 o0 o1 o2 o3 o4 o5 o6 o7 o8 o9 p0 p1 p2 p3 p4 p5 p6 p7 p8 p9 q0 q1 q2 q3 q4 q5 q6 q7 q8 q9 r0 r1 r2 r3 r4 r5 r6 r7 r8 r9 s0 s1 s2 s3 s4 s5 s6 s7 s8 s9 t0 t1 t2 t3 t4 t5 t6 t7 t8 t9 u0 u1 u2 u3 u4 u5 u6 u7 u8 u9 v0 v1 v2 v3 v4 v5 v6 v7 v8 v9 w0 w1 w2 w3 w4 : AV) : keepS [5,6] [a,b,c,d,e,f,g,h,i,j,k,l,m,n,o,p,q,r,s,t,u,v,w,x,y,z,a0,a1,a2,a3,a4,a5,a6,a7,a8,a9,b0,b1,b2,b3,b4,b5,b6,b7,b8,b9,c0,c1,c2,c3,c4,c5,c6,c7,c8,c9,d0,d1,d2,d3,d4,d5,d6,d7,d8,d9,e0,e1,e2,e3,e4,e5,e6,e7,e8,e9,f0,f1,f2,f3,f4,f5,f6,f7,f8,f9,g0,g1,g2,g3,g4,g5,g6,g7,g8,g9,h0,h1,h2,h3,h4,h5,h6,h7,h8,h9,i0,i1,i2,i3,i4,i5,i6,i7,i8,i9,j0,j1,j2,j3,j4,j5,j6,j7,j8,j9,k0,k1,k2,k3,k4,k5,k6,k7,k8,k9,l0,l1,l2,l3,l4,l5,l6,l7,l8,l9,m0,m1,m2,m3,m4,m5,m6,m7,m8,m9,n0,n1,n2,n3,n4,n5,n6,n7,n8,n9,o0,o1,o2,o3,o4,o5,o6,o7,o8,o9,p0,p1,p2,p3,p4,p5,p6,p7,p8,p9,q0,q1,q2,q3,q4,q5,q6,q7,q8,q9,r0,r1,r2,r3,r4,r5,r6,r7,r8,r9,s0,s1,s2,s3,s4,s5,s6,s7,s8,s9,t0,t1,t2,t3,t4,t5,t6,t7,t8,t9,u0,u1,u2,u3,u4,u5,u6,u7,u8,u9,v0,v1,v2,v3,v4,v5,v6,v7,v8,v9,w0,w1,w2,w3,w4] 0 = [.unk,.unk,.unk,.unk,.unk,f,g,.unk,.unk,.unk,.unk,.unk,.unk,.unk,.unk,.unk,.unk,.unk,.unk,.unk,.unk,.unk,.unk,.unk,.unk,.unk,.unk,.unk,.unk,.unk,.unk,.unk,.unk,.unk,.unk,.unk,.unk,.unk,.unk,.unk,.unk,.unk,.unk,.unk,.unk,.unk,.unk,.unk,.unk,.unk,.unk,.unk,.unk,.unk,.unk,.unk,.unk,.unk,.unk,.unk,.unk,.unk,.unk,.unk,.unk,.unk,.unk,.unk,.unk,.unk,.unk,.unk,.unk,.unk,.unk,.unk,.unk,.unk,.unk,.unk,.unk,.unk,.unk,.unk,.unk,.unk,.unk,.unk,.unk,.unk,.unk,.unk,.unk,.unk,.unk,.unk,.unk,.unk,.unk,.unk,.unk,.unk,.unk,.unk,.unk,.unk,.unk,.unk,.unk,.unk,.unk,.unk,.unk,.unk,.unk,.unk,.unk,.unk,.unk,.unk,.unk,.unk,.unk,.unk,.unk,.unk,.unk,.unk,.unk,.unk,.unk,.unk,.unk,.unk,.unk,.unk,.unk,.unk,.unk,.unk,.unk,.unk,.unk,.unk,.unk,.unk,.unk,.unk,.unk,.unk,.unk,.unk,.unk,.unk,.unk,.unk,.unk,.unk,.unk,.unk,.unk,.unk,.unk,.unk,.unk,.unk,.unk,.unk,.unk,.unk,.unk,.unk,.unk,.unk,.unk,.unk,.unk,.unk,.unk,.unk,.unk,.unk,.unk,.unk,.unk,.unk,.unk,.unk,.unk,.unk,.unk,.unk,.unk,.unk,.unk,.unk,.unk,.unk,.unk,.unk,.unk,.unk,.unk,.unk,.unk,.unk,.unk,.unk,.unk,.unk,.unk,.unk,.unk,.unk,.unk,.unk,.unk,.unk,.unk,.unk,.unk,.unk,.unk,.unk,.unk,.unk,.unk,.unk,.unk,.unk,.unk,.unk,.unk,.unk,.unk,.unk,.unk,.unk,.unk,.unk,.unk,.unk,.unk,.unk,.unk,.unk,.unk,.unk,.unk,.unk,.unk] := rfl
@[go_sem] theorem ks3_2 (a b c d e f g h i j k l m n o p q r s t u v w x y z a0 a1 a2 a3 a4 a5 a6 a7 a8 a9 b0 b1 b2 b3 b4 b5 b6 b7 b8 b9 c0 c1 c2 c3 c4 c5 c6 c7 c8 c9 d0 d1 d2 d3 d4 d5 d6 d7 d8 d9 e0 e1 e2 e3 e4 e5 e6 e7 e8 e9 f0 f1 f2 f3 f4 f5 f6 f7 f8 f9 g0 g1 g2 g3 g4 g5 g6 g7 g8 g9 h0 h1 h2 h3 h4 h5 h6 h7 h8 h9 i0 i1 i2 i3 i4 i5 i6 i7 i8 i9 j0 j1 j2 j3 j4 j5 j6 j7 j8 j9 k0 k1 k2 k3 k4 k5 k6 k7 k8 k9 l0 l1 l2 l3 l4 l5 l6 l7 l8 l9 m0 m1 m2 m3 m4 m5 m6 m7 m8 m9 n0 n1 n2 n3 n4 n5 n6 n7 n8 n9 o0 o1 o2 o3 o4 o5 o6 o7 o8 o9 p0 p1 p2 p3 p4 p5 p6 p7 p8 p9 q0 q1 q2 q3 q4 q5 q6 q7 q8 q9 r0 r1 r2 r3 r4 r5 r6 r7 r8 r9 s0 s1 s2 s3 s4 s5 s6 s7 s8 s9 t0 t1 t2 t3 t4 t5 t6 t7 t8 t9 u0 u1 u2 u3 u4 u5 u6 u7 u8 u9 v0 v1 v2 v3 v4 v5 v6 v7 v8 v9 w0 w1 w2 w3 w4 : AV) : keepS [4] [a,b,c,d,e,f,g,h,i,j,k,l,m,n,o,p,q,r,s,t,u,v,w,x,y,z,a0,a1,a2,a3,a4,a5,a6,a7,a8,a9,b0,b1,b2,b3,b4,b5,b6,b7,b8,b9,c0,c1,c2,c3,c4,c5,c6,c7,c8,c9,d0,d1,d2,d3,d4,d5,d6,d7,d8,d9,e0,e1,e2,e3,e4,e5,e6,e7,e8,e9,f0,f1,f2,f3,f4,f5,f6,f7,f8,f9,g0,g1,g2,g3,g4,g5,g6,g7,g8,g9,h0,h1,h2,h3,h4,h5,h6,h7,h8,h9,i0,i1,i2,i3,i4,i5,i6,i7,i8,i9,j0,j1,j2,j3,j4,j5,j6,j7,j8,j9,k0,k1,k2,k3,k4,k5,k6,k7,k8,k9,l0,l1,l2,l3,l4,l5,l6,l7,l8,l9,m0,m1,m2,m3,m4,m5,m6,m7,m8,m9,n0,n1,n2,n3,n4,n5,n6,n7,n8,n9,o0,o1,o2,o3,o4,o5,o6,o7,o8,o9,p0,p1,p2,p3,p4,p5,p6,p7,p8,p9,q0,q1,q2,q3,q4,q5,q6,q7,q8,q9,r0,r1,r2,r3,r4,r5,r6,r7,r8,r9,s0,s1,s2,s3,s4,s5,s6,s7,s8,s9,t0,t1,t2,t3,t4,t5,t6,t7,t8,t9,u0,u1,u2,u3,u4,u5,u6,u7,u8,u9,v0,v1,v2,v3,v4,v5,v6,v7,v8,v9,w0,w1,w2,w3,w4] 0 = [.unk,.unk,.unk,.unk,e,.unk,.unk,.unk,.unk,.unk,.unk,.unk,.unk,.unk,.unk,.unk,.unk,.unk,.unk,.unk,.unk,.unk,.unk,.unk,.unk,.unk,.unk,.unk,.unk,.unk,.unk,.unk,.unk,.unk,.unk,.unk,.unk,.unk,.unk,.unk,.unk,.unk,.unk,.unk,.unk,.unk,.unk,.unk,.unk,.unk,.unk,.unk,.unk,.unk,.unk,.unk,.unk,.unk,.unk,.unk,.unk,.unk,.unk,.unk,.unk,.unk,.unk,.unk,.unk,.unk,.unk,.unk,.unk,.unk,.unk,.unk,.unk,.unk,.unk,.unk,.unk,.unk,.unk,.unk,.unk,.unk,.unk,.unk,.unk,.unk,.unk,.unk,.unk,.unk,.unk,.unk,.unk,.unk,.unk,.unk,.unk,.unk,.unk,.unk,.unk,.unk,.unk,.unk,.unk,.unk,.unk,.unk,.unk,.unk,.unk,.unk,.unk,.unk,.unk,.unk,.unk,.unk,.unk,.unk,.unk,.unk,.unk,.unk,.unk,.unk,.unk,.unk,.unk,.unk,.unk,.unk,.unk,.unk,.unk,.unk,.unk,.unk,.unk,.unk,.unk,.unk,.unk,.unk,.unk,.unk,.unk,.unk,.unk,.unk,.unk,.unk,.unk,.unk,.unk,.unk,.unk,.unk,.unk,.unk,.unk,.unk,.unk,.unk,.unk,.unk,.unk,.unk,.unk,.unk,.unk,.unk,.unk,.unk,.unk,.unk,.unk,.unk,.unk,.unk,.unk,.unk,.unk,.unk,.unk,.unk,.unk,.unk,.unk,.unk,.unk,.unk,.unk,.unk,.unk,.unk,.unk,.unk,.unk,.unk,.unk,.unk,.unk,.unk,.unk,.unk,.unk,.unk,.unk,.unk,.unk,.unk,.unk,.unk,.unk,.unk,.unk,.unk,.unk,.unk,.unk,.unk,.unk,.unk,.unk,.unk,.unk,.unk,.unk,.unk,.unk,.unk,.unk,.unk,.unk,.unk,.unk,.unk,.unk,.unk,.unk,.unk,.unk,.unk,.unk,.unk,.unk] := rfl
@[go_sem] theorem ks3_3 (a b c d e f g h i j k l m n o p q r s t u v w x y z a0 a1 a2 a3 a4 a5 a6 a7 a8 a9 b0 b1 b2 b3 b4 b5 b6 b7 b8 b9 c0 c1 c2 c3 c4 c5 c6 c7 c8 c9 d0 d1 d2 d3 d4 d5 d6 d7 d8 d9 e0 e1 e2 e3 e4 e5 e6 e7 e8 e9 f0 f1 f2 f3 f4 f5 f6 f7 f8 f9 g0 g1 g2 g3 g4 g5 g6 g7 g8 g9 h0 h1 h2 h3 h4 h5 h6 h7 h8 h9 i0 i1 i2 i3 i4 i5 i6 i7 i8 i9 j0 j1 j2 j3 j4 j5 j6 j7 j8 j9 k0 k1 k2 k3 k4 k5 k6 k7 k8 k9 l0 l1 l2 l3 l4 l5 l6 l7 l8 l9 m0 m1 m2 m3 m4 m5 m6 m7 m8 m9 n0 n1 n2 n3 n4 n5 n6 n7 n8 n9 o0 o1 o2 o3 o4 o5 o6 o7 o8 o9 p0 p1 p2 p3 p4 p5 p6 p7 p8 p9 q0 q1 q2 q3 q4 q5 q6 q7 q8 q9 r0 r1 r2 r3 r4 r5 r6 r7 r8 r9 s0 s1 s2 s3 s4 s5 s6 s7 s8 s9 t0 t1 t2 t3 t4 t5 t6 t7 t8 t9 u0 u1 u2 u3 u4 u5 u6 u7 u8 u9 v0 v1 v2 v3 v4 v5 v6 v7 v8 v9 w0 w1 w2 w3 w4 : AV) : keepS [0,1,5,6,8,9,11,12,13,44,45,46,155,156,157] [a,b,c,d,e,f,g,h,i,j,k,l,m,n,o,p,q,r,s,t,u,v,w,x,y,z,a0,a1,a2,a3,a4,a5,a6,a7,a8,a9,b0,b1,b2,b3,b4,b5,b6,b7,b8,b9,c0,c1,c2,c3,c4,c5,c6,c7,c8,c9,d0,d1,d2,d3,d4,d5,d6,d7,d8,d9,e0,e1,e2,e3,e4,e5,e6,e7,e8,e9,f0,f1,f2,f3,f4,f5,f6,f7,f8,f9,g0,g1,g2,g3,g4,g5,g6,g7,g8,g9,h0,h1,h2,h3,h4,h5,h6,h7,h8,h9,i0,i1,i2,i3,i4,i5,i6,i7,i8,i9,j0,j1,j2,j3,j4,j5,j6,j7,j8,j9,k0,k1,k2,k3,k4,k5,k6,k7,k8,k9,l0,l1,l2,l3,l4,l5,l6,l7,l8,l9,m0,m1,m2,m3,m4,m5,m6,m7,m8,m9,n0,n1,n2,n3,n4,n5,n6,n7,n8,n9,o0,o1,o2,o3,o4,o5,o6,o7,o8,o9,p0,p1,p2,p3,p4,p5,p6,p7,p8,p9,q0,q1,q2,q3,q4,q5,q6,q7,q8,q9,r0,r1,r2,r3,r4,r5,r6,r7,r8,r9,s0,s1,s2,s3,s4,s5,s6,s7,s8,s9,t0,t1,t2,t3,t4,t5,t6,t7,t8,t9,u0,u1,u2,u3,u4,u5,u6,u7,u8,u9,v0,v1,v2,v3,v4,v5,v6,v7,v8,v9,w0,w1,w2,w3,w4] 0 = [a,b,.unk,.unk,.unk,f,g,.unk,i,j,.unk,l,m,n,.unk,.unk,.unk,.unk,.unk,.unk,.unk,.unk,.unk,.unk,.unk,.unk,.unk,.unk,.unk,.unk,.unk,.unk,.unk,.unk,.unk,.unk,.unk,.unk,.unk,.unk,.unk,.unk,.unk,.unk,b8,b9,c0,.unk,.unk,.unk,.unk,.unk,.unk,.unk,.unk,.unk,.unk,.unk,.unk,.unk,.unk,.unk,.unk,.unk,.unk,.unk,.unk,.unk,.unk,.unk,.unk,.unk,.unk,.unk,.unk,.unk,.unk,.unk,.unk,.unk,.unk,.unk,.unk,.unk,.unk,.unk,.unk,.unk,.unk,.unk,.unk,.unk,.unk,.unk,.unk,.unk,.unk,.unk,.unk,.unk,.unk,.unk,.unk,.unk,.unk,.unk,.unk,.unk,.unk,.unk,.unk,.unk,.unk,.unk,.unk,.unk,.unk,.unk,.unk,.unk,.unk,.unk,.unk,.unk,.unk,.unk,.unk,.unk,.unk,.unk,.unk,.unk,.unk,.unk,.unk,.unk,.unk,.unk,.unk,.unk,.unk,.unk,.unk,.unk,.unk,.unk,.unk,.unk,.unk,.unk,.unk,.unk,.unk,.unk,.unk,m9,n0,n1,.unk,.unk,.unk,.unk,.unk,.unk,.unk,.unk,.unk,.unk,.unk,.unk,.unk,.unk,.unk,.unk,.unk,.unk,.unk,.unk,.unk,.unk,.unk,.unk,.unk,.unk,.unk,.unk,.unk,.unk,.unk,.unk,.unk,.unk,.unk,.unk,.unk,.unk,.unk,.unk,.unk,.unk,.unk,.unk,.unk,.unk,.unk,.unk,.unk,.unk,.unk,.unk,.unk,.unk,.unk,.unk,.unk,.unk,.unk,.unk,.unk,.unk,.unk,.unk,.unk,.unk,.unk,.unk,.unk,.unk,.unk,.unk,.unk,.unk,.unk,.unk,.unk,.unk,.unk,.unk,.unk,.unk,.unk,.unk,.unk,.unk,.unk,.unk,.unk,.unk,.unk,.unk,.unk] := rfl
@[go_sem] theorem ks3_4 (a b c d e f g h i j k l m n o p q r s t u v w x y z a0 a1 a2 a3 a4 a5 a6 a7 a8 a9 b0 b1 b2 b3 b4 b5 b6 b7 b8 b9 c0 c1 c2 c3 c4 c5 c6 c7 c8 c9 d0 d1 d2 d3 d4 d5 d6 d7 d8 d9 e0 e1 e2 e3 e4 e5 e6 e7 e8 e9 f0 f1 f2 f3 f4 f5 f6 f7 f8 f9 g0 g1 g2 g3 g4 g5 g6 g7 g8 g9 h0 h1 h2 h3 h4 h5 h6 h7 h8 h9 i0 i1 i2 i3 i4 i5 i6 i7 i8 i9 j0 j1 j2 j3 j4 j5 j6 j7 j8 j9 k0 k1 k2 k3 k4 k5 k6 k7 k8 k9 l0 l1 l2 l3 l4 l5 l6 l7 l8 l9 m0 m1 m2 m3 m4 m5 m6 m7 m8 m9 n0 n1 n2 n3 n4 n5 n6 n7 n8 n9 o0 o1 o2 o3 o4 o5 o6 o7 o8 o9 p0 p1 p2 p3 p4 p5 p6 p7 p8 p9 q0 q1 q2 q3 q4 q5 q6 q7 q8 q9 r0 r1 r2 r3 r4 r5 r6 r7 r8 r9 s0 s1 s2 s3 s4 s5 s6 s7 s8 s9 t0 t1 t2 t3 t4 t5 t6 t7 t8 t9 u0 u1 u2 u3 u4 u5 u6 u7 u8 u9 v0 v1 v2 v3 v4 v5 v6 v7 v8 v9 w0 w1 w2 w3 w4 : AV) : keepS [0,1,5,6,8,9,11,12,13,44,45,46] [a,b,c,d,e,f,g,h,i,j,k,l,m,n,o,p,q,r,s,t,u,v,w,x,y,z,a0,a1,a2,a3,a4,a5,a6,a7,a8,a9,b0,b1,b2,b3,b4,b5,b6,b7,b8,b9,c0,c1,c2,c3,c4,c5,c6,c7,c8,c9,d0,d1,d2,d3,d4,d5,d6,d7,d8,d9,e0,e1,e2,e3,e4,e5,e6,e7,e8,e9,f0,f1,f2,f3,f4,f5,f6,f7,f8,f9,g0,g1,g2,g3,g4,g5,g6,g7,g8,g9,h0,h1,h2,h3,h4,h5,h6,h7,h8,h9,i0,i1,i2,i3,i4,i5,i6,i7,i8,i9,j0,j1,j2,j3,j4,j5,j6,j7,j8,j9,k0,k1,k2,k3,k4,k5,k6,k7,k8,k9,l0,l1,l2,l3,l4,l5,l6,l7,l8,l9,m0,m1,m2,m3,m4,m5,m6,m7,m8,m9,n0,n1,n2,n3,n4,n5,n6,n7,n8,n9,o0,o1,o2,o3,o4,o5,o6,o7,o8,o9,p0,p1,p2,p3,p4,p5,p6,p7,p8,p9,q0,q1,q2,q3,q4,q5,q6,q7,q8,q9,r0,r1,r2,r3,r4,r5,r6,r7,r8,r9,s0,s1,s2,s3,s4,s5,s6,s7,s8,s9,t0,t1,t2,t3,t4,t5,t6,t7,t8,t9,u0,u1,u2,u3,u4,u5,u6,u7,u8,u9,v0,v1,v2,v3,v4,v5,v6,v7,v8,v9,w0,w1,w2,w3,w4] 0 = [a,b,.unk,.unk,.unk,f,g,.unk,i,j,.unk,l,m,n,.unk,.unk,.unk,.unk,.unk,.unk,.unk,.unk,.unk,.unk,.unk,.unk,.unk,.unk,.unk,.unk,.unk,.unk,.unk,.unk,.unk,.unk,.unk,.unk,.unk,.unk,.unk,.unk,.unk,.unk,b8,b9,c0,.unk,.unk,.unk,.unk,.unk,.unk,.unk,.unk,.unk,.unk,.unk,.unk,.unk,.unk,.unk,.unk,.unk,.unk,.unk,.unk,.unk,.unk,.unk,.unk,.unk,.unk,.unk,.unk,.unk,.unk,.unk,.unk,.unk,.unk,.unk,.unk,.unk,.unk,.unk,.unk,.unk,.unk,.unk,.unk,.unk,.unk,.unk,.unk,.unk,.unk,.unk,.unk,.unk,.unk,.unk,.unk,.unk,.unk,.unk,.unk,.unk,.unk,.unk,.unk,.unk,.unk,.unk,.unk,.unk,.unk,.unk,.unk,.unk,.unk,.unk,.unk,.unk,.unk,.unk,.unk,.unk,.unk,.unk,.unk,.unk,.unk,.unk,.unk,.unk,.unk,.unk,.unk,.unk,.unk,.unk,.unk,.unk,.unk,.unk,.unk,.unk,.unk,.unk,.unk,.unk,.unk,.unk,.unk,.unk,.unk,.unk,.unk,.unk,.unk,.unk,.unk,.unk,.unk,.unk,.unk,.unk,.unk,.unk,.unk,.unk,.unk,.unk,.unk,.unk,.unk,.unk,.unk,.unk,.unk,.unk,.unk,.unk,.unk,.unk,.unk,.unk,.unk,.unk,.unk,.unk,.unk,.unk,.unk,.unk,.unk,.unk,.unk,.unk,.unk,.unk,.unk,.unk,.unk,.unk,.unk,.unk,.unk,.unk,.unk,.unk,.unk,.unk,.unk,.unk,.unk,.unk,.unk,.unk,.unk,.unk,.unk,.unk,.unk,.unk,.unk,.unk,.unk,.unk,.unk,.unk,.unk,.unk,.unk,.unk,.unk,.unk,.unk,.unk,.unk,.unk,.unk,.unk,.unk,.unk,.unk,.unk,.unk,.unk,.unk] := rfl
@[go_sem] theorem ks3_5 (a b c d e f g h i j k l m n o p q r s t u v w x y z a0 a1 a2 a3 a4 a5 a6 a7 a8 a9 b0 b1 b2 b3 b4 b5 b6 b7 b8 b9 c0 c1 c2 c3 c4 c5 c6 c7 c8 c9 d0 d1 d2 d3 d4 d5 d6 d7 d8 d9 e0 e1 e2 e3 e4 e5 e6 e7 e8 e9 f0 f1 f2 f3 f4 f5 f6 f7 f8 f9 g0 g1 g2 g3 g4 g5 g6 g7 g8 g9 h0 h1 h2 h3 h4 h5 h6 h7 h8 h9 i0 i1 i2 i3 i4 i5 i6 i7 i8 i9 j0 j1 j2 j3 j4 j5 j6 j7 j8 j9 k0 k1 k2 k3 k4 k5 k6 k7 k8 k9 l0 l1 l2 l3 l4 l5 l6 l7 l8 l9 m0 m1 m2 m3 m4 m5 m6 m7 m8 m9 n0 n1 n2 n3 n4 n5 n6 n7 n8 n9 o0 o1 o2 o3 o4 o5 o6 o7 o8 o9 p0 p1 p2 p3 p4 p5 p6 p7 p8 p9 q0 q1 q2 q3 q4 q5 q6 q7 q8 q9 r0 r1 r2 r3 r4 r5 r6 r7 r8 r9 s0 s1 s2 s3 s4 s5 s6 s7 s8 s9 t0 t1 t2 t3 t4 t5 t6 t7 t8 t9 u0 u1 u2 u3 u4 u5 u6 u7 u8 u9 v0 v1 v2 v3 v4 v5 v6 v7 v8 v9 w0 w1 w2 w3 w4 : AV) : keepS [0,1,5,6,8,9,11,12,13,44,45,46,176,177,178] [a,b,c,d,e,f,g,h,i,j,k,l,m,n,o,p,q,r,s,t,u,v,w,x,y,z,a0,a1,a2,a3,a4,a5,a6,a7,a8,a9,b0,b1,b2,b3,b4,b5,b6,b7,b8,b9,c0,c1,c2,c3,c4,c5,c6,c7,c8,c9,d0,d1,d2,d3,d4,d5,d6,d7,d8,d9,e0,e1,e2,e3,e4,e5,e6,e7,e8,e9,f0,f1,f2,f3,f4,f5,f6,f7,f8,f9,g0,g1,g2,g3,g4,g5,g6,g7,g8,g9,h0,h1,h2,h3,h4,h5,h6,h7,h8,h9,i0,i1,i2,i3,i4,i5,i6,i7,i8,i9,j0,j1,j2,j3,j4,j5,j6,j7,j8,j9,k0,k1,k2,k3,k4,k5,k6,k7,k8,k9,l0,l1,l2,l3,l4,l5,l6,l7,l8,l9,m0,m1,m2,m3,m4,m5,m6,m7,m8,m9,n0,n1,n2,n3,n4,n5,n6,n7,n8,n9,o0,o1,o2,o3,o4,o5,o6,o7,o8,o9,p0,p1,p2,p3,p4,p5,p6,p7,p8,p9,q0,q1,q2,q3,q4,q5,q6,q7,q8,q9,r0,r1,r2,r3,r4,r5,r6,r7,r8,r9,s0,s1,s2,s3,s4,s5,s6,s7,s8,s9,t0,t1,t2,t3,t4,t5,t6,t7,t8,t9,u0,u1,u2,u3,u4,u5,u6,u7,u8,u9,v0,v1,v2,v3,v4,v5,v6,v7,v8,v9,w0,w1,w2,w3,w4] 0 = [a,b,.unk,.unk,.unk,f,g,.unk,i,j,.unk,l,m,n,.unk,.unk,.unk,.unk,.unk,.unk,.unk,.unk,.unk,.unk,.unk,.unk,.unk,.unk,.unk,.unk,.unk,.unk,.unk,.unk,.unk,.unk,.unk,.unk,.unk,.unk,.unk,.unk,.unk,.unk,b8,b9,c0,.unk,.unk,.unk,.unk,.unk,.unk,.unk,.unk,.unk,.unk,.unk,.unk,.unk,.unk,.unk,.unk,.unk,.unk,.unk,.unk,.unk,.unk,.unk,.unk,.unk,.unk,.unk,.unk,.unk,.unk,.unk,.unk,.unk,.unk,.unk,.unk,.unk,.unk,.unk,.unk,.unk,.unk,.unk,.unk,.unk,.unk,.unk,.unk,.unk,.unk,.unk,.unk,.unk,.unk,.unk,.unk,.unk,.unk,.unk,.unk,.unk,.unk,.unk,.unk,.unk,.unk,.unk,.unk,.unk,.unk,.unk,.unk,.unk,.unk,.unk,.unk,.unk,.unk,.unk,.unk,.unk,.unk,.unk,.unk,.unk,.unk,.unk,.unk,.unk,.unk,.unk,.unk,.unk,.unk,.unk,.unk,.unk,.unk,.unk,.unk,.unk,.unk,.unk,.unk,.unk,.unk,.unk,.unk,.unk,.unk,.unk,.unk,.unk,.unk,.unk,.unk,.unk,.unk,.unk,.unk,.unk,.unk,.unk,.unk,.unk,.unk,.unk,.unk,.unk,p0,p1,p2,.unk,.unk,.unk,.unk,.unk,.unk,.unk,.unk,.unk,.unk,.unk,.unk,.unk,.unk,.unk,.unk,.unk,.unk,.unk,.unk,.unk,.unk,.unk,.unk,.unk,.unk,.unk,.unk,.unk,.unk,.unk,.unk,.unk,.unk,.unk,.unk,.unk,.unk,.unk,.unk,.unk,.unk,.unk,.unk,.unk,.unk,.unk,.unk,.unk,.unk,.unk,.unk,.unk,.unk,.unk,.unk,.unk,.unk,.unk,.unk,.unk,.unk,.unk,.unk,.unk,.unk,.unk,.unk,.unk,.unk,.unk,.unk] := rfl
@[go_sem] theorem ks3_6 (a b c d e f g h i j k l m n o p q r s t u v w x y z a0 a1 a2 a3 a4 a5 a6 a7 a8 a9 b0 b1 b2 b3 b4 b5 b6 b7 b8 b9 c0 c1 c2 c3 c4 c5 c6 c7 c8 c9 d0 d1 d2 d3 d4 d5 d6 d7 d8 d9 e0 e1 e2 e3 e4 e5 e6 e7 e8 e9 f0 f1 f2 f3 f4 f5 f6 f7 f8 f9 g0 g1 g2 g3 g4 g5 g6 g7 g8 g9 h0 h1 h2 h3 h4 h5 h6 h7 h8 h9 i0 i1 i2 i3 i4 i5 i6 i7 i8 i9 j0 j1 j2 j3 j4 j5 j6 j7 j8 j9 k0 k1 k2 k3 k4 k5 k6 k7 k8 k9 l0 l1 l2 l3 l4 l5 l6 l7 l8 l9 m0 m1 m2 m3 m4 m5 m6 m7 m8 m9 n0 n1 n2 n3 n4 n5 n6 n7 n8 n9 o0 o1 o2 o3 o4 o5 o6 o7 o8 o9 p0 p1 p2 p3 p4 p5 p6 p7 p8 p9 q0 q1 q2 q3 q4 q5 q6 q7 q8 q9 r0 r1 r2 r3 r4 r5 r6 r7 r8 r9 s0 s1 s2 s3 s4 s5 s6 s7 s8 s9 t0 t1 t2 t3 t4 t5 t6 t7 t8 t9 u0 u1 u2 u3 u4 u5 u6 u7 u8 u9 v0 v1 v2 v3 v4 v5 v6 v7 v8 v9 w0 w1 w2 w3 w4 : AV) : keepS [0,1,5,6,8,11,12,13,18,44,45,46,189,190,191] [a,b,c,d,e,f,g,h,i,j,k,l,m,n,o,p,q,r,s,t,u,v,w,x,y,z,a0,a1,a2,a3,a4,a5,a6,a7,a8,a9,b0,b1,b2,b3,b4,b5,b6,b7,b8,b9,c0,c1,c2,c3,c4,c5,c6,c7,c8,c9,d0,d1,d2,d3,d4,d5,d6,d7,d8,d9,e0,e1,e2,e3,e4,e5,e6,e7,e8,e9,f0,f1,f2,f3,f4,f5,f6,f7,f8,f9,g0,g1,g2,g3,g4,g5,g6,g7,g8,g9,h0,h1,h2,h3,h4,h5,h6,h7,h8,h9,i0,i1,i2,i3,i4,i5,i6,i7,i8,i9,j0,j1,j2,j3,j4,j5,j6,j7,j8,j9,k0,k1,k2,k3,k4,k5,k6,k7,k8,k9,l0,l1,l2,l3,l4,l5,l6,l7,l8,l9,m0,m1,m2,m3,m4,m5,m6,m7,m8,m9,n0,n1,n2,n3,n4,n5,n6,n7,n8,n9,o0,o1,o2,o3,o4,o5,o6,o7,o8,o9,p0,p1,p2,p3,p4,p5,p6,p7,p8,p9,q0,q1,q2,q3,q4,q5,q6,q7,q8,q9,r0,r1,r2,r3,r4,r5,r6,r7,r8,r9,s0,s1,s2,s3,s4,s5,s6,s7,s8,s9,t0,t1,t2,t3,t4,t5,t6,t7,t8,t9,u0,u1,u2,u3,u4,u5,u6,u7,u8,u9,v0,v1,v2,v3,v4,v5,v6,v7,v8,v9,w0,w1,w2,w3,w4] 0 = [a,b,.unk,.unk,.unk,f,g,.unk,i,.unk,.unk,l,m,n,.unk,.unk,.unk,.unk,s,.unk,.unk,.unk,.unk,.unk,.unk,.unk,.unk,.unk,.unk,.unk,.unk,.unk,.unk,.unk,.unk,.unk,.unk,.unk,.unk,.unk,.unk,.unk,.unk,.unk,b8,b9,c0,.unk,.unk,.unk,.unk,.unk,.unk,.unk,.unk,.unk,.unk,.unk,.unk,.unk,.unk,.unk,.unk,.unk,.unk,.unk,.unk,.unk,.unk,.unk,.unk,.unk,.unk,.unk,.unk,.unk,.unk,.unk,.unk,.unk,.unk,.unk,.unk,.unk,.unk,.unk,.unk,.unk,.unk,.unk,.unk,.unk,.unk,.unk,.unk,.unk,.unk,.unk,.unk,.unk,.unk,.unk,.unk,.unk,.unk,.unk,.unk,.unk,.unk,.unk,.unk,.unk,.unk,.unk,.unk,.unk,.unk,.unk,.unk,.unk,.unk,.unk,.unk,.unk,.unk,.unk,.unk,.unk,.unk,.unk,.unk,.unk,.unk,.unk,.unk,.unk,.unk,.unk,.unk,.unk,.unk,.unk,.unk,.unk,.unk,.unk,.unk,.unk,.unk,.unk,.unk,.unk,.unk,.unk,.unk,.unk,.unk,.unk,.unk,.unk,.unk,.unk,.unk,.unk,.unk,.unk,.unk,.unk,.unk,.unk,.unk,.unk,.unk,.unk,.unk,.unk,.unk,.unk,.unk,.unk,.unk,.unk,.unk,.unk,.unk,.unk,.unk,.unk,.unk,q3,q4,q5,.unk,.unk,.unk,.unk,.unk,.unk,.unk,.unk,.unk,.unk,.unk,.unk,.unk,.unk,.unk,.unk,.unk,.unk,.unk,.unk,.unk,.unk,.unk,.unk,.unk,.unk,.unk,.unk,.unk,.unk,.unk,.unk,.unk,.unk,.unk,.unk,.unk,.unk,.unk,.unk,.unk,.unk,.unk,.unk,.unk,.unk,.unk,.unk,.unk,.unk,.unk,.unk,.unk,.unk,.unk,.unk,.unk,.unk,.unk] := rfl
@[go_sem] theorem ks3_7 (a b c d e f g h i j k l m n o p q r s t u v w x y z a0 a1 a2 a3 a4 a5 a6 a7 a8 a9 b0 b1 b2 b3 b4 b5 b6 b7 b8 b9 c0 c1 c2 c3 c4 c5 c6 c7 c8 c9 d0 d1 d2 d3 d4 d5 d6 d7 d8 d9 e0 e1 e2 e3 e4 e5 e6 e7 e8 e9 f0 f1 f2 f3 f4 f5 f6 f7 f8 f9 g0 g1 g2 g3 g4 g5 g6 g7 g8 g9 h0 h1 h2 h3 h4 h5 h6 h7 h8 h9 i0 i1 i2 i3 i4 i5 i6 i7 i8 i9 j0 j1 j2 j3 j4 j5 j6 j7 j8 j9 k0 k1 k2 k3 k4 k5 k6 k7 k8 k9 l0 l1 l2 l3 l4 l5 l6 l7 l8 l9 m0 m1 m2 m3 m4 m5 m6 m7 m8 m9 n0 n1 n2 n3 n4 n5 n6 n7 n8 n9 o0 o1 o2 o3 o4 o5 o6 o7 o8 o9 p0 p1 p2 p3 p4 p5 p6 p7 p8 p9 q0 q1 q2 q3 q4 q5 q6 q7 q8 q9 r0 r1 r2 r3 r4 r5 r6 r7 r8 r9 s0 s1 s2 s3 s4 s5 s6 s7 s8 s9 t0 t1 t2 t3 t4 t5 t6 t7 t8 t9 u0 u1 u2 u3 u4 u5 u6 u7 u8 u9 v0 v1 v2 v3 v4 v5 v6 v7 v8 v9 w0 w1 w2 w3 w4 : AV) : keepS [0,1,5,6,8,18,44,45,46] [a,b,c,d,e,f,g,h,i,j,k,l,m,n,o,p,q,r,s,t,u,v,w,x,y,z,a0,a1,a2,a3,a4,a5,a6,a7,a8,a9,b0,b1,b2,b3,b4,b5,b6,b7,b8,b9,c0,c1,c2,c3,c4,c5,c6,c7,c8,c9,d0,d1,d2,d3,d4,d5,d6,d7,d8,d9,e0,e1,e2,e3,e4,e5,e6,e7,e8,e9,f0,f1,f2,f3,f4,f5,f6,f7,f8,f9,g0,g1,g2,g3,g4,g5,g6,g7,g8,g9,h0,h1,h2,h3,h4,h5,h6,h7,h8,h9,i0,i1,i2,i3,i4,i5,i6,i7,i8,i9,j0,j1,j2,j3,j4,j5,j6,j7,j8,j9,k0,k1,k2,k3,k4,k5,k6,k7,k8,k9,l0,l1,l2,l3,l4,l5,l6,l7,l8,l9,m0,m1,m2,m3,m4,m5,m6,m7,m8,m9,n0,n1,n2,n3,n4,n5,n6,n7,n8,n9,o0,o1,o2,o3,o4,o5,o6,o7,o8,o9,p0,p1,p2,p3,p4,p5,p6,p7,p8,p9,q0,q1,q2,q3,q4,q5,q6,q7,q8,q9,r0,r1,r2,r3,r4,r5,r6,r7,r8,r9,s0,s1,s2,s3,s4,s5,s6,s7,s8,s9,t0,t1,t2,t3,t4,t5,t6,t7,t8,t9,u0,u1,u2,u3,u4,u5,u6,u7,u8,u9,v0,v1,v2,v3,v4,v5,v6,v7,v8,v9,w0,w1,w2,w3,w4] 0 = [a,b,.unk,.unk,.unk,f,g,.unk,i,.unk,.unk,.unk,.unk,.unk,.unk,.unk,.unk,.unk,s,.unk,.unk,.unk,.unk,.unk,.unk,.unk,.unk,.unk,.unk,.unk,.unk,.unk,.unk,.unk,.unk,.unk,.unk,.unk,.unk,.unk,.unk,.unk,.unk,.unk,b8,b9,c0,.unk,.unk,.unk,.unk,.unk,.unk,.unk,.unk,.unk,.unk,.unk,.unk,.unk,.unk,.unk,.unk,.unk,.unk,.unk,.unk,.unk,.unk,.unk,.unk,.unk,.unk,.unk,.unk,.unk,.unk,.unk,.unk,.unk,.unk,.unk,.unk,.unk,.unk,.unk,.unk,.unk,.unk,.unk,.unk,.unk,.unk,.unk,.unk,.unk,.unk,.unk,.unk,.unk,.unk,.unk,.unk,.unk,.unk,.unk,.unk,.unk,.unk,.unk,.unk,.unk,.unk,.unk,.unk,.unk,.unk,.unk,.unk,.unk,.unk,.unk,.unk,.unk,.unk,.unk,.unk,.unk,.unk,.unk,.unk,.unk,.unk,.unk,.unk,.unk,.unk,.unk,.unk,.unk,.unk,.unk,.unk,.unk,.unk,.unk,.unk,.unk,.unk,.unk,.unk,.unk,.unk,.unk,.unk,.unk,.unk,.unk,.unk,.unk,.unk,.unk,.unk,.unk,.unk,.unk,.unk,.unk,.unk,.unk,.unk,.unk,.unk,.unk,.unk,.unk,.unk,.unk,.unk,.unk,.unk,.unk,.unk,.unk,.unk,.unk,.unk,.unk,.unk,.unk,.unk,.unk,.unk,.unk,.unk,.unk,.unk,.unk,.unk,.unk,.unk,.unk,.unk,.unk,.unk,.unk,.unk,.unk,.unk,.unk,.unk,.unk,.unk,.unk,.unk,.unk,.unk,.unk,.unk,.unk,.unk,.unk,.unk,.unk,.unk,.unk,.unk,.unk,.unk,.unk,.unk,.unk,.unk,.unk,.unk,.unk,.unk,.unk,.unk,.unk,.unk,.unk,.unk,.unk,.unk,.unk,.unk,.unk,.unk,.unk,.unk] := rfl
/-- spence/spencelaw48.DiffTells -/
def bd3 : C :=
  (.seq (.reg [⟨some 4, none, .mv (.c (.d (.bool false))), .none⟩])
  (.seq (.seq (.reg [⟨some 21, none, .call 6 [] 2, .none⟩,
       ⟨some 22, none, .un .not (.s 21), .none⟩])
   (.cond (.s 22)
    (.seq (.reg [⟨some 4, none, .mv (.c (.d (.bool false))), .none⟩])
    (.ret none))
    .skip))
  (.seq (.seq (.reg [⟨some 23, none, .mv (.s 0), .none⟩,
       ⟨some 24, none, .call 7 [.s 23] 2, .none⟩,
       ⟨some 25, none, .un .not (.s 24), .none⟩,
       ⟨some 26, none, .mv (.s 25), .none⟩,
       ⟨some 27, some (26, false), .mv (.s 1), .none⟩,
       ⟨some 28, some (26, false), .call 7 [.s 27] 2, .none⟩,
       ⟨some 29, some (26, false), .un .not (.s 28), .none⟩,
       ⟨some 30, none, .pick (.s 26) (.c (.d (.bool true))) (.s 29), .none⟩,
       ⟨some 31, none, .mv (.s 30), .none⟩,
       ⟨some 32, some (31, false), .mv (.s 0), .none⟩,
       ⟨some 33, some (31, false), .call 8 [.s 32] 2, .none⟩,
       ⟨some 34, some (31, false), .un .not (.s 33), .none⟩,
       ⟨some 35, none, .pick (.s 31) (.c (.d (.bool true))) (.s 34), .none⟩,
       ⟨some 36, none, .mv (.s 35), .none⟩,
       ⟨some 37, some (36, false), .mv (.s 1), .none⟩,
       ⟨some 38, some (36, false), .call 8 [.s 37] 2, .none⟩,
       ⟨some 39, some (36, false), .un .not (.s 38), .none⟩,
       ⟨some 40, none, .pick (.s 36) (.c (.d (.bool true))) (.s 39), .none⟩])
   (.cond (.s 40)
    (.seq (.reg [⟨some 4, none, .mv (.c (.d (.bool true))), .none⟩])
    (.ret none))
    .skip))
  (.seq (.reg [⟨some 41, none, .mv (.s 0), .none⟩,
      ⟨some 42, none, .mv (.s 1), .none⟩,
      ⟨some 43, none, .call 9 [.s 41, .s 42] 2, .none⟩,
      ⟨some 5, none, .mv (.s 43), .none⟩])
  (.seq (.reg [⟨some 6, none, .mv (.c (.d (.int .i64 0))), .none⟩])
  (.seq (.seq (.reg [⟨some 44, none, .mv (.s 5), .none⟩,
       ⟨some 45, none, .len (.s 44), .none⟩,
       ⟨some 46, none, .mv (.c (.d (.int .i64 0))), .none⟩])
   (.block 0 (.loop [0, 1, 5, 6, 44, 45, 46] lp3_0)))
  (.seq (.reg [⟨some 242, none, .mv (.s 5), .none⟩,
      ⟨some 243, none, .call 13 [.s 242] 2, .none⟩,
      ⟨some 244, none, .mv (.s 6), .none⟩,
      ⟨some 245, none, .bin .eql (.s 243) (.s 244), .none⟩,
      ⟨some 246, none, .mv (.s 245), .none⟩,
      ⟨some 247, some (246, true), .mv (.s 5), .none⟩,
      ⟨some 248, some (246, true), .mv (.s 5), .none⟩,
      ⟨some 249, some (246, true), .call 14 [.s 247, .s 248] 2, .none⟩,
      ⟨some 250, none, .pick (.s 246) (.s 249) (.c (.d (.bool false))), .none⟩,
      ⟨some 4, none, .mv (.s 250), .none⟩])
  (.ret none))))))))
def ir3 : F := { n := 251, res := [.tmp 4], body := bd3 }
@[go_sem] theorem n3 : ir3.n = 251 := rfl
@[go_sem] theorem r3 : ir3.res = [.tmp 4] := rfl
@[go_sem] theorem b3 : ir3.body = bd3 := rfl
/-- spence/spencelaw48.DiffApplies -/
def bd4 : C :=
  (.seq (.reg [⟨some 4, none, .mv (.c (.d (.bool false))), .none⟩])
  (.seq (.seq (.reg [⟨some 8, none, .call 6 [] 2, .none⟩,
       ⟨some 9, none, .un .not (.s 8), .none⟩])
   (.cond (.s 9)
    (.seq (.reg [⟨some 4, none, .mv (.c (.d (.bool false))), .none⟩])
    (.ret none))
    .skip))
  (.seq (.seq (.reg [⟨some 10, none, .mv (.s 0), .none⟩,
       ⟨some 11, none, .call 7 [.s 10] 2, .none⟩,
       ⟨some 12, none, .un .not (.s 11), .none⟩,
       ⟨some 13, none, .mv (.s 12), .none⟩,
       ⟨some 14, some (13, false), .mv (.s 1), .none⟩,
       ⟨some 15, some (13, false), .call 7 [.s 14] 2, .none⟩,
       ⟨some 16, some (13, false), .un .not (.s 15), .none⟩,
       ⟨some 17, none, .pick (.s 13) (.c (.d (.bool true))) (.s 16), .none⟩])
   (.cond (.s 17)
    (.seq (.reg [⟨some 4, none, .mv (.c (.d (.bool true))), .none⟩])
    (.ret none))
    .skip))
  (.seq (.reg [⟨some 18, none, .mv (.s 0), .none⟩,
      ⟨some 19, none, .mv (.s 1), .none⟩,
      ⟨some 20, none, .call 9 [.s 18, .s 19] 2, .none⟩,
      ⟨some 5, none, .mv (.s 20), .none⟩])
  (.seq (.seq (.reg [⟨some 21, none, .mv (.s 0), .none⟩,
       ⟨some 22, none, .call 15 [.s 21] 2, .none⟩,
       ⟨some 23, none, .mv (.s 0), .none⟩,
       ⟨some 24, none, .call 8 [.s 23] 2, .none⟩,
       ⟨some 25, none, .beq true (.s 22) (.s 24), .none⟩])
   (.cond (.s 25)
    (.seq (.reg [⟨some 4, none, .mv (.c (.d (.bool false))), .none⟩])
    (.ret none))
    .skip))
  (.seq (.seq (.reg [⟨some 26, none, .mv (.s 0), .none⟩,
       ⟨some 27, none, .call 8 [.s 26] 2, .none⟩,
       ⟨some 28, none, .un .not (.s 27), .none⟩,
       ⟨some 29, none, .mv (.s 28), .none⟩,
       ⟨some 30, some (29, false), .mv (.s 1), .none⟩,
       ⟨some 31, some (29, false), .call 8 [.s 30] 2, .none⟩,
       ⟨some 32, some (29, false), .un .not (.s 31), .none⟩,
       ⟨some 33, none, .pick (.s 29) (.c (.d (.bool true))) (.s 32), .none⟩])
   (.cond (.s 33)
    (.seq (.reg [⟨some 34, none, .mv (.s 5), .none⟩,
        ⟨some 35, none, .len (.s 34), .none⟩,
        ⟨some 36, none, .bin .eql (.s 35) (.c (.d (.int .i64 0))), .none⟩,
        ⟨some 4, none, .mv (.s 36), .none⟩])
    (.ret none))
    .skip))
  (.seq (.reg [⟨some 38, none, .mv (.s 0), .none⟩,
      ⟨some 39, none, .mv (.s 5), .none⟩,
      ⟨some 40, none, .call 16 [.s 38, .s 39] 2, .none⟩,
      ⟨some 37, none, .mv (.s 40), .none⟩,
      ⟨some 41, none, .ext (.s 37) 0, .none⟩,
      ⟨some 42, none, .ext (.s 37) 1, .none⟩,
      ⟨some 6, none, .mv (.s 41), .none⟩,
      ⟨some 7, none, .mv (.s 42), .none⟩])
  (.seq (.reg [⟨some 43, none, .mv (.s 7), .none⟩,
      ⟨some 44, none, .bin .eql (.s 43) (.c (.d (.int .i64 0))), .none⟩,
      ⟨some 45, none, .mv (.s 44), .none⟩,
      ⟨some 46, some (45, true), .mv (.s 6), .none⟩,
      ⟨some 47, some (45, true), .mv (.s 1), .none⟩,
      ⟨some 48, some (45, true), .call 17 [.s 46, .s 47] 2, .none⟩,
      ⟨some 49, none, .pick (.s 45) (.s 48) (.c (.d (.bool false))), .none⟩,
      ⟨some 50, none, .mv (.s 49), .none⟩,
      ⟨some 51, some (50, true), .mv (.s 5), .none⟩,
      ⟨some 52, some (50, true), .len (.s 51), .none⟩,
      ⟨some 53, some (50, true), .bin .eql (.s 52) (.c (.d (.int .i64 0))), .none⟩,
      ⟨some 54, some (50, true), .mv (.s 0), .none⟩,
      ⟨some 55, some (50, true), .mv (.s 1), .none⟩,
      ⟨some 56, some (50, true), .call 17 [.s 54, .s 55] 2, .none⟩,
      ⟨some 57, some (50, true), .beq false (.s 53) (.s 56), .none⟩,
      ⟨some 58, none, .pick (.s 50) (.s 57) (.c (.d (.bool false))), .none⟩,
      ⟨some 4, none, .mv (.s 58), .none⟩])
  (.ret none)))))))))
def ir4 : F := { n := 59, res := [.tmp 4], body := bd4 }
@[go_sem] theorem n4 : ir4.n = 59 := rfl
@[go_sem] theorem r4 : ir4.res = [.tmp 4] := rfl
@[go_sem] theorem b4 : ir4.body = bd4 := rfl
/-- spence/spencelaw48.DiffOdd -/
def bd5 : C :=
  (.seq (.reg [⟨some 6, none, .mv (.c (.d (.bool false))), .none⟩])
  (.seq (.seq (.reg [⟨some 17, none, .call 6 [] 2, .none⟩,
       ⟨some 18, none, .un .not (.s 17), .none⟩])
   (.cond (.s 18)
    (.seq (.reg [⟨some 6, none, .mv (.c (.d (.bool false))), .none⟩])
    (.ret none))
    .skip))
  (.seq (.seq (.reg [⟨some 19, none, .mv (.s 0), .none⟩,
       ⟨some 20, none, .call 7 [.s 19] 2, .none⟩,
       ⟨some 21, none, .un .not (.s 20), .none⟩])
   (.cond (.s 21)
    (.seq (.reg [⟨some 6, none, .mv (.c (.d (.bool true))), .none⟩])
    (.ret none))
    .skip))
  (.seq (.reg [⟨some 23, none, .mv (.s 0), .none⟩,
      ⟨some 24, none, .mv (.s 1), .none⟩,
      ⟨some 25, none, .build [.int .i64 0, .bool false, .bool false, .int .i64 0, .int .i64 0, .str [], .int .i64 0, .int .i64 0, .nils, .nils] [(0, (1, .s 24)), (2, (1, .c (.d (.bool true))))], .cells [(8, 4, false), (9, 1, false)]⟩,
      ⟨some 26, none, .bsl 32 10 1 [.int .i64 0, .bool false, .bool false, .int .i64 0, .int .i64 0, .str [], .int .i64 0, .int .i64 0, .nils, .nils] [(0, (10, .s 25))], .none⟩,
      ⟨some 27, none, .call 16 [.s 23, .s 26] 0, .none⟩,
      ⟨some 22, none, .mv (.s 27), .none⟩,
      ⟨some 28, none, .ext (.s 22) 0, .none⟩,
      ⟨some 29, none, .ext (.s 22) 1, .none⟩,
      ⟨some 7, none, .mv (.s 28), .none⟩,
      ⟨some 8, none, .mv (.s 29), .none⟩])
  (.seq (.reg [⟨some 31, none, .mv (.s 0), .none⟩,
      ⟨some 32, none, .mv (.s 1), .none⟩,
      ⟨some 33, none, .mv (.s 2), .none⟩,
      ⟨some 34, none, .bsl 3 1 1 [.int .i64 0] [(0, (1, .s 33))], .none⟩,
      ⟨some 35, none, .build [.int .i64 0, .bool false, .bool false, .int .i64 0, .int .i64 0, .str [], .int .i64 0, .int .i64 0, .nils, .nils] [(0, (1, .s 32)), (9, (1, .s 34))], .cells [(8, 4, false), (9, 1, false)]⟩,
      ⟨some 36, none, .bsl 32 10 1 [.int .i64 0, .bool false, .bool false, .int .i64 0, .int .i64 0, .str [], .int .i64 0, .int .i64 0, .nils, .nils] [(0, (10, .s 35))], .none⟩,
      ⟨some 37, none, .call 16 [.s 31, .s 36] 0, .none⟩,
      ⟨some 30, none, .mv (.s 37), .none⟩,
      ⟨some 38, none, .ext (.s 30) 0, .none⟩,
      ⟨some 39, none, .ext (.s 30) 1, .none⟩,
      ⟨some 9, none, .mv (.s 38), .none⟩,
      ⟨some 10, none, .mv (.s 39), .none⟩])
  (.seq (.reg [⟨some 41, none, .mv (.s 0), .none⟩,
      ⟨some 42, none, .mv (.s 1), .none⟩,
      ⟨some 43, none, .build [.int .i64 0, .bool false, .bool false, .int .i64 0, .int .i64 0, .str [], .int .i64 0, .int .i64 0, .nils, .nils] [(0, (1, .s 42))], .cells [(8, 4, false), (9, 1, false)]⟩,
      ⟨some 44, none, .mv (.s 1), .none⟩,
      ⟨some 45, none, .build [.int .i64 0, .bool false, .bool false, .int .i64 0, .int .i64 0, .str [], .int .i64 0, .int .i64 0, .nils, .nils] [(0, (1, .s 44))], .cells [(8, 4, false), (9, 1, false)]⟩,
      ⟨some 46, none, .bsl 32 10 2 [.int .i64 0, .bool false, .bool false, .int .i64 0, .int .i64 0, .str [], .int .i64 0, .int .i64 0, .nils, .nils] [(0, (10, .s 43)), (10, (10, .s 45))], .none⟩,
      ⟨some 47, none, .call 16 [.s 41, .s 46] 0, .none⟩,
      ⟨some 40, none, .mv (.s 47), .none⟩,
      ⟨some 48, none, .ext (.s 40) 0, .none⟩,
      ⟨some 49, none, .ext (.s 40) 1, .none⟩,
      ⟨some 11, none, .mv (.s 48), .none⟩,
      ⟨some 12, none, .mv (.s 49), .none⟩])
  (.seq (.seq (.reg [⟨some 50, none, .mv (.s 0), .none⟩,
       ⟨some 51, none, .call 8 [.s 50] 2, .none⟩,
       ⟨some 52, none, .un .not (.s 51), .none⟩])
   (.cond (.s 52)
    (.seq (.reg [⟨some 53, none, .mv (.s 8), .none⟩,
        ⟨some 54, none, .bin .eql (.s 53) (.c (.d (.int .i64 1))), .none⟩,
        ⟨some 55, none, .mv (.s 54), .none⟩,
        ⟨some 56, some (55, true), .mv (.s 10), .none⟩,
        ⟨some 57, some (55, true), .bin .eql (.s 56) (.c (.d (.int .i64 1))), .none⟩,
        ⟨some 58, none, .pick (.s 55) (.s 57) (.c (.d (.bool false))), .none⟩,
        ⟨some 59, none, .mv (.s 58), .none⟩,
        ⟨some 60, some (59, true), .mv (.s 12), .none⟩,
        ⟨some 61, some (59, true), .bin .eql (.s 60) (.c (.d (.int .i64 1))), .none⟩,
        ⟨some 62, none, .pick (.s 59) (.s 61) (.c (.d (.bool false))), .none⟩,
        ⟨some 63, none, .mv (.s 62), .none⟩,
        ⟨some 64, some (63, true), .mv (.s 7), .none⟩,
        ⟨some 65, some (63, true), .len (.s 64), .none⟩,
        ⟨some 66, some (63, true), .bin .eql (.s 65) (.c (.d (.int .i64 0))), .none⟩,
        ⟨some 67, none, .pick (.s 63) (.s 66) (.c (.d (.bool false))), .none⟩,
        ⟨some 6, none, .mv (.s 67), .none⟩])
    (.ret none))
    .skip))
  (.seq (.reg [⟨some 69, none, .mv (.s 0), .none⟩,
      ⟨some 70, none, .mv (.s 1), .none⟩,
      ⟨some 71, none, .call 10 [.s 69, .s 70] 0, .none⟩,
      ⟨some 68, none, .mv (.s 71), .none⟩,
      ⟨some 72, none, .ext (.s 68) 0, .none⟩,
      ⟨some 73, none, .ext (.s 68) 1, .none⟩,
      ⟨some 13, none, .alloc 34 [.int .i64 0, .int .i64 0, .str [], .int .i64 0, .int .i64 0, .nils], .cells [(5, 4, false)]⟩,
      ⟨none, none, .st (.s 13) (.s 72) 6, .none⟩,
      ⟨some 14, none, .mv (.s 73), .none⟩])
  (.seq (.seq (.reg [⟨some 74, none, .mv (.s 12), .none⟩,
       ⟨some 75, none, .bin .neq (.s 74) (.c (.d (.int .i64 1))), .none⟩,
       ⟨some 76, none, .mv (.s 75), .none⟩,
       ⟨some 77, some (76, false), .mv (.s 14), .none⟩,
       ⟨some 78, some (76, false), .mv (.s 8), .none⟩,
       ⟨some 79, some (76, false), .bin .eql (.s 78) (.c (.d (.int .i64 0))), .none⟩,
       ⟨some 80, some (76, false), .beq true (.s 77) (.s 79), .none⟩,
       ⟨some 81, none, .pick (.s 76) (.c (.d (.bool true))) (.s 80), .none⟩,
       ⟨some 82, none, .mv (.s 81), .none⟩,
       ⟨some 83, some (82, false), .mv (.s 14), .none⟩,
       ⟨some 84, some (82, false), .un .not (.s 83), .none⟩,
       ⟨some 85, some (82, false), .mv (.s 84), .none⟩,
       ⟨some 86, some (85, true), .mv (.s 8), .none⟩,
       ⟨some 87, some (85, true), .bin .neq (.s 86) (.c (.d (.int .i64 8))), .none⟩,
       ⟨some 88, some (85, true), .mv (.s 87), .none⟩,
       ⟨some 89, some (88, false), .mv (.s 10), .none⟩,
       ⟨some 90, some (88, false), .bin .neq (.s 89) (.c (.d (.int .i64 8))), .none⟩,
       ⟨some 91, some (85, true), .pick (.s 88) (.c (.d (.bool true))) (.s 90), .none⟩,
       ⟨some 92, some (82, false), .pick (.s 85) (.s 91) (.c (.d (.bool false))), .none⟩,
       ⟨some 93, none, .pick (.s 82) (.c (.d (.bool true))) (.s 92), .none⟩])
   (.cond (.s 93)
    (.seq (.reg [⟨some 6, none, .mv (.c (.d (.bool false))), .none⟩])
    (.ret none))
    .skip))
  (.seq (.seq (.reg [⟨some 94, none, .mv (.s 14), .none⟩,
       ⟨some 95, none, .un .not (.s 94), .none⟩])
   (.cond (.s 95)
    (.seq (.reg [⟨some 6, none, .mv (.c (.d (.bool true))), .none⟩])
    (.ret none))
    .skip))
  (.seq (.reg [⟨some 97, none, .mv (.s 7), .none⟩,
      ⟨some 98, none, .mv (.s 1), .none⟩,
      ⟨some 99, none, .call 10 [.s 97, .s 98] 0, .none⟩,
      ⟨some 96, none, .mv (.s 99), .none⟩,
      ⟨some 100, none, .ext (.s 96) 0, .none⟩,
      ⟨some 101, none, .ext (.s 96) 1, .none⟩,
      ⟨some 15, none, .alloc 34 [.int .i64 0, .int .i64 0, .str [], .int .i64 0, .int .i64 0, .nils], .cells [(5, 4, false)]⟩,
      ⟨none, none, .st (.s 15) (.s 100) 6, .none⟩,
      ⟨some 16, none, .mv (.s 101), .none⟩])
  (.seq (.reg [⟨some 102, none, .mv (.s 16), .none⟩,
      ⟨some 103, none, .un .not (.s 102), .none⟩,
      ⟨some 104, none, .mv (.s 103), .none⟩,
      ⟨some 105, some (104, true), .mv (.s 7), .none⟩,
      ⟨some 106, some (104, true), .len (.s 105), .none⟩,
      ⟨some 107, some (104, true), .mv (.s 0), .none⟩,
      ⟨some 108, some (104, true), .len (.s 107), .none⟩,
      ⟨some 109, some (104, true), .bin .sub (.s 108) (.c (.d (.int .i64 1))), .none⟩,
      ⟨some 110, some (104, true), .bin .eql (.s 106) (.s 109), .none⟩,
      ⟨some 111, none, .pick (.s 104) (.s 110) (.c (.d (.bool false))), .none⟩,
      ⟨some 112, none, .mv (.s 111), .none⟩,
      ⟨some 113, some (112, true), .mv (.s 10), .none⟩,
      ⟨some 114, some (112, true), .bin .eql (.s 113) (.c (.d (.int .i64 0))), .none⟩,
      ⟨some 115, some (112, true), .fa (.s 13) 5, .none⟩,
      ⟨some 116, some (112, true), .ld (.s 115) 1 false, .none⟩,
      ⟨some 117, some (112, true), .mv (.s 2), .none⟩,
      ⟨some 118, some (112, true), .call 12 [.s 116, .s 117] 2, .none⟩,
      ⟨some 119, some (112, true), .beq false (.s 114) (.s 118), .none⟩,
      ⟨some 120, none, .pick (.s 112) (.s 119) (.c (.d (.bool false))), .none⟩,
      ⟨some 121, none, .mv (.s 120), .none⟩,
      ⟨some 122, some (121, true), .mv (.s 10), .none⟩,
      ⟨some 123, some (121, true), .bin .eql (.s 122) (.c (.d (.int .i64 0))), .none⟩,
      ⟨some 124, some (121, true), .mv (.s 123), .none⟩,
      ⟨some 125, some (124, false), .mv (.s 10), .none⟩,
      ⟨some 126, some (124, false), .bin .eql (.s 125) (.c (.d (.int .i64 8))), .none⟩,
      ⟨some 127, some (121, true), .pick (.s 124) (.c (.d (.bool true))) (.s 126), .none⟩,
      ⟨some 128, none, .pick (.s 121) (.s 127) (.c (.d (.bool false))), .none⟩,
      ⟨some 6, none, .mv (.s 128), .none⟩])
  (.ret none)))))))))))))
def ir5 : F := { n := 129, res := [.tmp 6], body := bd5 }
@[go_sem] theorem n5 : ir5.n = 129 := rfl
@[go_sem] theorem r5 : ir5.res = [.tmp 6] := rfl
@[go_sem] theorem b5 : ir5.body = bd5 := rfl
/-- spence/spencelaw48.awake -/
def bd6 : C :=
  (.seq (.reg [⟨some 0, none, .mv (.c (.d (.bool false))), .none⟩])
  (.seq (.reg [⟨some 3, none, .build [.int .i64 0, .int .i64 0, .str [], .int .i64 0, .int .i64 0] [(0, (1, .c (.d (.int .i64 1)))), (1, (1, .c (.d (.int .i64 2))))], .none⟩,
      ⟨some 4, none, .build [.int .i64 0, .int .i64 0, .str [], .int .i64 0, .int .i64 0, .nils] [(0, (5, .s 3))], .cells [(5, 4, false)]⟩,
      ⟨some 5, none, .bsl 34 6 1 [.int .i64 0, .int .i64 0, .str [], .int .i64 0, .int .i64 0, .nils] [(0, (6, .s 4))], .none⟩,
      ⟨some 1, none, .mv (.s 5), .none⟩])
  (.seq (.reg [⟨some 6, none, .mv (.s 1), .none⟩,
      ⟨some 7, none, .call 9 [.c (.d .nils), .s 6] 0, .none⟩,
      ⟨some 2, none, .mv (.s 7), .none⟩])
  (.seq (.reg [⟨some 8, none, .mv (.s 2), .none⟩,
      ⟨some 9, none, .len (.s 8), .none⟩,
      ⟨some 10, none, .bin .eql (.s 9) (.c (.d (.int .i64 1))), .none⟩,
      ⟨some 11, none, .mv (.s 10), .none⟩,
      ⟨some 12, some (11, true), .mv (.s 2), .none⟩,
      ⟨some 13, some (11, true), .is (.s 12) (.c (.d (.int .i64 0))) 10, .none⟩,
      ⟨some 14, some (11, true), .fa (.s 13) 1, .none⟩,
      ⟨some 15, some (11, true), .ld (.s 14) 1 false, .none⟩,
      ⟨some 16, none, .pick (.s 11) (.s 15) (.c (.d (.bool false))), .none⟩,
      ⟨some 17, none, .mv (.s 16), .none⟩,
      ⟨some 18, some (17, true), .mv (.s 2), .none⟩,
      ⟨some 19, some (17, true), .is (.s 18) (.c (.d (.int .i64 0))) 10, .none⟩,
      ⟨some 20, some (17, true), .fa (.s 19) 0, .none⟩,
      ⟨some 21, some (17, true), .ld (.s 20) 1 false, .none⟩,
      ⟨some 22, some (17, true), .bin .eql (.s 21) (.c (.d (.int .i64 1))), .none⟩,
      ⟨some 23, none, .pick (.s 17) (.s 22) (.c (.d (.bool false))), .none⟩,
      ⟨some 24, none, .mv (.s 23), .none⟩,
      ⟨some 25, some (24, true), .mv (.s 1), .none⟩,
      ⟨some 26, some (24, true), .mv (.s 1), .none⟩,
      ⟨some 27, some (24, true), .call 9 [.s 25, .s 26] 0, .none⟩,
      ⟨some 28, some (24, true), .len (.s 27), .none⟩,
      ⟨some 29, some (24, true), .bin .eql (.s 28) (.c (.d (.int .i64 0))), .none⟩,
      ⟨some 30, none, .pick (.s 24) (.s 29) (.c (.d (.bool false))), .none⟩,
      ⟨some 0, none, .mv (.s 30), .none⟩])
  (.ret none)))))
def ir6 : F := { n := 31, res := [.tmp 0], body := bd6 }
@[go_sem] theorem n6 : ir6.n = 31 := rfl
@[go_sem] theorem r6 : ir6.res = [.tmp 0] := rfl
@[go_sem] theorem b6 : ir6.body = bd6 := rfl
def lb7_1 : C :=
  (.seq (.reg [⟨some 28, none, .bin .lss (.s 27) (.s 26), .none⟩])
  (.seq (.cond (.s 28)
    .skip
    (.exit 2 (some [0, 7, 8, 9])))
  (.seq (.block 3 (.seq (.reg [⟨some 29, none, .is (.s 25) (.s 27) 4, .none⟩,
        ⟨some 30, none, .ld (.s 29) 4 true, .none⟩,
        ⟨some 6, none, .alloc 39 [.int .i64 0, .int .i64 0, .int .i64 0, .nils], .cells [(3, 1, false)]⟩,
        ⟨none, none, .st (.s 6) (.s 30) 4, .none⟩])
    (.seq (.reg [⟨some 31, none, .fa (.s 6) 3, .none⟩,
        ⟨some 32, none, .ld (.s 31) 1 false, .none⟩,
        ⟨some 33, none, .len (.s 32), .none⟩,
        ⟨some 34, none, .bin .gtr (.s 33) (.c (.d (.int .i64 100))), .none⟩])
    (.cond (.s 34)
     (.seq (.reg [⟨some 2, none, .mv (.c (.d (.bool false))), .none⟩])
     (.ret (some [2])))
     .skip))))
  (.reg [⟨some 35, none, .bin .add (.s 27) (.c (.d (.int .i64 1))), .none⟩,
     ⟨some 27, none, .mv (.s 35), .none⟩]))))
def lp7_1 : C := lb7_1
theorem u7_1 (c : Ev.Callee) (l : Ev.Looper) (s : St) : evC c l lp7_1 s = evC c l lb7_1 s := rfl
abbrev st7_1 (m : Nat) (s0 s7 s8 s9 s25 s26 s27 : AV) (h : Heap) : St := ⟨m,[s0,.unk,.unk,.unk,.unk,.unk,.unk,s7,s8,s9,.unk,.unk,.unk,.unk,.unk,.unk,.unk,.unk,.unk,.unk,.unk,.unk,.unk,.unk,.unk,s25,s26,s27,.unk,.unk,.unk,.unk,.unk,.unk,.unk,.unk,.unk,.unk,.unk,.unk],h⟩
def lb7_0 : C :=
  (.seq (.reg [⟨some 10, none, .bin .lss (.s 9) (.s 8), .none⟩])
  (.seq (.cond (.s 10)
    .skip
    (.exit 0 (some [0])))
  (.seq (.block 1 (.seq (.reg [⟨some 11, none, .is (.s 7) (.s 9) 6, .none⟩,
        ⟨some 12, none, .ld (.s 11) 6 true, .none⟩,
        ⟨some 4, none, .alloc 34 [.int .i64 0, .int .i64 0, .str [], .int .i64 0, .int .i64 0, .nils], .cells [(5, 4, false)]⟩,
        ⟨none, none, .st (.s 4) (.s 12) 6, .none⟩])
    (.seq (.seq (.reg [⟨some 13, none, .fa (.s 4) 5, .none⟩,
         ⟨some 14, none, .ld (.s 13) 1 false, .none⟩,
         ⟨some 15, none, .len (.s 14), .none⟩,
         ⟨some 16, none, .bin .gtr (.s 15) (.c (.d (.int .i64 20))), .none⟩,
         ⟨some 17, none, .mv (.s 16), .none⟩,
         ⟨some 18, some (17, false), .fa (.s 4) 0, .none⟩,
         ⟨some 19, some (17, false), .fa (.s 18) 2, .none⟩,
         ⟨some 20, some (17, false), .ld (.s 19) 1 false, .none⟩,
         ⟨some 21, some (17, false), .lens (.s 20), .none⟩,
         ⟨some 22, some (17, false), .bin .gtr (.s 21) (.c (.d (.int .i64 100))), .none⟩,
         ⟨some 23, none, .pick (.s 17) (.c (.d (.bool true))) (.s 22), .none⟩])
     (.cond (.s 23)
      (.seq (.reg [⟨some 2, none, .mv (.c (.d (.bool false))), .none⟩])
      (.ret (some [2])))
      .skip))
    (.seq (.reg [⟨some 24, none, .fa (.s 4) 5, .none⟩,
        ⟨some 25, none, .ld (.s 24) 1 false, .none⟩,
        ⟨some 26, none, .len (.s 25), .none⟩,
        ⟨some 27, none, .mv (.c (.d (.int .i64 0))), .none⟩])
    (.block 2 (.loop [0, 7, 8, 9, 25, 26, 27] lp7_1))))))
  (.reg [⟨some 36, none, .bin .add (.s 9) (.c (.d (.int .i64 1))), .none⟩,
     ⟨some 9, none, .mv (.s 36), .none⟩]))))
def lp7_0 : C := lb7_0
theorem u7_0 (c : Ev.Callee) (l : Ev.Looper) (s : St) : evC c l lp7_0 s = evC c l lb7_0 s := rfl
abbrev st7_0 (m : Nat) (s0 s7 s8 s9 : AV) (h : Heap) : St := ⟨m,[s0,.unk,.unk,.unk,.unk,.unk,.unk,s7,s8,s9,.unk,.unk,.unk,.unk,.unk,.unk,.unk,.unk,.unk,.unk,.unk,.unk,.unk,.unk,.unk,.unk,.unk,.unk,.unk,.unk,.unk,.unk,.unk,.unk,.unk,.unk,.unk,.unk,.unk,.unk],h⟩
@[go_sem] theorem ks7_0 (a b c d e f g h i j k l m n o p q r s t u v w x y z a0 a1 a2 a3 a4 a5 a6 a7 a8 a9 b0 b1 b2 b3 : AV) : keepS [0,7,8,9] [a,b,c,d,e,f,g,h,i,j,k,l,m,n,o,p,q,r,s,t,u,v,w,x,y,z,a0,a1,a2,a3,a4,a5,a6,a7,a8,a9,b0,b1,b2,b3] 0 = [a,.unk,.unk,.unk,.unk,.unk,.unk,h,i,j,.unk,.unk,.unk,.unk,.unk,.unk,.unk,.unk,.unk,.unk,.unk,.unk,.unk,.unk,.unk,.unk,.unk,.unk,.unk,.unk,.unk,.unk,.unk,.unk,.unk,.unk,.unk,.unk,.unk,.unk] := rfl
@[go_sem] theorem ks7_1 (a b c d e f g h i j k l m n o p q r s t u v w x y z a0 a1 a2 a3 a4 a5 a6 a7 a8 a9 b0 b1 b2 b3 : AV) : keepS [0] [a,b,c,d,e,f,g,h,i,j,k,l,m,n,o,p,q,r,s,t,u,v,w,x,y,z,a0,a1,a2,a3,a4,a5,a6,a7,a8,a9,b0,b1,b2,b3] 0 = [a,.unk,.unk,.unk,.unk,.unk,.unk,.unk,.unk,.unk,.unk,.unk,.unk,.unk,.unk,.unk,.unk,.unk,.unk,.unk,.unk,.unk,.unk,.unk,.unk,.unk,.unk,.unk,.unk,.unk,.unk,.unk,.unk,.unk,.unk,.unk,.unk,.unk,.unk,.unk] := rfl
@[go_sem] theorem ks7_2 (a b c d e f g h i j k l m n o p q r s t u v w x y z a0 a1 a2 a3 a4 a5 a6 a7 a8 a9 b0 b1 b2 b3 : AV) : keepS [2] [a,b,c,d,e,f,g,h,i,j,k,l,m,n,o,p,q,r,s,t,u,v,w,x,y,z,a0,a1,a2,a3,a4,a5,a6,a7,a8,a9,b0,b1,b2,b3] 0 = [.unk,.unk,c,.unk,.unk,.unk,.unk,.unk,.unk,.unk,.unk,.unk,.unk,.unk,.unk,.unk,.unk,.unk,.unk,.unk,.unk,.unk,.unk,.unk,.unk,.unk,.unk,.unk,.unk,.unk,.unk,.unk,.unk,.unk,.unk,.unk,.unk,.unk,.unk,.unk] := rfl
@[go_sem] theorem ks7_3 (a b c d e f g h i j k l m n o p q r s t u v w x y z a0 a1 a2 a3 a4 a5 a6 a7 a8 a9 b0 b1 b2 b3 : AV) : keepS [0,7,8,9,25,26,27] [a,b,c,d,e,f,g,h,i,j,k,l,m,n,o,p,q,r,s,t,u,v,w,x,y,z,a0,a1,a2,a3,a4,a5,a6,a7,a8,a9,b0,b1,b2,b3] 0 = [a,.unk,.unk,.unk,.unk,.unk,.unk,h,i,j,.unk,.unk,.unk,.unk,.unk,.unk,.unk,.unk,.unk,.unk,.unk,.unk,.unk,.unk,.unk,z,a0,a1,.unk,.unk,.unk,.unk,.unk,.unk,.unk,.unk,.unk,.unk,.unk,.unk] := rfl
/-- spence/spencelaw48.Few -/
def bd7 : C :=
  (.seq (.reg [⟨some 2, none, .mv (.c (.d (.bool false))), .none⟩])
  (.seq (.seq (.reg [⟨some 7, none, .mv (.s 0), .none⟩,
       ⟨some 8, none, .len (.s 7), .none⟩,
       ⟨some 9, none, .mv (.c (.d (.int .i64 0))), .none⟩])
   (.block 0 (.loop [0, 7, 8, 9] lp7_0)))
  (.seq (.reg [⟨some 37, none, .mv (.s 0), .none⟩,
      ⟨some 38, none, .len (.s 37), .none⟩,
      ⟨some 39, none, .bin .leq (.s 38) (.c (.d (.int .i64 20))), .none⟩,
      ⟨some 2, none, .mv (.s 39), .none⟩])
  (.ret none))))
def ir7 : F := { n := 40, res := [.tmp 2], body := bd7 }
@[go_sem] theorem n7 : ir7.n = 40 := rfl
@[go_sem] theorem r7 : ir7.res = [.tmp 2] := rfl
@[go_sem] theorem b7 : ir7.body = bd7 := rfl
def lb8_1 : C :=
  (.seq (.reg [⟨some 33, none, .bin .lss (.s 32) (.s 31), .none⟩])
  (.seq (.cond (.s 33)
    .skip
    (.exit 2 (some [0, 7, 8, 9])))
  (.seq (.block 3 (.seq (.reg [⟨some 34, none, .mv (.s 32), .none⟩,
        ⟨some 35, none, .is (.s 30) (.s 32) 4, .none⟩,
        ⟨some 36, none, .ld (.s 35) 4 true, .none⟩,
        ⟨some 6, none, .alloc 39 [.int .i64 0, .int .i64 0, .int .i64 0, .nils], .cells [(3, 1, false)]⟩,
        ⟨some 5, none, .mv (.s 34), .none⟩,
        ⟨none, none, .st (.s 6) (.s 36) 4, .none⟩])
    (.seq (.drw [⟨some 37, none, .fa (.s 6) 0, .none⟩,
        ⟨some 38, none, .ld (.s 37) 1 false, .none⟩,
        ⟨some 39, none, .fa (.s 4) 0, .none⟩,
        ⟨some 40, none, .fa (.s 39) 0, .none⟩,
        ⟨some 41, none, .ld (.s 40) 1 false, .none⟩,
        ⟨some 42, none, .bin .neq (.s 38) (.s 41), .none⟩,
        ⟨some 43, none, .mv (.s 42), .none⟩,
        ⟨some 44, some (43, false), .fa (.s 6) 1, .none⟩,
        ⟨some 45, some (43, false), .ld (.s 44) 1 false, .none⟩,
        ⟨some 46, some (43, false), .fa (.s 4) 0, .none⟩,
        ⟨some 47, some (43, false), .fa (.s 46) 1, .none⟩,
        ⟨some 48, some (43, false), .ld (.s 47) 1 false, .none⟩,
        ⟨some 49, some (43, false), .bin .neq (.s 45) (.s 48), .none⟩,
        ⟨some 50, none, .pick (.s 43) (.c (.d (.bool true))) (.s 49), .none⟩,
        ⟨some 51, none, .mv (.s 50), .none⟩,
        ⟨some 52, some (51, false), .mv (.s 5), .none⟩,
        ⟨some 53, some (51, false), .bin .gtr (.s 52) (.c (.d (.int .i64 0))), .none⟩,
        ⟨some 54, some (51, false), .mv (.s 53), .none⟩,
        ⟨some 55, some (54, true), .fa (.s 4) 5, .none⟩,
        ⟨some 56, some (54, true), .ld (.s 55) 1 false, .none⟩,
        ⟨some 57, some (54, true), .mv (.s 5), .none⟩,
        ⟨some 58, some (54, true), .bin .sub (.s 57) (.c (.d (.int .i64 1))), .none⟩,
        ⟨some 59, some (54, true), .is (.s 56) (.s 58) 4, .none⟩,
        ⟨some 60, some (54, true), .fa (.s 59) 2, .none⟩,
        ⟨some 61, some (54, true), .ld (.s 60) 1 false, .none⟩,
        ⟨some 62, some (54, true), .fa (.s 6) 2, .none⟩,
        ⟨some 63, some (54, true), .ld (.s 62) 1 false, .none⟩,
        ⟨some 64, some (54, true), .bin .geq (.s 61) (.s 63), .none⟩,
        ⟨some 65, some (51, false), .pick (.s 54) (.s 64) (.c (.d (.bool false))), .none⟩,
        ⟨some 66, none, .pick (.s 51) (.c (.d (.bool true))) (.s 65), .none⟩]
       [[], [0], [], [2], [3], [1, 4], [5], [6], [7, 6], [6], [9, 6], [10, 6], [8, 11, 6], [6, 12], [13, 6], [14], [15, 14], [16, 14, 14], [17], [18, 17], [17], [20, 17], [19, 21, 17], [22, 17], [23, 17], [17], [25, 17], [24, 26, 17], [17, 27, 14], [14, 28]] [])
    (.cond (.s 66)
     (.seq (.reg [⟨some 2, none, .mv (.c (.d (.bool false))), .none⟩])
     (.ret (some [2])))
     .skip))))
  (.reg [⟨some 67, none, .bin .add (.s 32) (.c (.d (.int .i64 1))), .none⟩,
     ⟨some 32, none, .mv (.s 67), .none⟩]))))
def lp8_1 : C := lb8_1
theorem u8_1 (c : Ev.Callee) (l : Ev.Looper) (s : St) : evC c l lp8_1 s = evC c l lb8_1 s := rfl
abbrev st8_1 (m : Nat) (s0 s4 s7 s8 s9 s30 s31 s32 : AV) (h : Heap) : St := ⟨m,[s0,.unk,.unk,.unk,s4,.unk,.unk,s7,s8,s9,.unk,.unk,.unk,.unk,.unk,.unk,.unk,.unk,.unk,.unk,.unk,.unk,.unk,.unk,.unk,.unk,.unk,.unk,.unk,.unk,s30,s31,s32,.unk,.unk,.unk,.unk,.unk,.unk,.unk,.unk,.unk,.unk,.unk,.unk,.unk,.unk,.unk,.unk,.unk,.unk,.unk,.unk,.unk,.unk,.unk,.unk,.unk,.unk,.unk,.unk,.unk,.unk,.unk,.unk,.unk,.unk,.unk,.unk],h⟩
def lb8_0 : C :=
  (.seq (.reg [⟨some 10, none, .bin .lss (.s 9) (.s 8), .none⟩])
  (.seq (.cond (.s 10)
    .skip
    (.exit 0 (some [])))
  (.seq (.block 1 (.seq (.reg [⟨some 11, none, .mv (.s 9), .none⟩,
        ⟨some 12, none, .is (.s 7) (.s 9) 6, .none⟩,
        ⟨some 13, none, .ld (.s 12) 6 true, .none⟩,
        ⟨some 4, none, .alloc 34 [.int .i64 0, .int .i64 0, .str [], .int .i64 0, .int .i64 0, .nils], .cells [(5, 4, false)]⟩,
        ⟨some 3, none, .mv (.s 11), .none⟩,
        ⟨none, none, .st (.s 4) (.s 13) 6, .none⟩])
    (.seq (.seq (.drw [⟨some 14, none, .mv (.s 3), .none⟩,
         ⟨some 15, none, .bin .gtr (.s 14) (.c (.d (.int .i64 0))), .none⟩,
         ⟨some 16, none, .mv (.s 15), .none⟩,
         ⟨some 17, some (16, true), .mv (.s 0), .none⟩,
         ⟨some 18, some (16, true), .mv (.s 3), .none⟩,
         ⟨some 19, some (16, true), .bin .sub (.s 18) (.c (.d (.int .i64 1))), .none⟩,
         ⟨some 20, some (16, true), .is (.s 17) (.s 19) 6, .none⟩,
         ⟨some 21, some (16, true), .fa (.s 20) 0, .none⟩,
         ⟨some 22, some (16, true), .fa (.s 21) 0, .none⟩,
         ⟨some 23, some (16, true), .ld (.s 22) 1 false, .none⟩,
         ⟨some 24, some (16, true), .fa (.s 4) 0, .none⟩,
         ⟨some 25, some (16, true), .fa (.s 24) 0, .none⟩,
         ⟨some 26, some (16, true), .ld (.s 25) 1 false, .none⟩,
         ⟨some 27, some (16, true), .bin .geq (.s 23) (.s 26), .none⟩,
         ⟨some 28, none, .pick (.s 16) (.s 27) (.c (.d (.bool false))), .none⟩]
        [[], [0], [1], [2], [2], [4, 2], [3, 5, 2], [6, 2], [7, 2], [8, 2], [2], [10, 2], [11, 2], [9, 12, 2], [2, 13]] [])
     (.cond (.s 28)
      (.seq (.reg [⟨some 2, none, .mv (.c (.d (.bool false))), .none⟩])
      (.ret (some [2])))
      .skip))
    (.seq (.reg [⟨some 29, none, .fa (.s 4) 5, .none⟩,
        ⟨some 30, none, .ld (.s 29) 1 false, .none⟩,
        ⟨some 31, none, .len (.s 30), .none⟩,
        ⟨some 32, none, .mv (.c (.d (.int .i64 0))), .none⟩])
    (.block 2 (.loop [0, 4, 7, 8, 9, 30, 31, 32] lp8_1))))))
  (.reg [⟨some 68, none, .bin .add (.s 9) (.c (.d (.int .i64 1))), .none⟩,
     ⟨some 9, none, .mv (.s 68), .none⟩]))))
def lp8_0 : C := lb8_0
theorem u8_0 (c : Ev.Callee) (l : Ev.Looper) (s : St) : evC c l lp8_0 s = evC c l lb8_0 s := rfl
abbrev st8_0 (m : Nat) (s0 s7 s8 s9 : AV) (h : Heap) : St := ⟨m,[s0,.unk,.unk,.unk,.unk,.unk,.unk,s7,s8,s9,.unk,.unk,.unk,.unk,.unk,.unk,.unk,.unk,.unk,.unk,.unk,.unk,.unk,.unk,.unk,.unk,.unk,.unk,.unk,.unk,.unk,.unk,.unk,.unk,.unk,.unk,.unk,.unk,.unk,.unk,.unk,.unk,.unk,.unk,.unk,.unk,.unk,.unk,.unk,.unk,.unk,.unk,.unk,.unk,.unk,.unk,.unk,.unk,.unk,.unk,.unk,.unk,.unk,.unk,.unk,.unk,.unk,.unk,.unk],h⟩
@[go_sem] theorem ks8_0 (a b c d e f g h i j k l m n o p q r s t u v w x y z a0 a1 a2 a3 a4 a5 a6 a7 a8 a9 b0 b1 b2 b3 b4 b5 b6 b7 b8 b9 c0 c1 c2 c3 c4 c5 c6 c7 c8 c9 d0 d1 d2 d3 d4 d5 d6 d7 d8 d9 e0 e1 e2 : AV) : keepS [0,7,8,9] [a,b,c,d,e,f,g,h,i,j,k,l,m,n,o,p,q,r,s,t,u,v,w,x,y,z,a0,a1,a2,a3,a4,a5,a6,a7,a8,a9,b0,b1,b2,b3,b4,b5,b6,b7,b8,b9,c0,c1,c2,c3,c4,c5,c6,c7,c8,c9,d0,d1,d2,d3,d4,d5,d6,d7,d8,d9,e0,e1,e2] 0 = [a,.unk,.unk,.unk,.unk,.unk,.unk,h,i,j,.unk,.unk,.unk,.unk,.unk,.unk,.unk,.unk,.unk,.unk,.unk,.unk,.unk,.unk,.unk,.unk,.unk,.unk,.unk,.unk,.unk,.unk,.unk,.unk,.unk,.unk,.unk,.unk,.unk,.unk,.unk,.unk,.unk,.unk,.unk,.unk,.unk,.unk,.unk,.unk,.unk,.unk,.unk,.unk,.unk,.unk,.unk,.unk,.unk,.unk,.unk,.unk,.unk,.unk,.unk,.unk,.unk,.unk,.unk] := rfl
@[go_sem] theorem ks8_1 (a b c d e f g h i j k l m n o p q r s t u v w x y z a0 a1 a2 a3 a4 a5 a6 a7 a8 a9 b0 b1 b2 b3 b4 b5 b6 b7 b8 b9 c0 c1 c2 c3 c4 c5 c6 c7 c8 c9 d0 d1 d2 d3 d4 d5 d6 d7 d8 d9 e0 e1 e2 : AV) : keepS [] [a,b,c,d,e,f,g,h,i,j,k,l,m,n,o,p,q,r,s,t,u,v,w,x,y,z,a0,a1,a2,a3,a4,a5,a6,a7,a8,a9,b0,b1,b2,b3,b4,b5,b6,b7,b8,b9,c0,c1,c2,c3,c4,c5,c6,c7,c8,c9,d0,d1,d2,d3,d4,d5,d6,d7,d8,d9,e0,e1,e2] 0 = [.unk,.unk,.unk,.unk,.unk,.unk,.unk,.unk,.unk,.unk,.unk,.unk,.unk,.unk,.unk,.unk,.unk,.unk,.unk,.unk,.unk,.unk,.unk,.unk,.unk,.unk,.unk,.unk,.unk,.unk,.unk,.unk,.unk,.unk,.unk,.unk,.unk,.unk,.unk,.unk,.unk,.unk,.unk,.unk,.unk,.unk,.unk,.unk,.unk,.unk,.unk,.unk,.unk,.unk,.unk,.unk,.unk,.unk,.unk,.unk,.unk,.unk,.unk,.unk,.unk,.unk,.unk,.unk,.unk] := rfl
@[go_sem] theorem ks8_2 (a b c d e f g h i j k l m n o p q r s t u v w x y z a0 a1 a2 a3 a4 a5 a6 a7 a8 a9 b0 b1 b2 b3 b4 b5 b6 b7 b8 b9 c0 c1 c2 c3 c4 c5 c6 c7 c8 c9 d0 d1 d2 d3 d4 d5 d6 d7 d8 d9 e0 e1 e2 : AV) : keepS [2] [a,b,c,d,e,f,g,h,i,j,k,l,m,n,o,p,q,r,s,t,u,v,w,x,y,z,a0,a1,a2,a3,a4,a5,a6,a7,a8,a9,b0,b1,b2,b3,b4,b5,b6,b7,b8,b9,c0,c1,c2,c3,c4,c5,c6,c7,c8,c9,d0,d1,d2,d3,d4,d5,d6,d7,d8,d9,e0,e1,e2] 0 = [.unk,.unk,c,.unk,.unk,.unk,.unk,.unk,.unk,.unk,.unk,.unk,.unk,.unk,.unk,.unk,.unk,.unk,.unk,.unk,.unk,.unk,.unk,.unk,.unk,.unk,.unk,.unk,.unk,.unk,.unk,.unk,.unk,.unk,.unk,.unk,.unk,.unk,.unk,.unk,.unk,.unk,.unk,.unk,.unk,.unk,.unk,.unk,.unk,.unk,.unk,.unk,.unk,.unk,.unk,.unk,.unk,.unk,.unk,.unk,.unk,.unk,.unk,.unk,.unk,.unk,.unk,.unk,.unk] := rfl
@[go_sem] theorem ks8_3 (a b c d e f g h i j k l m n o p q r s t u v w x y z a0 a1 a2 a3 a4 a5 a6 a7 a8 a9 b0 b1 b2 b3 b4 b5 b6 b7 b8 b9 c0 c1 c2 c3 c4 c5 c6 c7 c8 c9 d0 d1 d2 d3 d4 d5 d6 d7 d8 d9 e0 e1 e2 : AV) : keepS [0,4,7,8,9,30,31,32] [a,b,c,d,e,f,g,h,i,j,k,l,m,n,o,p,q,r,s,t,u,v,w,x,y,z,a0,a1,a2,a3,a4,a5,a6,a7,a8,a9,b0,b1,b2,b3,b4,b5,b6,b7,b8,b9,c0,c1,c2,c3,c4,c5,c6,c7,c8,c9,d0,d1,d2,d3,d4,d5,d6,d7,d8,d9,e0,e1,e2] 0 = [a,.unk,.unk,.unk,e,.unk,.unk,h,i,j,.unk,.unk,.unk,.unk,.unk,.unk,.unk,.unk,.unk,.unk,.unk,.unk,.unk,.unk,.unk,.unk,.unk,.unk,.unk,.unk,a4,a5,a6,.unk,.unk,.unk,.unk,.unk,.unk,.unk,.unk,.unk,.unk,.unk,.unk,.unk,.unk,.unk,.unk,.unk,.unk,.unk,.unk,.unk,.unk,.unk,.unk,.unk,.unk,.unk,.unk,.unk,.unk,.unk,.unk,.unk,.unk,.unk,.unk] := rfl
/-- spence/spencelaw48.right -/
def bd8 : C :=
  (.seq (.reg [⟨some 2, none, .mv (.c (.d (.bool false))), .none⟩])
  (.seq (.seq (.reg [⟨some 7, none, .mv (.s 0), .none⟩,
       ⟨some 8, none, .len (.s 7), .none⟩,
       ⟨some 9, none, .mv (.c (.d (.int .i64 0))), .none⟩])
   (.block 0 (.loop [0, 7, 8, 9] lp8_0)))
  (.seq (.reg [⟨some 2, none, .mv (.c (.d (.bool true))), .none⟩])
  (.ret none))))
def ir8 : F := { n := 69, res := [.tmp 2], body := bd8 }
@[go_sem] theorem n8 : ir8.n = 69 := rfl
@[go_sem] theorem r8 : ir8.res = [.tmp 2] := rfl
@[go_sem] theorem b8 : ir8.body = bd8 := rfl
def lb9_1 : C :=
  (.seq (.reg [⟨some 50, none, .bin .lss (.s 49) (.s 48), .none⟩])
  (.seq (.cond (.s 50)
    .skip
    (.exit 2 (some [5])))
  (.seq (.block 3 (.seq (.reg [⟨some 51, none, .is (.s 47) (.s 49) 6, .none⟩,
        ⟨some 52, none, .ld (.s 51) 6 true, .none⟩,
        ⟨some 11, none, .alloc 34 [.int .i64 0, .int .i64 0, .str [], .int .i64 0, .int .i64 0, .nils], .cells [(5, 4, false)]⟩,
        ⟨none, none, .st (.s 11) (.s 52) 6, .none⟩])
    (.seq (.reg [⟨some 54, none, .mv (.s 0), .none⟩,
        ⟨some 55, none, .fa (.s 11) 0, .none⟩,
        ⟨some 56, none, .fa (.s 55) 0, .none⟩,
        ⟨some 57, none, .ld (.s 56) 1 false, .none⟩,
        ⟨some 58, none, .call 18 [.s 54, .s 57] 2, .none⟩,
        ⟨some 53, none, .mv (.s 58), .none⟩,
        ⟨some 59, none, .ext (.s 53) 0, .none⟩,
        ⟨some 60, none, .ext (.s 53) 1, .none⟩,
        ⟨some 12, none, .alloc 34 [.int .i64 0, .int .i64 0, .str [], .int .i64 0, .int .i64 0, .nils], .cells [(5, 4, false)]⟩,
        ⟨none, none, .st (.s 12) (.s 59) 6, .none⟩,
        ⟨some 13, none, .mv (.s 60), .none⟩])
    (.seq (.reg [⟨some 61, none, .ld (.s 12) 6 true, .none⟩,
        ⟨some 62, none, .ld (.s 11) 6 true, .none⟩,
        ⟨some 63, none, .mv (.s 13), .none⟩,
        ⟨some 64, none, .call 19 [.s 61, .s 62, .s 63] 2, .none⟩,
        ⟨some 14, none, .alloc 32 [.int .i64 0, .bool false, .bool false, .int .i64 0, .int .i64 0, .str [], .int .i64 0, .int .i64 0, .nils, .nils], .cells [(8, 4, false), (9, 1, false)]⟩,
        ⟨none, none, .st (.s 14) (.s 64) 10, .none⟩])
    (.seq (.reg [⟨some 65, none, .ld (.s 14) 10 true, .none⟩,
        ⟨some 66, none, .call 20 [.s 65] 2, .none⟩,
        ⟨some 67, none, .un .not (.s 66), .none⟩])
    (.cond (.s 67)
     (.reg [⟨some 68, none, .mv (.s 5), .none⟩,
        ⟨some 69, none, .ld (.s 14) 10 true, .none⟩,
        ⟨some 70, none, .bsl 32 10 1 [.int .i64 0, .bool false, .bool false, .int .i64 0, .int .i64 0, .str [], .int .i64 0, .int .i64 0, .nils, .nils] [(0, (10, .s 69))], .none⟩,
        ⟨some 71, none, .app 32 10 112 (.s 68) (.s 70), .none⟩,
        ⟨some 5, none, .mv (.s 71), .none⟩])
     .skip))))))
  (.reg [⟨some 72, none, .bin .add (.s 49) (.c (.d (.int .i64 1))), .none⟩,
     ⟨some 49, none, .mv (.s 72), .none⟩]))))
def lp9_1 : C := lb9_1
theorem u9_1 (c : Ev.Callee) (l : Ev.Looper) (s : St) : evC c l lp9_1 s = evC c l lb9_1 s := rfl
abbrev st9_1 (m : Nat) (s0 s5 s47 s48 s49 : AV) (h : Heap) : St := ⟨m,[s0,.unk,.unk,.unk,.unk,s5,.unk,.unk,.unk,.unk,.unk,.unk,.unk,.unk,.unk,.unk,.unk,.unk,.unk,.unk,.unk,.unk,.unk,.unk,.unk,.unk,.unk,.unk,.unk,.unk,.unk,.unk,.unk,.unk,.unk,.unk,.unk,.unk,.unk,.unk,.unk,.unk,.unk,.unk,.unk,.unk,.unk,s47,s48,s49,.unk,.unk,.unk,.unk,.unk,.unk,.unk,.unk,.unk,.unk,.unk,.unk,.unk,.unk,.unk,.unk,.unk,.unk,.unk,.unk,.unk,.unk,.unk,.unk,.unk,.unk],h⟩
def lb9_0 : C :=
  (.seq (.reg [⟨some 26, none, .bin .lss (.s 25) (.s 24), .none⟩])
  (.seq (.cond (.s 26)
    .skip
    (.exit 0 (some [0, 1, 5])))
  (.seq (.block 1 (.seq (.reg [⟨some 27, none, .is (.s 23) (.s 25) 6, .none⟩,
        ⟨some 28, none, .ld (.s 27) 6 true, .none⟩,
        ⟨some 7, none, .alloc 34 [.int .i64 0, .int .i64 0, .str [], .int .i64 0, .int .i64 0, .nils], .cells [(5, 4, false)]⟩,
        ⟨none, none, .st (.s 7) (.s 28) 6, .none⟩])
    (.seq (.reg [⟨some 30, none, .mv (.s 1), .none⟩,
        ⟨some 31, none, .fa (.s 7) 0, .none⟩,
        ⟨some 32, none, .fa (.s 31) 0, .none⟩,
        ⟨some 33, none, .ld (.s 32) 1 false, .none⟩,
        ⟨some 34, none, .call 18 [.s 30, .s 33] 2, .none⟩,
        ⟨some 29, none, .mv (.s 34), .none⟩,
        ⟨some 35, none, .ext (.s 29) 0, .none⟩,
        ⟨some 36, none, .ext (.s 29) 1, .none⟩,
        ⟨some 8, none, .alloc 34 [.int .i64 0, .int .i64 0, .str [], .int .i64 0, .int .i64 0, .nils], .cells [(5, 4, false)]⟩,
        ⟨none, none, .st (.s 8) (.s 35) 6, .none⟩,
        ⟨some 9, none, .mv (.s 36), .none⟩])
    (.seq (.reg [⟨some 37, none, .mv (.s 9), .none⟩,
        ⟨some 38, none, .un .not (.s 37), .none⟩])
    (.cond (.s 38)
     (.reg [⟨some 39, none, .mv (.s 5), .none⟩,
        ⟨some 40, none, .fa (.s 7) 0, .none⟩,
        ⟨some 41, none, .fa (.s 40) 0, .none⟩,
        ⟨some 42, none, .ld (.s 41) 1 false, .none⟩,
        ⟨some 43, none, .build [.int .i64 0, .bool false, .bool false, .int .i64 0, .int .i64 0, .str [], .int .i64 0, .int .i64 0, .nils, .nils] [(0, (1, .s 42)), (2, (1, .c (.d (.bool true))))], .cells [(8, 4, false), (9, 1, false)]⟩,
        ⟨some 44, none, .bsl 32 10 1 [.int .i64 0, .bool false, .bool false, .int .i64 0, .int .i64 0, .str [], .int .i64 0, .int .i64 0, .nils, .nils] [(0, (10, .s 43))], .none⟩,
        ⟨some 45, none, .app 32 10 112 (.s 39) (.s 44), .none⟩,
        ⟨some 5, none, .mv (.s 45), .none⟩])
     .skip)))))
  (.reg [⟨some 46, none, .bin .add (.s 25) (.c (.d (.int .i64 1))), .none⟩,
     ⟨some 25, none, .mv (.s 46), .none⟩]))))
def lp9_0 : C := lb9_0
theorem u9_0 (c : Ev.Callee) (l : Ev.Looper) (s : St) : evC c l lp9_0 s = evC c l lb9_0 s := rfl
abbrev st9_0 (m : Nat) (s0 s1 s5 s23 s24 s25 : AV) (h : Heap) : St := ⟨m,[s0,s1,.unk,.unk,.unk,s5,.unk,.unk,.unk,.unk,.unk,.unk,.unk,.unk,.unk,.unk,.unk,.unk,.unk,.unk,.unk,.unk,.unk,s23,s24,s25,.unk,.unk,.unk,.unk,.unk,.unk,.unk,.unk,.unk,.unk,.unk,.unk,.unk,.unk,.unk,.unk,.unk,.unk,.unk,.unk,.unk,.unk,.unk,.unk,.unk,.unk,.unk,.unk,.unk,.unk,.unk,.unk,.unk,.unk,.unk,.unk,.unk,.unk,.unk,.unk,.unk,.unk,.unk,.unk,.unk,.unk,.unk,.unk,.unk,.unk],h⟩
@[go_sem] theorem ks9_0 (a b c d e f g h i j k l m n o p q r s t u v w x y z a0 a1 a2 a3 a4 a5 a6 a7 a8 a9 b0 b1 b2 b3 b4 b5 b6 b7 b8 b9 c0 c1 c2 c3 c4 c5 c6 c7 c8 c9 d0 d1 d2 d3 d4 d5 d6 d7 d8 d9 e0 e1 e2 e3 e4 e5 e6 e7 e8 e9 : AV) : keepS [0,1,5,23,24,25] [a,b,c,d,e,f,g,h,i,j,k,l,m,n,o,p,q,r,s,t,u,v,w,x,y,z,a0,a1,a2,a3,a4,a5,a6,a7,a8,a9,b0,b1,b2,b3,b4,b5,b6,b7,b8,b9,c0,c1,c2,c3,c4,c5,c6,c7,c8,c9,d0,d1,d2,d3,d4,d5,d6,d7,d8,d9,e0,e1,e2,e3,e4,e5,e6,e7,e8,e9] 0 = [a,b,.unk,.unk,.unk,f,.unk,.unk,.unk,.unk,.unk,.unk,.unk,.unk,.unk,.unk,.unk,.unk,.unk,.unk,.unk,.unk,.unk,x,y,z,.unk,.unk,.unk,.unk,.unk,.unk,.unk,.unk,.unk,.unk,.unk,.unk,.unk,.unk,.unk,.unk,.unk,.unk,.unk,.unk,.unk,.unk,.unk,.unk,.unk,.unk,.unk,.unk,.unk,.unk,.unk,.unk,.unk,.unk,.unk,.unk,.unk,.unk,.unk,.unk,.unk,.unk,.unk,.unk,.unk,.unk,.unk,.unk,.unk,.unk] := rfl
@[go_sem] theorem ks9_1 (a b c d e f g h i j k l m n o p q r s t u v w x y z a0 a1 a2 a3 a4 a5 a6 a7 a8 a9 b0 b1 b2 b3 b4 b5 b6 b7 b8 b9 c0 c1 c2 c3 c4 c5 c6 c7 c8 c9 d0 d1 d2 d3 d4 d5 d6 d7 d8 d9 e0 e1 e2 e3 e4 e5 e6 e7 e8 e9 : AV) : keepS [0,1,5] [a,b,c,d,e,f,g,h,i,j,k,l,m,n,o,p,q,r,s,t,u,v,w,x,y,z,a0,a1,a2,a3,a4,a5,a6,a7,a8,a9,b0,b1,b2,b3,b4,b5,b6,b7,b8,b9,c0,c1,c2,c3,c4,c5,c6,c7,c8,c9,d0,d1,d2,d3,d4,d5,d6,d7,d8,d9,e0,e1,e2,e3,e4,e5,e6,e7,e8,e9] 0 = [a,b,.unk,.unk,.unk,f,.unk,.unk,.unk,.unk,.unk,.unk,.unk,.unk,.unk,.unk,.unk,.unk,.unk,.unk,.unk,.unk,.unk,.unk,.unk,.unk,.unk,.unk,.unk,.unk,.unk,.unk,.unk,.unk,.unk,.unk,.unk,.unk,.unk,.unk,.unk,.unk,.unk,.unk,.unk,.unk,.unk,.unk,.unk,.unk,.unk,.unk,.unk,.unk,.unk,.unk,.unk,.unk,.unk,.unk,.unk,.unk,.unk,.unk,.unk,.unk,.unk,.unk,.unk,.unk,.unk,.unk,.unk,.unk,.unk,.unk] := rfl
@[go_sem] theorem ks9_2 (a b c d e f g h i j k l m n o p q r s t u v w x y z a0 a1 a2 a3 a4 a5 a6 a7 a8 a9 b0 b1 b2 b3 b4 b5 b6 b7 b8 b9 c0 c1 c2 c3 c4 c5 c6 c7 c8 c9 d0 d1 d2 d3 d4 d5 d6 d7 d8 d9 e0 e1 e2 e3 e4 e5 e6 e7 e8 e9 : AV) : keepS [0,5,47,48,49] [a,b,c,d,e,f,g,h,i,j,k,l,m,n,o,p,q,r,s,t,u,v,w,x,y,z,a0,a1,a2,a3,a4,a5,a6,a7,a8,a9,b0,b1,b2,b3,b4,b5,b6,b7,b8,b9,c0,c1,c2,c3,c4,c5,c6,c7,c8,c9,d0,d1,d2,d3,d4,d5,d6,d7,d8,d9,e0,e1,e2,e3,e4,e5,e6,e7,e8,e9] 0 = [a,.unk,.unk,.unk,.unk,f,.unk,.unk,.unk,.unk,.unk,.unk,.unk,.unk,.unk,.unk,.unk,.unk,.unk,.unk,.unk,.unk,.unk,.unk,.unk,.unk,.unk,.unk,.unk,.unk,.unk,.unk,.unk,.unk,.unk,.unk,.unk,.unk,.unk,.unk,.unk,.unk,.unk,.unk,.unk,.unk,.unk,c1,c2,c3,.unk,.unk,.unk,.unk,.unk,.unk,.unk,.unk,.unk,.unk,.unk,.unk,.unk,.unk,.unk,.unk,.unk,.unk,.unk,.unk,.unk,.unk,.unk,.unk,.unk,.unk] := rfl
@[go_sem] theorem ks9_3 (a b c d e f g h i j k l m n o p q r s t u v w x y z a0 a1 a2 a3 a4 a5 a6 a7 a8 a9 b0 b1 b2 b3 b4 b5 b6 b7 b8 b9 c0 c1 c2 c3 c4 c5 c6 c7 c8 c9 d0 d1 d2 d3 d4 d5 d6 d7 d8 d9 e0 e1 e2 e3 e4 e5 e6 e7 e8 e9 : AV) : keepS [5] [a,b,c,d,e,f,g,h,i,j,k,l,m,n,o,p,q,r,s,t,u,v,w,x,y,z,a0,a1,a2,a3,a4,a5,a6,a7,a8,a9,b0,b1,b2,b3,b4,b5,b6,b7,b8,b9,c0,c1,c2,c3,c4,c5,c6,c7,c8,c9,d0,d1,d2,d3,d4,d5,d6,d7,d8,d9,e0,e1,e2,e3,e4,e5,e6,e7,e8,e9] 0 = [.unk,.unk,.unk,.unk,.unk,f,.unk,.unk,.unk,.unk,.unk,.unk,.unk,.unk,.unk,.unk,.unk,.unk,.unk,.unk,.unk,.unk,.unk,.unk,.unk,.unk,.unk,.unk,.unk,.unk,.unk,.unk,.unk,.unk,.unk,.unk,.unk,.unk,.unk,.unk,.unk,.unk,.unk,.unk,.unk,.unk,.unk,.unk,.unk,.unk,.unk,.unk,.unk,.unk,.unk,.unk,.unk,.unk,.unk,.unk,.unk,.unk,.unk,.unk,.unk,.unk,.unk,.unk,.unk,.unk,.unk,.unk,.unk,.unk,.unk,.unk] := rfl
/-- spence/diff.Of -/
def bd9 : C :=
  (.seq (.reg [⟨some 4, none, .mv (.c (.d .nils)), .one 10 true⟩])
  (.seq (.seq (.reg [⟨some 15, none, .mv (.s 0), .none⟩,
       ⟨some 16, none, .call 15 [.s 15] 2, .none⟩,
       ⟨some 17, none, .un .not (.s 16), .none⟩,
       ⟨some 18, none, .mv (.s 17), .none⟩,
       ⟨some 19, some (18, false), .mv (.s 1), .none⟩,
       ⟨some 20, some (18, false), .call 15 [.s 19] 2, .none⟩,
       ⟨some 21, some (18, false), .un .not (.s 20), .none⟩,
       ⟨some 22, none, .pick (.s 18) (.c (.d (.bool true))) (.s 21), .none⟩])
   (.cond (.s 22)
    (.seq (.reg [⟨some 4, none, .mv (.c (.d .nils)), .one 10 true⟩])
    (.ret none))
    .skip))
  (.seq (.reg [⟨some 5, none, .mv (.c (.d .nils)), .one 10 true⟩])
  (.seq (.seq (.reg [⟨some 23, none, .mv (.s 0), .none⟩,
       ⟨some 24, none, .len (.s 23), .none⟩,
       ⟨some 25, none, .mv (.c (.d (.int .i64 0))), .none⟩])
   (.block 0 (.loop [0, 1, 5, 23, 24, 25] lp9_0)))
  (.seq (.seq (.reg [⟨some 47, none, .mv (.s 1), .none⟩,
       ⟨some 48, none, .len (.s 47), .none⟩,
       ⟨some 49, none, .mv (.c (.d (.int .i64 0))), .none⟩])
   (.block 2 (.loop [0, 5, 47, 48, 49] lp9_1)))
  (.seq (.reg [⟨some 73, none, .mv (.s 5), .none⟩,
      ⟨some 74, none, .call 21 [.s 73, .c (.clo (.func 22) [] [])] 1, .none⟩])
  (.seq (.reg [⟨some 75, none, .mv (.s 5), .none⟩,
      ⟨some 4, none, .mv (.s 75), .none⟩])
  (.ret none))))))))
def ir9 : F := { n := 76, res := [.tmp 4], body := bd9 }
@[go_sem] theorem n9 : ir9.n = 76 := rfl
@[go_sem] theorem r9 : ir9.res = [.tmp 4] := rfl
@[go_sem] theorem b9 : ir9.body = bd9 := rfl
def lb10_0 : C :=
  (.seq (.reg [⟨some 11, none, .bin .lss (.s 10) (.s 9), .none⟩])
  (.seq (.cond (.s 11)
    .skip
    (.exit 0 (some [4])))
  (.seq (.block 1 (.seq (.reg [⟨some 12, none, .is (.s 8) (.s 10) 6, .none⟩,
        ⟨some 13, none, .ld (.s 12) 6 true, .none⟩,
        ⟨some 7, none, .alloc 34 [.int .i64 0, .int .i64 0, .str [], .int .i64 0, .int .i64 0, .nils], .cells [(5, 4, false)]⟩,
        ⟨none, none, .st (.s 7) (.s 13) 6, .none⟩])
    (.seq (.reg [⟨some 14, none, .fa (.s 7) 0, .none⟩,
        ⟨some 15, none, .fa (.s 14) 0, .none⟩,
        ⟨some 16, none, .ld (.s 15) 1 false, .none⟩,
        ⟨some 17, none, .mv (.s 1), .none⟩,
        ⟨some 18, none, .bin .eql (.s 16) (.s 17), .none⟩])
    (.cond (.s 18)
     (.seq (.reg [⟨some 19, none, .ld (.s 7) 6 true, .none⟩,
         ⟨none, none, .st (.s 4) (.s 19) 6, .none⟩,
         ⟨some 5, none, .mv (.c (.d (.bool true))), .none⟩])
     (.ret (some [4, 5])))
     .skip))))
  (.reg [⟨some 20, none, .bin .add (.s 10) (.c (.d (.int .i64 1))), .none⟩,
     ⟨some 10, none, .mv (.s 20), .none⟩]))))
def lp10_0 : C := lb10_0
theorem u10_0 (c : Ev.Callee) (l : Ev.Looper) (s : St) : evC c l lp10_0 s = evC c l lb10_0 s := rfl
abbrev st10_0 (m : Nat) (s1 s4 s8 s9 s10 : AV) (h : Heap) : St := ⟨m,[.unk,s1,.unk,.unk,s4,.unk,.unk,.unk,s8,s9,s10,.unk,.unk,.unk,.unk,.unk,.unk,.unk,.unk,.unk,.unk,.unk],h⟩
@[go_sem] theorem ks10_0 (a b c d e f g h i j k l m n o p q r s t u v : AV) : keepS [1,4,8,9,10] [a,b,c,d,e,f,g,h,i,j,k,l,m,n,o,p,q,r,s,t,u,v] 0 = [.unk,b,.unk,.unk,e,.unk,.unk,.unk,i,j,k,.unk,.unk,.unk,.unk,.unk,.unk,.unk,.unk,.unk,.unk,.unk] := rfl
@[go_sem] theorem ks10_1 (a b c d e f g h i j k l m n o p q r s t u v : AV) : keepS [4] [a,b,c,d,e,f,g,h,i,j,k,l,m,n,o,p,q,r,s,t,u,v] 0 = [.unk,.unk,.unk,.unk,e,.unk,.unk,.unk,.unk,.unk,.unk,.unk,.unk,.unk,.unk,.unk,.unk,.unk,.unk,.unk,.unk,.unk] := rfl
@[go_sem] theorem ks10_2 (a b c d e f g h i j k l m n o p q r s t u v : AV) : keepS [4,5] [a,b,c,d,e,f,g,h,i,j,k,l,m,n,o,p,q,r,s,t,u,v] 0 = [.unk,.unk,.unk,.unk,e,f,.unk,.unk,.unk,.unk,.unk,.unk,.unk,.unk,.unk,.unk,.unk,.unk,.unk,.unk,.unk,.unk] := rfl
/-- spence/spencelaw48.find -/
def bd10 : C :=
  (.seq (.reg [⟨some 4, none, .alloc 34 [.int .i64 0, .int .i64 0, .str [], .int .i64 0, .int .i64 0, .nils], .cells [(5, 4, false)]⟩,
      ⟨some 5, none, .mv (.c (.d (.bool false))), .none⟩])
  (.seq (.seq (.reg [⟨some 8, none, .mv (.s 0), .none⟩,
       ⟨some 9, none, .len (.s 8), .none⟩,
       ⟨some 10, none, .mv (.c (.d (.int .i64 0))), .none⟩])
   (.block 0 (.loop [1, 4, 8, 9, 10] lp10_0)))
  (.seq (.reg [⟨some 21, none, .build [.int .i64 0, .int .i64 0, .str [], .int .i64 0, .int .i64 0, .nils] [], .cells [(5, 4, false)]⟩,
      ⟨none, none, .st (.s 4) (.s 21) 6, .none⟩,
      ⟨some 5, none, .mv (.c (.d (.bool false))), .none⟩])
  (.ret none))))
def ir10 : F := { n := 22, res := [.cell 4 6 true, .tmp 5], body := bd10 }
@[go_sem] theorem n10 : ir10.n = 22 := rfl
@[go_sem] theorem r10 : ir10.res = [.cell 4 6 true, .tmp 5] := rfl
@[go_sem] theorem b10 : ir10.body = bd10 := rfl
def lb11_0 : C :=
  (.seq (.reg [⟨some 10, none, .bin .lss (.s 9) (.s 8), .none⟩])
  (.seq (.cond (.s 10)
    .skip
    (.exit 0 (some [])))
  (.seq (.block 1 (.seq (.reg [⟨some 11, none, .is (.s 7) (.s 9) 4, .none⟩,
        ⟨some 12, none, .ld (.s 11) 4 true, .none⟩,
        ⟨some 6, none, .alloc 39 [.int .i64 0, .int .i64 0, .int .i64 0, .nils], .cells [(3, 1, false)]⟩,
        ⟨none, none, .st (.s 6) (.s 12) 4, .none⟩])
    (.seq (.reg [⟨some 13, none, .ld (.s 6) 4 true, .none⟩,
        ⟨some 14, none, .ld (.s 3) 4 true, .none⟩,
        ⟨some 15, none, .call 24 [.s 13, .s 14] 2, .none⟩])
    (.cond (.s 15)
     (.seq (.reg [⟨some 4, none, .mv (.c (.d (.bool true))), .none⟩])
     (.ret (some [4])))
     .skip))))
  (.reg [⟨some 16, none, .bin .add (.s 9) (.c (.d (.int .i64 1))), .none⟩,
     ⟨some 9, none, .mv (.s 16), .none⟩]))))
def lp11_0 : C := lb11_0
theorem u11_0 (c : Ev.Callee) (l : Ev.Looper) (s : St) : evC c l lp11_0 s = evC c l lb11_0 s := rfl
abbrev st11_0 (m : Nat) (s3 s7 s8 s9 : AV) (h : Heap) : St := ⟨m,[.unk,.unk,.unk,s3,.unk,.unk,.unk,s7,s8,s9,.unk,.unk,.unk,.unk,.unk,.unk,.unk],h⟩
@[go_sem] theorem ks11_0 (a b c d e f g h i j k l m n o p q : AV) : keepS [3,7,8,9] [a,b,c,d,e,f,g,h,i,j,k,l,m,n,o,p,q] 0 = [.unk,.unk,.unk,d,.unk,.unk,.unk,h,i,j,.unk,.unk,.unk,.unk,.unk,.unk,.unk] := rfl
@[go_sem] theorem ks11_1 (a b c d e f g h i j k l m n o p q : AV) : keepS [] [a,b,c,d,e,f,g,h,i,j,k,l,m,n,o,p,q] 0 = [.unk,.unk,.unk,.unk,.unk,.unk,.unk,.unk,.unk,.unk,.unk,.unk,.unk,.unk,.unk,.unk,.unk] := rfl
@[go_sem] theorem ks11_2 (a b c d e f g h i j k l m n o p q : AV) : keepS [4] [a,b,c,d,e,f,g,h,i,j,k,l,m,n,o,p,q] 0 = [.unk,.unk,.unk,.unk,e,.unk,.unk,.unk,.unk,.unk,.unk,.unk,.unk,.unk,.unk,.unk,.unk] := rfl
/-- spence/spencelaw48.has -/
def bd11 : C :=
  (.seq (.reg [⟨some 3, none, .box 39 (.s 1), .none⟩,
      ⟨some 4, none, .mv (.c (.d (.bool false))), .none⟩])
  (.seq (.seq (.reg [⟨some 7, none, .mv (.s 0), .none⟩,
       ⟨some 8, none, .len (.s 7), .none⟩,
       ⟨some 9, none, .mv (.c (.d (.int .i64 0))), .none⟩])
   (.block 0 (.loop [3, 7, 8, 9] lp11_0)))
  (.seq (.reg [⟨some 4, none, .mv (.c (.d (.bool false))), .none⟩])
  (.ret none))))
def ir11 : F := { n := 17, res := [.tmp 4], body := bd11 }
@[go_sem] theorem n11 : ir11.n = 17 := rfl
@[go_sem] theorem r11 : ir11.res = [.tmp 4] := rfl
@[go_sem] theorem b11 : ir11.body = bd11 := rfl
def lb12_0 : C :=
  (.seq (.reg [⟨some 10, none, .bin .lss (.s 9) (.s 8), .none⟩])
  (.seq (.cond (.s 10)
    .skip
    (.exit 0 (some [])))
  (.seq (.block 1 (.seq (.reg [⟨some 11, none, .is (.s 7) (.s 9) 4, .none⟩,
        ⟨some 12, none, .ld (.s 11) 4 true, .none⟩,
        ⟨some 6, none, .alloc 39 [.int .i64 0, .int .i64 0, .int .i64 0, .nils], .cells [(3, 1, false)]⟩,
        ⟨none, none, .st (.s 6) (.s 12) 4, .none⟩])
    (.seq (.reg [⟨some 13, none, .fa (.s 6) 2, .none⟩,
        ⟨some 14, none, .ld (.s 13) 1 false, .none⟩,
        ⟨some 15, none, .mv (.s 1), .none⟩,
        ⟨some 16, none, .bin .eql (.s 14) (.s 15), .none⟩])
    (.cond (.s 16)
     (.seq (.reg [⟨some 4, none, .mv (.c (.d (.bool true))), .none⟩])
     (.ret (some [4])))
     .skip))))
  (.reg [⟨some 17, none, .bin .add (.s 9) (.c (.d (.int .i64 1))), .none⟩,
     ⟨some 9, none, .mv (.s 17), .none⟩]))))
def lp12_0 : C := lb12_0
theorem u12_0 (c : Ev.Callee) (l : Ev.Looper) (s : St) : evC c l lp12_0 s = evC c l lb12_0 s := rfl
abbrev st12_0 (m : Nat) (s1 s7 s8 s9 : AV) (h : Heap) : St := ⟨m,[.unk,s1,.unk,.unk,.unk,.unk,.unk,s7,s8,s9,.unk,.unk,.unk,.unk,.unk,.unk,.unk,.unk],h⟩
@[go_sem] theorem ks12_0 (a b c d e f g h i j k l m n o p q r : AV) : keepS [1,7,8,9] [a,b,c,d,e,f,g,h,i,j,k,l,m,n,o,p,q,r] 0 = [.unk,b,.unk,.unk,.unk,.unk,.unk,h,i,j,.unk,.unk,.unk,.unk,.unk,.unk,.unk,.unk] := rfl
@[go_sem] theorem ks12_1 (a b c d e f g h i j k l m n o p q r : AV) : keepS [] [a,b,c,d,e,f,g,h,i,j,k,l,m,n,o,p,q,r] 0 = [.unk,.unk,.unk,.unk,.unk,.unk,.unk,.unk,.unk,.unk,.unk,.unk,.unk,.unk,.unk,.unk,.unk,.unk] := rfl
@[go_sem] theorem ks12_2 (a b c d e f g h i j k l m n o p q r : AV) : keepS [4] [a,b,c,d,e,f,g,h,i,j,k,l,m,n,o,p,q,r] 0 = [.unk,.unk,.unk,.unk,e,.unk,.unk,.unk,.unk,.unk,.unk,.unk,.unk,.unk,.unk,.unk,.unk,.unk] := rfl
/-- spence/spencelaw48.at -/
def bd12 : C :=
  (.seq (.reg [⟨some 4, none, .mv (.c (.d (.bool false))), .none⟩])
  (.seq (.seq (.reg [⟨some 7, none, .mv (.s 0), .none⟩,
       ⟨some 8, none, .len (.s 7), .none⟩,
       ⟨some 9, none, .mv (.c (.d (.int .i64 0))), .none⟩])
   (.block 0 (.loop [1, 7, 8, 9] lp12_0)))
  (.seq (.reg [⟨some 4, none, .mv (.c (.d (.bool false))), .none⟩])
  (.ret none))))
def ir12 : F := { n := 18, res := [.tmp 4], body := bd12 }
@[go_sem] theorem n12 : ir12.n = 18 := rfl
@[go_sem] theorem r12 : ir12.res = [.tmp 4] := rfl
@[go_sem] theorem b12 : ir12.body = bd12 := rfl
def lb13_0 : C :=
  (.seq (.reg [⟨some 9, none, .bin .lss (.s 8) (.s 7), .none⟩])
  (.seq (.cond (.s 9)
    .skip
    (.exit 0 (some [3])))
  (.seq (.block 1 (.seq (.reg [⟨some 10, none, .is (.s 6) (.s 8) 10, .none⟩,
        ⟨some 11, none, .ld (.s 10) 10 true, .none⟩,
        ⟨some 5, none, .alloc 32 [.int .i64 0, .bool false, .bool false, .int .i64 0, .int .i64 0, .str [], .int .i64 0, .int .i64 0, .nils, .nils], .cells [(8, 4, false), (9, 1, false)]⟩,
        ⟨none, none, .st (.s 5) (.s 11) 10, .none⟩])
    (.reg [⟨some 12, none, .mv (.s 3), .none⟩,
       ⟨some 13, none, .fa (.s 5) 8, .none⟩,
       ⟨some 14, none, .ld (.s 13) 1 false, .none⟩,
       ⟨some 15, none, .len (.s 14), .none⟩,
       ⟨some 16, none, .bin .add (.c (.d (.int .i64 1))) (.s 15), .none⟩,
       ⟨some 17, none, .fa (.s 5) 9, .none⟩,
       ⟨some 18, none, .ld (.s 17) 1 false, .none⟩,
       ⟨some 19, none, .len (.s 18), .none⟩,
       ⟨some 20, none, .bin .add (.s 16) (.s 19), .none⟩,
       ⟨some 21, none, .bin .add (.s 12) (.s 20), .none⟩,
       ⟨some 3, none, .mv (.s 21), .none⟩])))
  (.reg [⟨some 22, none, .bin .add (.s 8) (.c (.d (.int .i64 1))), .none⟩,
     ⟨some 8, none, .mv (.s 22), .none⟩]))))
def lp13_0 : C := lb13_0
theorem u13_0 (c : Ev.Callee) (l : Ev.Looper) (s : St) : evC c l lp13_0 s = evC c l lb13_0 s := rfl
abbrev st13_0 (m : Nat) (s3 s6 s7 s8 : AV) (h : Heap) : St := ⟨m,[.unk,.unk,.unk,s3,.unk,.unk,s6,s7,s8,.unk,.unk,.unk,.unk,.unk,.unk,.unk,.unk,.unk,.unk,.unk,.unk,.unk,.unk,.unk],h⟩
@[go_sem] theorem ks13_0 (a b c d e f g h i j k l m n o p q r s t u v w x : AV) : keepS [3,6,7,8] [a,b,c,d,e,f,g,h,i,j,k,l,m,n,o,p,q,r,s,t,u,v,w,x] 0 = [.unk,.unk,.unk,d,.unk,.unk,g,h,i,.unk,.unk,.unk,.unk,.unk,.unk,.unk,.unk,.unk,.unk,.unk,.unk,.unk,.unk,.unk] := rfl
@[go_sem] theorem ks13_1 (a b c d e f g h i j k l m n o p q r s t u v w x : AV) : keepS [3] [a,b,c,d,e,f,g,h,i,j,k,l,m,n,o,p,q,r,s,t,u,v,w,x] 0 = [.unk,.unk,.unk,d,.unk,.unk,.unk,.unk,.unk,.unk,.unk,.unk,.unk,.unk,.unk,.unk,.unk,.unk,.unk,.unk,.unk,.unk,.unk,.unk] := rfl
/-- spence/diff.Count -/
def bd13 : C :=
  (.seq (.reg [⟨some 2, none, .mv (.c (.d (.int .i64 0))), .none⟩])
  (.seq (.reg [⟨some 3, none, .mv (.c (.d (.int .i64 0))), .none⟩])
  (.seq (.seq (.reg [⟨some 6, none, .mv (.s 0), .none⟩,
       ⟨some 7, none, .len (.s 6), .none⟩,
       ⟨some 8, none, .mv (.c (.d (.int .i64 0))), .none⟩])
   (.block 0 (.loop [3, 6, 7, 8] lp13_0)))
  (.seq (.reg [⟨some 23, none, .mv (.s 3), .none⟩,
      ⟨some 2, none, .mv (.s 23), .none⟩])
  (.ret none)))))
def ir13 : F := { n := 24, res := [.tmp 2], body := bd13 }
@[go_sem] theorem n13 : ir13.n = 24 := rfl
@[go_sem] theorem r13 : ir13.res = [.tmp 2] := rfl
@[go_sem] theorem b13 : ir13.body = bd13 := rfl
/-- spence/diff.Same -/
def bd14 : C :=
  (.seq (.reg [⟨some 4, none, .mv (.c (.d (.bool false))), .none⟩])
  (.seq (.reg [⟨some 5, none, .mv (.s 0), .none⟩,
      ⟨some 6, none, .mv (.s 1), .none⟩,
      ⟨some 7, none, .call 25 [.s 5, .s 6, .c (.clo (.func 26) [] [])] 2, .none⟩,
      ⟨some 4, none, .mv (.s 7), .none⟩])
  (.ret none)))
def ir14 : F := { n := 8, res := [.tmp 4], body := bd14 }
@[go_sem] theorem n14 : ir14.n = 8 := rfl
@[go_sem] theorem r14 : ir14.res = [.tmp 4] := rfl
@[go_sem] theorem b14 : ir14.body = bd14 := rfl
def lb15_0 : C :=
  (.seq (.reg [⟨some 8, none, .bin .lss (.s 7) (.s 6), .none⟩])
  (.seq (.cond (.s 8)
    .skip
    (.exit 0 (some [])))
  (.seq (.block 1 (.seq (.reg [⟨some 9, none, .mv (.s 7), .none⟩,
        ⟨some 10, none, .is (.s 5) (.s 7) 6, .none⟩,
        ⟨some 11, none, .ld (.s 10) 6 true, .none⟩,
        ⟨some 4, none, .alloc 34 [.int .i64 0, .int .i64 0, .str [], .int .i64 0, .int .i64 0, .nils], .cells [(5, 4, false)]⟩,
        ⟨some 3, none, .mv (.s 9), .none⟩,
        ⟨none, none, .st (.s 4) (.s 11) 6, .none⟩])
    (.seq (.drw [⟨some 12, none, .ld (.s 4) 6 true, .none⟩,
        ⟨some 13, none, .call 30 [.s 12] 2, .none⟩,
        ⟨some 14, none, .un .not (.s 13), .none⟩,
        ⟨some 15, none, .mv (.s 14), .none⟩,
        ⟨some 16, some (15, false), .mv (.s 3), .none⟩,
        ⟨some 17, some (15, false), .bin .gtr (.s 16) (.c (.d (.int .i64 0))), .none⟩,
        ⟨some 18, some (15, false), .mv (.s 17), .none⟩,
        ⟨some 19, some (18, true), .mv (.s 0), .none⟩,
        ⟨some 20, some (18, true), .mv (.s 3), .none⟩,
        ⟨some 21, some (18, true), .bin .sub (.s 20) (.c (.d (.int .i64 1))), .none⟩,
        ⟨some 22, some (18, true), .is (.s 19) (.s 21) 6, .none⟩,
        ⟨some 23, some (18, true), .fa (.s 22) 0, .none⟩,
        ⟨some 24, some (18, true), .fa (.s 23) 0, .none⟩,
        ⟨some 25, some (18, true), .ld (.s 24) 1 false, .none⟩,
        ⟨some 26, some (18, true), .fa (.s 4) 0, .none⟩,
        ⟨some 27, some (18, true), .fa (.s 26) 0, .none⟩,
        ⟨some 28, some (18, true), .ld (.s 27) 1 false, .none⟩,
        ⟨some 29, some (18, true), .bin .geq (.s 25) (.s 28), .none⟩,
        ⟨some 30, some (15, false), .pick (.s 18) (.s 29) (.c (.d (.bool false))), .none⟩,
        ⟨some 31, none, .pick (.s 15) (.c (.d (.bool true))) (.s 30), .none⟩]
       [[], [0], [1], [2, 1], [3], [4, 3], [5, 3, 3], [6], [6], [8, 6], [7, 9, 6], [10, 6], [11, 6], [12, 6], [6], [14, 6], [15, 6], [13, 16, 6], [6, 17, 3], [3, 18]] [])
    (.cond (.s 31)
     (.seq (.reg [⟨some 2, none, .mv (.c (.d (.bool false))), .none⟩])
     (.ret (some [2])))
     .skip))))
  (.reg [⟨some 32, none, .bin .add (.s 7) (.c (.d (.int .i64 1))), .none⟩,
     ⟨some 7, none, .mv (.s 32), .none⟩]))))
def lp15_0 : C := lb15_0
theorem u15_0 (c : Ev.Callee) (l : Ev.Looper) (s : St) : evC c l lp15_0 s = evC c l lb15_0 s := rfl
abbrev st15_0 (m : Nat) (s0 s5 s6 s7 : AV) (h : Heap) : St := ⟨m,[s0,.unk,.unk,.unk,.unk,s5,s6,s7,.unk,.unk,.unk,.unk,.unk,.unk,.unk,.unk,.unk,.unk,.unk,.unk,.unk,.unk,.unk,.unk,.unk,.unk,.unk,.unk,.unk,.unk,.unk,.unk,.unk],h⟩
@[go_sem] theorem ks15_0 (a b c d e f g h i j k l m n o p q r s t u v w x y z a0 a1 a2 a3 a4 a5 a6 : AV) : keepS [0,5,6,7] [a,b,c,d,e,f,g,h,i,j,k,l,m,n,o,p,q,r,s,t,u,v,w,x,y,z,a0,a1,a2,a3,a4,a5,a6] 0 = [a,.unk,.unk,.unk,.unk,f,g,h,.unk,.unk,.unk,.unk,.unk,.unk,.unk,.unk,.unk,.unk,.unk,.unk,.unk,.unk,.unk,.unk,.unk,.unk,.unk,.unk,.unk,.unk,.unk,.unk,.unk] := rfl
@[go_sem] theorem ks15_1 (a b c d e f g h i j k l m n o p q r s t u v w x y z a0 a1 a2 a3 a4 a5 a6 : AV) : keepS [] [a,b,c,d,e,f,g,h,i,j,k,l,m,n,o,p,q,r,s,t,u,v,w,x,y,z,a0,a1,a2,a3,a4,a5,a6] 0 = [.unk,.unk,.unk,.unk,.unk,.unk,.unk,.unk,.unk,.unk,.unk,.unk,.unk,.unk,.unk,.unk,.unk,.unk,.unk,.unk,.unk,.unk,.unk,.unk,.unk,.unk,.unk,.unk,.unk,.unk,.unk,.unk,.unk] := rfl
@[go_sem] theorem ks15_2 (a b c d e f g h i j k l m n o p q r s t u v w x y z a0 a1 a2 a3 a4 a5 a6 : AV) : keepS [2] [a,b,c,d,e,f,g,h,i,j,k,l,m,n,o,p,q,r,s,t,u,v,w,x,y,z,a0,a1,a2,a3,a4,a5,a6] 0 = [.unk,.unk,c,.unk,.unk,.unk,.unk,.unk,.unk,.unk,.unk,.unk,.unk,.unk,.unk,.unk,.unk,.unk,.unk,.unk,.unk,.unk,.unk,.unk,.unk,.unk,.unk,.unk,.unk,.unk,.unk,.unk,.unk] := rfl
/-- spence/diff.Right -/
def bd15 : C :=
  (.seq (.reg [⟨some 2, none, .mv (.c (.d (.bool false))), .none⟩])
  (.seq (.seq (.reg [⟨some 5, none, .mv (.s 0), .none⟩,
       ⟨some 6, none, .len (.s 5), .none⟩,
       ⟨some 7, none, .mv (.c (.d (.int .i64 0))), .none⟩])
   (.block 0 (.loop [0, 5, 6, 7] lp15_0)))
  (.seq (.reg [⟨some 2, none, .mv (.c (.d (.bool true))), .none⟩])
  (.ret none))))
def ir15 : F := { n := 33, res := [.tmp 2], body := bd15 }
@[go_sem] theorem n15 : ir15.n = 33 := rfl
@[go_sem] theorem r15 : ir15.res = [.tmp 2] := rfl
@[go_sem] theorem b15 : ir15.body = bd15 := rfl
def lb16_1 : C :=
  (.seq (.reg [⟨some 43, none, .bin .lss (.s 42) (.s 41), .none⟩])
  (.seq (.cond (.s 43)
    .skip
    (.exit 2 (some [6])))
  (.seq (.block 3 (.seq (.reg [⟨some 44, none, .is (.s 40) (.s 42) 10, .none⟩,
        ⟨some 45, none, .ld (.s 44) 10 true, .none⟩,
        ⟨some 9, none, .alloc 32 [.int .i64 0, .bool false, .bool false, .int .i64 0, .int .i64 0, .str [], .int .i64 0, .int .i64 0, .nils, .nils], .cells [(8, 4, false), (9, 1, false)]⟩,
        ⟨none, none, .st (.s 9) (.s 45) 10, .none⟩])
    (.seq (.reg [⟨some 47, none, .mv (.s 6), .none⟩,
        ⟨some 48, none, .fa (.s 9) 0, .none⟩,
        ⟨some 49, none, .ld (.s 48) 1 false, .none⟩,
        ⟨some 50, none, .call 18 [.s 47, .s 49] 1, .none⟩,
        ⟨some 46, none, .mv (.s 50), .none⟩,
        ⟨some 51, none, .ext (.s 46) 0, .none⟩,
        ⟨some 52, none, .ext (.s 46) 1, .none⟩,
        ⟨some 10, none, .alloc 34 [.int .i64 0, .int .i64 0, .str [], .int .i64 0, .int .i64 0, .nils], .cells [(5, 4, false)]⟩,
        ⟨none, none, .st (.s 10) (.s 51) 6, .none⟩,
        ⟨some 11, none, .mv (.s 52), .none⟩])
    (.seq (.reg [⟨some 53, none, .fn (.func 34) [] [.s 9], .none⟩,
        ⟨some 12, none, .mv (.s 53), .none⟩])
    (.seq (.seq (.reg [⟨some 54, none, .fa (.s 9) 2, .none⟩,
         ⟨some 55, none, .ld (.s 54) 1 false, .none⟩,
         ⟨some 56, none, .mv (.s 55), .none⟩,
         ⟨some 57, some (56, true), .mv (.s 11), .none⟩,
         ⟨some 58, some (56, true), .un .not (.s 57), .none⟩,
         ⟨some 59, none, .pick (.s 56) (.s 58) (.c (.d (.bool false))), .none⟩])
     (.cond (.s 59)
      (.seq (.reg [⟨some 4, none, .mv (.c (.d .nils)), .one 6 true⟩,
          ⟨some 5, none, .mv (.c (.d (.int .i64 8))), .none⟩])
      (.ret (some [4, 5])))
      .skip))
    (.seq (.reg [⟨some 60, none, .mv (.s 6), .none⟩,
        ⟨some 61, none, .mv (.s 12), .none⟩,
        ⟨some 62, none, .call 35 [.s 60, .s 61] 1, .none⟩,
        ⟨some 6, none, .mv (.s 62), .none⟩])
    (.seq (.seq (.reg [⟨some 63, none, .fa (.s 9) 2, .none⟩,
         ⟨some 64, none, .ld (.s 63) 1 false, .none⟩])
     (.cond (.s 64)
      (.exit 3 none)
      .skip))
    (.seq (.reg [⟨some 66, none, .ld (.s 10) 6 true, .none⟩,
        ⟨some 67, none, .mv (.s 11), .none⟩,
        ⟨some 68, none, .ld (.s 9) 10 true, .none⟩,
        ⟨some 69, none, .call 36 [.s 66, .s 67, .s 68] 2, .none⟩,
        ⟨some 65, none, .mv (.s 69), .none⟩,
        ⟨some 70, none, .ext (.s 65) 0, .none⟩,
        ⟨some 71, none, .ext (.s 65) 1, .none⟩,
        ⟨none, none, .st (.s 10) (.s 70) 6, .none⟩,
        ⟨some 13, none, .mv (.s 71), .none⟩])
    (.seq (.seq (.reg [⟨some 72, none, .mv (.s 13), .none⟩,
         ⟨some 73, none, .bin .neq (.s 72) (.c (.d (.int .i64 0))), .none⟩])
     (.cond (.s 73)
      (.seq (.reg [⟨some 74, none, .mv (.s 13), .none⟩,
          ⟨some 4, none, .mv (.c (.d .nils)), .one 6 true⟩,
          ⟨some 5, none, .mv (.s 74), .none⟩])
      (.ret (some [4, 5])))
      .skip))
    (.reg [⟨some 75, none, .mv (.s 6), .none⟩,
       ⟨some 76, none, .ld (.s 10) 6 true, .none⟩,
       ⟨some 77, none, .bsl 34 6 1 [.int .i64 0, .int .i64 0, .str [], .int .i64 0, .int .i64 0, .nils] [(0, (6, .s 76))], .none⟩,
       ⟨some 78, none, .app 34 6 72 (.s 75) (.s 77), .none⟩,
       ⟨some 6, none, .mv (.s 78), .none⟩]))))))))))
  (.reg [⟨some 79, none, .bin .add (.s 42) (.c (.d (.int .i64 1))), .none⟩,
     ⟨some 42, none, .mv (.s 79), .none⟩]))))
def lp16_1 : C := lb16_1
theorem u16_1 (c : Ev.Callee) (l : Ev.Looper) (s : St) : evC c l lp16_1 s = evC c l lb16_1 s := rfl
abbrev st16_1 (m : Nat) (s6 s40 s41 s42 : AV) (h : Heap) : St := ⟨m,[.unk,.unk,.unk,.unk,.unk,.unk,s6,.unk,.unk,.unk,.unk,.unk,.unk,.unk,.unk,.unk,.unk,.unk,.unk,.unk,.unk,.unk,.unk,.unk,.unk,.unk,.unk,.unk,.unk,.unk,.unk,.unk,.unk,.unk,.unk,.unk,.unk,.unk,.unk,.unk,s40,s41,s42,.unk,.unk,.unk,.unk,.unk,.unk,.unk,.unk,.unk,.unk,.unk,.unk,.unk,.unk,.unk,.unk,.unk,.unk,.unk,.unk,.unk,.unk,.unk,.unk,.unk,.unk,.unk,.unk,.unk,.unk,.unk,.unk,.unk,.unk,.unk,.unk,.unk,.unk,.unk,.unk,.unk,.unk,.unk],h⟩
def lb16_0 : C :=
  (.seq (.reg [⟨some 27, none, .bin .lss (.s 26) (.s 25), .none⟩])
  (.seq (.cond (.s 27)
    .skip
    (.exit 0 (some [1, 6])))
  (.seq (.block 1 (.seq (.reg [⟨some 28, none, .mv (.s 26), .none⟩,
        ⟨some 7, none, .mv (.s 28), .none⟩])
    (.reg [⟨some 29, none, .mv (.s 6), .none⟩,
       ⟨some 30, none, .mv (.s 7), .none⟩,
       ⟨some 31, none, .mv (.s 6), .none⟩,
       ⟨some 32, none, .mv (.s 7), .none⟩,
       ⟨some 33, none, .is (.s 31) (.s 32) 6, .none⟩,
       ⟨some 34, none, .fa (.s 33) 5, .none⟩,
       ⟨some 35, none, .ld (.s 34) 1 false, .none⟩,
       ⟨some 36, none, .call 33 [.s 35] 2, .none⟩,
       ⟨some 37, none, .is (.s 29) (.s 30) 6, .none⟩,
       ⟨some 38, none, .fa (.s 37) 5, .none⟩,
       ⟨none, none, .st (.s 38) (.s 36) 1, .none⟩])))
  (.reg [⟨some 39, none, .bin .add (.s 26) (.c (.d (.int .i64 1))), .none⟩,
     ⟨some 26, none, .mv (.s 39), .none⟩]))))
def lp16_0 : C := lb16_0
theorem u16_0 (c : Ev.Callee) (l : Ev.Looper) (s : St) : evC c l lp16_0 s = evC c l lb16_0 s := rfl
abbrev st16_0 (m : Nat) (s1 s6 s25 s26 : AV) (h : Heap) : St := ⟨m,[.unk,s1,.unk,.unk,.unk,.unk,s6,.unk,.unk,.unk,.unk,.unk,.unk,.unk,.unk,.unk,.unk,.unk,.unk,.unk,.unk,.unk,.unk,.unk,.unk,s25,s26,.unk,.unk,.unk,.unk,.unk,.unk,.unk,.unk,.unk,.unk,.unk,.unk,.unk,.unk,.unk,.unk,.unk,.unk,.unk,.unk,.unk,.unk,.unk,.unk,.unk,.unk,.unk,.unk,.unk,.unk,.unk,.unk,.unk,.unk,.unk,.unk,.unk,.unk,.unk,.unk,.unk,.unk,.unk,.unk,.unk,.unk,.unk,.unk,.unk,.unk,.unk,.unk,.unk,.unk,.unk,.unk,.unk,.unk,.unk],h⟩
@[go_sem] theorem ks16_0 (a b c d e f g h i j k l m n o p q r s t u v w x y z a0 a1 a2 a3 a4 a5 a6 a7 a8 a9 b0 b1 b2 b3 b4 b5 b6 b7 b8 b9 c0 c1 c2 c3 c4 c5 c6 c7 c8 c9 d0 d1 d2 d3 d4 d5 d6 d7 d8 d9 e0 e1 e2 e3 e4 e5 e6 e7 e8 e9 f0 f1 f2 f3 f4 f5 f6 f7 f8 f9 : AV) : keepS [1,6,25,26] [a,b,c,d,e,f,g,h,i,j,k,l,m,n,o,p,q,r,s,t,u,v,w,x,y,z,a0,a1,a2,a3,a4,a5,a6,a7,a8,a9,b0,b1,b2,b3,b4,b5,b6,b7,b8,b9,c0,c1,c2,c3,c4,c5,c6,c7,c8,c9,d0,d1,d2,d3,d4,d5,d6,d7,d8,d9,e0,e1,e2,e3,e4,e5,e6,e7,e8,e9,f0,f1,f2,f3,f4,f5,f6,f7,f8,f9] 0 = [.unk,b,.unk,.unk,.unk,.unk,g,.unk,.unk,.unk,.unk,.unk,.unk,.unk,.unk,.unk,.unk,.unk,.unk,.unk,.unk,.unk,.unk,.unk,.unk,z,a0,.unk,.unk,.unk,.unk,.unk,.unk,.unk,.unk,.unk,.unk,.unk,.unk,.unk,.unk,.unk,.unk,.unk,.unk,.unk,.unk,.unk,.unk,.unk,.unk,.unk,.unk,.unk,.unk,.unk,.unk,.unk,.unk,.unk,.unk,.unk,.unk,.unk,.unk,.unk,.unk,.unk,.unk,.unk,.unk,.unk,.unk,.unk,.unk,.unk,.unk,.unk,.unk,.unk,.unk,.unk,.unk,.unk,.unk,.unk] := rfl
@[go_sem] theorem ks16_1 (a b c d e f g h i j k l m n o p q r s t u v w x y z a0 a1 a2 a3 a4 a5 a6 a7 a8 a9 b0 b1 b2 b3 b4 b5 b6 b7 b8 b9 c0 c1 c2 c3 c4 c5 c6 c7 c8 c9 d0 d1 d2 d3 d4 d5 d6 d7 d8 d9 e0 e1 e2 e3 e4 e5 e6 e7 e8 e9 f0 f1 f2 f3 f4 f5 f6 f7 f8 f9 : AV) : keepS [1,6] [a,b,c,d,e,f,g,h,i,j,k,l,m,n,o,p,q,r,s,t,u,v,w,x,y,z,a0,a1,a2,a3,a4,a5,a6,a7,a8,a9,b0,b1,b2,b3,b4,b5,b6,b7,b8,b9,c0,c1,c2,c3,c4,c5,c6,c7,c8,c9,d0,d1,d2,d3,d4,d5,d6,d7,d8,d9,e0,e1,e2,e3,e4,e5,e6,e7,e8,e9,f0,f1,f2,f3,f4,f5,f6,f7,f8,f9] 0 = [.unk,b,.unk,.unk,.unk,.unk,g,.unk,.unk,.unk,.unk,.unk,.unk,.unk,.unk,.unk,.unk,.unk,.unk,.unk,.unk,.unk,.unk,.unk,.unk,.unk,.unk,.unk,.unk,.unk,.unk,.unk,.unk,.unk,.unk,.unk,.unk,.unk,.unk,.unk,.unk,.unk,.unk,.unk,.unk,.unk,.unk,.unk,.unk,.unk,.unk,.unk,.unk,.unk,.unk,.unk,.unk,.unk,.unk,.unk,.unk,.unk,.unk,.unk,.unk,.unk,.unk,.unk,.unk,.unk,.unk,.unk,.unk,.unk,.unk,.unk,.unk,.unk,.unk,.unk,.unk,.unk,.unk,.unk,.unk,.unk] := rfl
@[go_sem] theorem ks16_2 (a b c d e f g h i j k l m n o p q r s t u v w x y z a0 a1 a2 a3 a4 a5 a6 a7 a8 a9 b0 b1 b2 b3 b4 b5 b6 b7 b8 b9 c0 c1 c2 c3 c4 c5 c6 c7 c8 c9 d0 d1 d2 d3 d4 d5 d6 d7 d8 d9 e0 e1 e2 e3 e4 e5 e6 e7 e8 e9 f0 f1 f2 f3 f4 f5 f6 f7 f8 f9 : AV) : keepS [6,40,41,42] [a,b,c,d,e,f,g,h,i,j,k,l,m,n,o,p,q,r,s,t,u,v,w,x,y,z,a0,a1,a2,a3,a4,a5,a6,a7,a8,a9,b0,b1,b2,b3,b4,b5,b6,b7,b8,b9,c0,c1,c2,c3,c4,c5,c6,c7,c8,c9,d0,d1,d2,d3,d4,d5,d6,d7,d8,d9,e0,e1,e2,e3,e4,e5,e6,e7,e8,e9,f0,f1,f2,f3,f4,f5,f6,f7,f8,f9] 0 = [.unk,.unk,.unk,.unk,.unk,.unk,g,.unk,.unk,.unk,.unk,.unk,.unk,.unk,.unk,.unk,.unk,.unk,.unk,.unk,.unk,.unk,.unk,.unk,.unk,.unk,.unk,.unk,.unk,.unk,.unk,.unk,.unk,.unk,.unk,.unk,.unk,.unk,.unk,.unk,b4,b5,b6,.unk,.unk,.unk,.unk,.unk,.unk,.unk,.unk,.unk,.unk,.unk,.unk,.unk,.unk,.unk,.unk,.unk,.unk,.unk,.unk,.unk,.unk,.unk,.unk,.unk,.unk,.unk,.unk,.unk,.unk,.unk,.unk,.unk,.unk,.unk,.unk,.unk,.unk,.unk,.unk,.unk,.unk,.unk] := rfl
@[go_sem] theorem ks16_3 (a b c d e f g h i j k l m n o p q r s t u v w x y z a0 a1 a2 a3 a4 a5 a6 a7 a8 a9 b0 b1 b2 b3 b4 b5 b6 b7 b8 b9 c0 c1 c2 c3 c4 c5 c6 c7 c8 c9 d0 d1 d2 d3 d4 d5 d6 d7 d8 d9 e0 e1 e2 e3 e4 e5 e6 e7 e8 e9 f0 f1 f2 f3 f4 f5 f6 f7 f8 f9 : AV) : keepS [6] [a,b,c,d,e,f,g,h,i,j,k,l,m,n,o,p,q,r,s,t,u,v,w,x,y,z,a0,a1,a2,a3,a4,a5,a6,a7,a8,a9,b0,b1,b2,b3,b4,b5,b6,b7,b8,b9,c0,c1,c2,c3,c4,c5,c6,c7,c8,c9,d0,d1,d2,d3,d4,d5,d6,d7,d8,d9,e0,e1,e2,e3,e4,e5,e6,e7,e8,e9,f0,f1,f2,f3,f4,f5,f6,f7,f8,f9] 0 = [.unk,.unk,.unk,.unk,.unk,.unk,g,.unk,.unk,.unk,.unk,.unk,.unk,.unk,.unk,.unk,.unk,.unk,.unk,.unk,.unk,.unk,.unk,.unk,.unk,.unk,.unk,.unk,.unk,.unk,.unk,.unk,.unk,.unk,.unk,.unk,.unk,.unk,.unk,.unk,.unk,.unk,.unk,.unk,.unk,.unk,.unk,.unk,.unk,.unk,.unk,.unk,.unk,.unk,.unk,.unk,.unk,.unk,.unk,.unk,.unk,.unk,.unk,.unk,.unk,.unk,.unk,.unk,.unk,.unk,.unk,.unk,.unk,.unk,.unk,.unk,.unk,.unk,.unk,.unk,.unk,.unk,.unk,.unk,.unk,.unk] := rfl
@[go_sem] theorem ks16_4 (a b c d e f g h i j k l m n o p q r s t u v w x y z a0 a1 a2 a3 a4 a5 a6 a7 a8 a9 b0 b1 b2 b3 b4 b5 b6 b7 b8 b9 c0 c1 c2 c3 c4 c5 c6 c7 c8 c9 d0 d1 d2 d3 d4 d5 d6 d7 d8 d9 e0 e1 e2 e3 e4 e5 e6 e7 e8 e9 f0 f1 f2 f3 f4 f5 f6 f7 f8 f9 : AV) : keepS [4,5] [a,b,c,d,e,f,g,h,i,j,k,l,m,n,o,p,q,r,s,t,u,v,w,x,y,z,a0,a1,a2,a3,a4,a5,a6,a7,a8,a9,b0,b1,b2,b3,b4,b5,b6,b7,b8,b9,c0,c1,c2,c3,c4,c5,c6,c7,c8,c9,d0,d1,d2,d3,d4,d5,d6,d7,d8,d9,e0,e1,e2,e3,e4,e5,e6,e7,e8,e9,f0,f1,f2,f3,f4,f5,f6,f7,f8,f9] 0 = [.unk,.unk,.unk,.unk,e,f,.unk,.unk,.unk,.unk,.unk,.unk,.unk,.unk,.unk,.unk,.unk,.unk,.unk,.unk,.unk,.unk,.unk,.unk,.unk,.unk,.unk,.unk,.unk,.unk,.unk,.unk,.unk,.unk,.unk,.unk,.unk,.unk,.unk,.unk,.unk,.unk,.unk,.unk,.unk,.unk,.unk,.unk,.unk,.unk,.unk,.unk,.unk,.unk,.unk,.unk,.unk,.unk,.unk,.unk,.unk,.unk,.unk,.unk,.unk,.unk,.unk,.unk,.unk,.unk,.unk,.unk,.unk,.unk,.unk,.unk,.unk,.unk,.unk,.unk,.unk,.unk,.unk,.unk,.unk,.unk] := rfl
/-- spence/diff.Apply -/
def bd16 : C :=
  (.seq (.reg [⟨some 4, none, .mv (.c (.d .nils)), .one 6 true⟩,
      ⟨some 5, none, .mv (.c (.d (.int .i64 0))), .none⟩])
  (.seq (.seq (.reg [⟨some 14, none, .mv (.s 0), .none⟩,
       ⟨some 15, none, .call 15 [.s 14] 2, .none⟩,
       ⟨some 16, none, .un .not (.s 15), .none⟩,
       ⟨some 17, none, .mv (.s 16), .none⟩,
       ⟨some 18, some (17, false), .mv (.s 1), .none⟩,
       ⟨some 19, some (17, false), .call 31 [.s 18] 2, .none⟩,
       ⟨some 20, some (17, false), .un .not (.s 19), .none⟩,
       ⟨some 21, none, .pick (.s 17) (.c (.d (.bool true))) (.s 20), .none⟩])
   (.cond (.s 21)
    (.seq (.reg [⟨some 4, none, .mv (.c (.d .nils)), .one 6 true⟩,
        ⟨some 5, none, .mv (.c (.d (.int .i64 1))), .none⟩])
    (.ret none))
    .skip))
  (.seq (.reg [⟨some 22, none, .mv (.s 0), .none⟩,
      ⟨some 23, none, .call 32 [.s 22] 0, .none⟩,
      ⟨some 6, none, .mv (.s 23), .none⟩])
  (.seq (.seq (.reg [⟨some 24, none, .mv (.s 6), .none⟩,
       ⟨some 25, none, .len (.s 24), .none⟩,
       ⟨some 26, none, .mv (.c (.d (.int .i64 0))), .none⟩])
   (.block 0 (.loop [1, 6, 25, 26] lp16_0)))
  (.seq (.seq (.reg [⟨some 40, none, .mv (.s 1), .none⟩,
       ⟨some 41, none, .len (.s 40), .none⟩,
       ⟨some 42, none, .mv (.c (.d (.int .i64 0))), .none⟩])
   (.block 2 (.loop [6, 40, 41, 42] lp16_1)))
  (.seq (.reg [⟨some 80, none, .mv (.s 6), .none⟩,
      ⟨some 81, none, .call 37 [.s 80, .c (.clo (.func 38) [] [])] 1, .none⟩])
  (.seq (.seq (.reg [⟨some 82, none, .mv (.s 6), .none⟩,
       ⟨some 83, none, .call 15 [.s 82] 1, .none⟩,
       ⟨some 84, none, .un .not (.s 83), .none⟩])
   (.cond (.s 84)
    (.seq (.reg [⟨some 4, none, .mv (.c (.d .nils)), .one 6 true⟩,
        ⟨some 5, none, .mv (.c (.d (.int .i64 1))), .none⟩])
    (.ret none))
    .skip))
  (.seq (.reg [⟨some 85, none, .mv (.s 6), .none⟩,
      ⟨some 4, none, .mv (.s 85), .none⟩,
      ⟨some 5, none, .mv (.c (.d (.int .i64 0))), .none⟩])
  (.ret none)))))))))
def ir16 : F := { n := 86, res := [.tmp 4, .tmp 5], body := bd16 }
@[go_sem] theorem n16 : ir16.n = 86 := rfl
@[go_sem] theorem r16 : ir16.res = [.tmp 4, .tmp 5] := rfl
@[go_sem] theorem b16 : ir16.body = bd16 := rfl
def lb17_1 : C :=
  (.seq (.reg [⟨some 50, none, .bin .lss (.s 49) (.s 48), .none⟩])
  (.seq (.cond (.s 50)
    .skip
    (.exit 2 (some [0, 1, 13, 14])))
  (.seq (.block 3 (.seq (.reg [⟨some 51, none, .mv (.s 49), .none⟩,
        ⟨some 6, none, .mv (.s 51), .none⟩])
    (.seq (.drw [⟨some 52, none, .mv (.s 0), .none⟩,
        ⟨some 53, none, .mv (.s 5), .none⟩,
        ⟨some 54, none, .is (.s 52) (.s 53) 6, .none⟩,
        ⟨some 55, none, .fa (.s 54) 5, .none⟩,
        ⟨some 56, none, .ld (.s 55) 1 false, .none⟩,
        ⟨some 57, none, .mv (.s 6), .none⟩,
        ⟨some 58, none, .is (.s 56) (.s 57) 4, .none⟩,
        ⟨some 59, none, .ld (.s 58) 4 true, .none⟩,
        ⟨some 60, none, .mv (.s 1), .none⟩,
        ⟨some 61, none, .mv (.s 5), .none⟩,
        ⟨some 62, none, .is (.s 60) (.s 61) 6, .none⟩,
        ⟨some 63, none, .fa (.s 62) 5, .none⟩,
        ⟨some 64, none, .ld (.s 63) 1 false, .none⟩,
        ⟨some 65, none, .mv (.s 6), .none⟩,
        ⟨some 66, none, .is (.s 64) (.s 65) 4, .none⟩,
        ⟨some 67, none, .ld (.s 66) 4 true, .none⟩,
        ⟨some 68, none, .call 24 [.s 59, .s 67] 2, .none⟩,
        ⟨some 69, none, .un .not (.s 68), .none⟩]
       [[], [], [0, 1], [2], [3], [], [4, 5], [6], [], [], [8, 9], [10], [11], [], [12, 13], [14], [7, 15], [16]] [])
    (.cond (.s 69)
     (.seq (.reg [⟨some 4, none, .mv (.c (.d (.bool false))), .none⟩])
     (.ret (some [4])))
     .skip))))
  (.reg [⟨some 70, none, .bin .add (.s 49) (.c (.d (.int .i64 1))), .none⟩,
     ⟨some 49, none, .mv (.s 70), .none⟩]))))
def lp17_1 : C := lb17_1
theorem u17_1 (c : Ev.Callee) (l : Ev.Looper) (s : St) : evC c l lp17_1 s = evC c l lb17_1 s := rfl
abbrev st17_1 (m : Nat) (s0 s1 s5 s13 s14 s48 s49 : AV) (h : Heap) : St := ⟨m,[s0,s1,.unk,.unk,.unk,s5,.unk,.unk,.unk,.unk,.unk,.unk,.unk,s13,s14,.unk,.unk,.unk,.unk,.unk,.unk,.unk,.unk,.unk,.unk,.unk,.unk,.unk,.unk,.unk,.unk,.unk,.unk,.unk,.unk,.unk,.unk,.unk,.unk,.unk,.unk,.unk,.unk,.unk,.unk,.unk,.unk,.unk,s48,s49,.unk,.unk,.unk,.unk,.unk,.unk,.unk,.unk,.unk,.unk,.unk,.unk,.unk,.unk,.unk,.unk,.unk,.unk,.unk,.unk,.unk,.unk],h⟩
def lb17_0 : C :=
  (.seq (.reg [⟨some 15, none, .bin .lss (.s 14) (.s 13), .none⟩])
  (.seq (.cond (.s 15)
    .skip
    (.exit 0 (some [])))
  (.seq (.block 1 (.seq (.reg [⟨some 16, none, .mv (.s 14), .none⟩,
        ⟨some 5, none, .mv (.s 16), .none⟩])
    (.seq (.seq (.drw [⟨some 17, none, .mv (.s 0), .none⟩,
         ⟨some 18, none, .mv (.s 5), .none⟩,
         ⟨some 19, none, .is (.s 17) (.s 18) 6, .none⟩,
         ⟨some 20, none, .fa (.s 19) 0, .none⟩,
         ⟨some 21, none, .ld (.s 20) 5 true, .none⟩,
         ⟨some 22, none, .mv (.s 1), .none⟩,
         ⟨some 23, none, .mv (.s 5), .none⟩,
         ⟨some 24, none, .is (.s 22) (.s 23) 6, .none⟩,
         ⟨some 25, none, .fa (.s 24) 0, .none⟩,
         ⟨some 26, none, .ld (.s 25) 5 true, .none⟩,
         ⟨some 27, none, .eqs true [1, 1, 2, 1, 1] (.s 21) (.s 26), .none⟩,
         ⟨some 28, none, .mv (.s 27), .none⟩,
         ⟨some 29, some (28, false), .mv (.s 0), .none⟩,
         ⟨some 30, some (28, false), .mv (.s 5), .none⟩,
         ⟨some 31, some (28, false), .is (.s 29) (.s 30) 6, .none⟩,
         ⟨some 32, some (28, false), .fa (.s 31) 5, .none⟩,
         ⟨some 33, some (28, false), .ld (.s 32) 1 false, .none⟩,
         ⟨some 34, some (28, false), .len (.s 33), .none⟩,
         ⟨some 35, some (28, false), .mv (.s 1), .none⟩,
         ⟨some 36, some (28, false), .mv (.s 5), .none⟩,
         ⟨some 37, some (28, false), .is (.s 35) (.s 36) 6, .none⟩,
         ⟨some 38, some (28, false), .fa (.s 37) 5, .none⟩,
         ⟨some 39, some (28, false), .ld (.s 38) 1 false, .none⟩,
         ⟨some 40, some (28, false), .len (.s 39), .none⟩,
         ⟨some 41, some (28, false), .bin .neq (.s 34) (.s 40), .none⟩,
         ⟨some 42, none, .pick (.s 28) (.c (.d (.bool true))) (.s 41), .none⟩]
        [[], [], [0, 1], [2], [3], [], [], [5, 6], [7], [8], [4, 9], [10], [11], [11], [12, 13, 11], [14, 11], [15, 11], [16, 11], [11], [11], [18, 19, 11], [20, 11], [21, 11], [22, 11], [17, 23, 11], [11, 24]] [])
     (.cond (.s 42)
      (.seq (.reg [⟨some 4, none, .mv (.c (.d (.bool false))), .none⟩])
      (.ret (some [4])))
      .skip))
    (.seq (.reg [⟨some 43, none, .mv (.s 0), .none⟩,
        ⟨some 44, none, .mv (.s 5), .none⟩,
        ⟨some 45, none, .is (.s 43) (.s 44) 6, .none⟩,
        ⟨some 46, none, .fa (.s 45) 5, .none⟩,
        ⟨some 47, none, .ld (.s 46) 1 false, .none⟩,
        ⟨some 48, none, .len (.s 47), .none⟩,
        ⟨some 49, none, .mv (.c (.d (.int .i64 0))), .none⟩])
    (.block 2 (.loop [0, 1, 5, 13, 14, 48, 49] lp17_1))))))
  (.reg [⟨some 71, none, .bin .add (.s 14) (.c (.d (.int .i64 1))), .none⟩,
     ⟨some 14, none, .mv (.s 71), .none⟩]))))
def lp17_0 : C := lb17_0
theorem u17_0 (c : Ev.Callee) (l : Ev.Looper) (s : St) : evC c l lp17_0 s = evC c l lb17_0 s := rfl
abbrev st17_0 (m : Nat) (s0 s1 s13 s14 : AV) (h : Heap) : St := ⟨m,[s0,s1,.unk,.unk,.unk,.unk,.unk,.unk,.unk,.unk,.unk,.unk,.unk,s13,s14,.unk,.unk,.unk,.unk,.unk,.unk,.unk,.unk,.unk,.unk,.unk,.unk,.unk,.unk,.unk,.unk,.unk,.unk,.unk,.unk,.unk,.unk,.unk,.unk,.unk,.unk,.unk,.unk,.unk,.unk,.unk,.unk,.unk,.unk,.unk,.unk,.unk,.unk,.unk,.unk,.unk,.unk,.unk,.unk,.unk,.unk,.unk,.unk,.unk,.unk,.unk,.unk,.unk,.unk,.unk,.unk,.unk],h⟩
@[go_sem] theorem ks17_0 (a b c d e f g h i j k l m n o p q r s t u v w x y z a0 a1 a2 a3 a4 a5 a6 a7 a8 a9 b0 b1 b2 b3 b4 b5 b6 b7 b8 b9 c0 c1 c2 c3 c4 c5 c6 c7 c8 c9 d0 d1 d2 d3 d4 d5 d6 d7 d8 d9 e0 e1 e2 e3 e4 e5 : AV) : keepS [0,1,13,14] [a,b,c,d,e,f,g,h,i,j,k,l,m,n,o,p,q,r,s,t,u,v,w,x,y,z,a0,a1,a2,a3,a4,a5,a6,a7,a8,a9,b0,b1,b2,b3,b4,b5,b6,b7,b8,b9,c0,c1,c2,c3,c4,c5,c6,c7,c8,c9,d0,d1,d2,d3,d4,d5,d6,d7,d8,d9,e0,e1,e2,e3,e4,e5] 0 = [a,b,.unk,.unk,.unk,.unk,.unk,.unk,.unk,.unk,.unk,.unk,.unk,n,o,.unk,.unk,.unk,.unk,.unk,.unk,.unk,.unk,.unk,.unk,.unk,.unk,.unk,.unk,.unk,.unk,.unk,.unk,.unk,.unk,.unk,.unk,.unk,.unk,.unk,.unk,.unk,.unk,.unk,.unk,.unk,.unk,.unk,.unk,.unk,.unk,.unk,.unk,.unk,.unk,.unk,.unk,.unk,.unk,.unk,.unk,.unk,.unk,.unk,.unk,.unk,.unk,.unk,.unk,.unk,.unk,.unk] := rfl
@[go_sem] theorem ks17_1 (a b c d e f g h i j k l m n o p q r s t u v w x y z a0 a1 a2 a3 a4 a5 a6 a7 a8 a9 b0 b1 b2 b3 b4 b5 b6 b7 b8 b9 c0 c1 c2 c3 c4 c5 c6 c7 c8 c9 d0 d1 d2 d3 d4 d5 d6 d7 d8 d9 e0 e1 e2 e3 e4 e5 : AV) : keepS [] [a,b,c,d,e,f,g,h,i,j,k,l,m,n,o,p,q,r,s,t,u,v,w,x,y,z,a0,a1,a2,a3,a4,a5,a6,a7,a8,a9,b0,b1,b2,b3,b4,b5,b6,b7,b8,b9,c0,c1,c2,c3,c4,c5,c6,c7,c8,c9,d0,d1,d2,d3,d4,d5,d6,d7,d8,d9,e0,e1,e2,e3,e4,e5] 0 = [.unk,.unk,.unk,.unk,.unk,.unk,.unk,.unk,.unk,.unk,.unk,.unk,.unk,.unk,.unk,.unk,.unk,.unk,.unk,.unk,.unk,.unk,.unk,.unk,.unk,.unk,.unk,.unk,.unk,.unk,.unk,.unk,.unk,.unk,.unk,.unk,.unk,.unk,.unk,.unk,.unk,.unk,.unk,.unk,.unk,.unk,.unk,.unk,.unk,.unk,.unk,.unk,.unk,.unk,.unk,.unk,.unk,.unk,.unk,.unk,.unk,.unk,.unk,.unk,.unk,.unk,.unk,.unk,.unk,.unk,.unk,.unk] := rfl
@[go_sem] theorem ks17_2 (a b c d e f g h i j k l m n o p q r s t u v w x y z a0 a1 a2 a3 a4 a5 a6 a7 a8 a9 b0 b1 b2 b3 b4 b5 b6 b7 b8 b9 c0 c1 c2 c3 c4 c5 c6 c7 c8 c9 d0 d1 d2 d3 d4 d5 d6 d7 d8 d9 e0 e1 e2 e3 e4 e5 : AV) : keepS [4] [a,b,c,d,e,f,g,h,i,j,k,l,m,n,o,p,q,r,s,t,u,v,w,x,y,z,a0,a1,a2,a3,a4,a5,a6,a7,a8,a9,b0,b1,b2,b3,b4,b5,b6,b7,b8,b9,c0,c1,c2,c3,c4,c5,c6,c7,c8,c9,d0,d1,d2,d3,d4,d5,d6,d7,d8,d9,e0,e1,e2,e3,e4,e5] 0 = [.unk,.unk,.unk,.unk,e,.unk,.unk,.unk,.unk,.unk,.unk,.unk,.unk,.unk,.unk,.unk,.unk,.unk,.unk,.unk,.unk,.unk,.unk,.unk,.unk,.unk,.unk,.unk,.unk,.unk,.unk,.unk,.unk,.unk,.unk,.unk,.unk,.unk,.unk,.unk,.unk,.unk,.unk,.unk,.unk,.unk,.unk,.unk,.unk,.unk,.unk,.unk,.unk,.unk,.unk,.unk,.unk,.unk,.unk,.unk,.unk,.unk,.unk,.unk,.unk,.unk,.unk,.unk,.unk,.unk,.unk,.unk] := rfl
@[go_sem] theorem ks17_3 (a b c d e f g h i j k l m n o p q r s t u v w x y z a0 a1 a2 a3 a4 a5 a6 a7 a8 a9 b0 b1 b2 b3 b4 b5 b6 b7 b8 b9 c0 c1 c2 c3 c4 c5 c6 c7 c8 c9 d0 d1 d2 d3 d4 d5 d6 d7 d8 d9 e0 e1 e2 e3 e4 e5 : AV) : keepS [0,1,5,13,14,48,49] [a,b,c,d,e,f,g,h,i,j,k,l,m,n,o,p,q,r,s,t,u,v,w,x,y,z,a0,a1,a2,a3,a4,a5,a6,a7,a8,a9,b0,b1,b2,b3,b4,b5,b6,b7,b8,b9,c0,c1,c2,c3,c4,c5,c6,c7,c8,c9,d0,d1,d2,d3,d4,d5,d6,d7,d8,d9,e0,e1,e2,e3,e4,e5] 0 = [a,b,.unk,.unk,.unk,f,.unk,.unk,.unk,.unk,.unk,.unk,.unk,n,o,.unk,.unk,.unk,.unk,.unk,.unk,.unk,.unk,.unk,.unk,.unk,.unk,.unk,.unk,.unk,.unk,.unk,.unk,.unk,.unk,.unk,.unk,.unk,.unk,.unk,.unk,.unk,.unk,.unk,.unk,.unk,.unk,.unk,c2,c3,.unk,.unk,.unk,.unk,.unk,.unk,.unk,.unk,.unk,.unk,.unk,.unk,.unk,.unk,.unk,.unk,.unk,.unk,.unk,.unk,.unk,.unk] := rfl
/-- spence/spencelaw48.like -/
def bd17 : C :=
  (.seq (.reg [⟨some 4, none, .mv (.c (.d (.bool false))), .none⟩])
  (.seq (.seq (.reg [⟨some 7, none, .mv (.s 0), .none⟩,
       ⟨some 8, none, .len (.s 7), .none⟩,
       ⟨some 9, none, .mv (.s 1), .none⟩,
       ⟨some 10, none, .len (.s 9), .none⟩,
       ⟨some 11, none, .bin .neq (.s 8) (.s 10), .none⟩])
   (.cond (.s 11)
    (.seq (.reg [⟨some 4, none, .mv (.c (.d (.bool false))), .none⟩])
    (.ret none))
    .skip))
  (.seq (.seq (.reg [⟨some 12, none, .mv (.s 0), .none⟩,
       ⟨some 13, none, .len (.s 12), .none⟩,
       ⟨some 14, none, .mv (.c (.d (.int .i64 0))), .none⟩])
   (.block 0 (.loop [0, 1, 13, 14] lp17_0)))
  (.seq (.reg [⟨some 4, none, .mv (.c (.d (.bool true))), .none⟩])
  (.ret none)))))
def ir17 : F := { n := 72, res := [.tmp 4], body := bd17 }
@[go_sem] theorem n17 : ir17.n = 72 := rfl
@[go_sem] theorem r17 : ir17.res = [.tmp 4] := rfl
@[go_sem] theorem b17 : ir17.body = bd17 := rfl
/-- spence/diff.find -/
def bd18 : C :=
  (.seq (.reg [⟨some 3, none, .box 3 (.s 1), .none⟩,
      ⟨some 4, none, .alloc 34 [.int .i64 0, .int .i64 0, .str [], .int .i64 0, .int .i64 0, .nils], .cells [(5, 4, false)]⟩,
      ⟨some 5, none, .mv (.c (.d (.bool false))), .none⟩])
  (.seq (.reg [⟨some 8, none, .fn (.func 39) [] [.s 3], .none⟩,
      ⟨some 6, none, .mv (.s 8), .none⟩])
  (.seq (.reg [⟨some 9, none, .mv (.s 0), .none⟩,
      ⟨some 10, none, .mv (.s 6), .none⟩,
      ⟨some 11, none, .call 40 [.s 9, .s 10] 1, .none⟩,
      ⟨some 7, none, .mv (.s 11), .none⟩])
  (.seq (.seq (.reg [⟨some 12, none, .mv (.s 7), .none⟩,
       ⟨some 13, none, .bin .lss (.s 12) (.c (.d (.int .i64 0))), .none⟩])
   (.cond (.s 13)
    (.seq (.reg [⟨some 14, none, .build [.int .i64 0, .int .i64 0, .str [], .int .i64 0, .int .i64 0, .nils] [], .cells [(5, 4, false)]⟩,
        ⟨none, none, .st (.s 4) (.s 14) 6, .none⟩,
        ⟨some 5, none, .mv (.c (.d (.bool false))), .none⟩])
    (.ret none))
    .skip))
  (.seq (.reg [⟨some 15, none, .mv (.s 0), .none⟩,
      ⟨some 16, none, .mv (.s 7), .none⟩,
      ⟨some 17, none, .is (.s 15) (.s 16) 6, .none⟩,
      ⟨some 18, none, .ld (.s 17) 6 true, .none⟩,
      ⟨none, none, .st (.s 4) (.s 18) 6, .none⟩,
      ⟨some 5, none, .mv (.c (.d (.bool true))), .none⟩])
  (.ret none))))))
def ir18 : F := { n := 19, res := [.cell 4 6 true, .tmp 5], body := bd18 }
@[go_sem] theorem n18 : ir18.n = 19 := rfl
@[go_sem] theorem r18 : ir18.res = [.cell 4 6 true, .tmp 5] := rfl
@[go_sem] theorem b18 : ir18.body = bd18 := rfl
def lb19_1 : C :=
  (.seq (.reg [⟨some 91, none, .bin .lss (.s 90) (.s 89), .none⟩])
  (.seq (.cond (.s 91)
    .skip
    (.exit 2 (some [6, 7])))
  (.seq (.block 3 (.seq (.reg [⟨some 92, none, .is (.s 88) (.s 90) 4, .none⟩,
        ⟨some 93, none, .ld (.s 92) 4 true, .none⟩,
        ⟨some 15, none, .alloc 39 [.int .i64 0, .int .i64 0, .int .i64 0, .nils], .cells [(3, 1, false)]⟩,
        ⟨none, none, .st (.s 15) (.s 93) 4, .none⟩])
    (.seq (.reg [⟨some 95, none, .mv (.s 9), .none⟩,
        ⟨some 96, none, .fa (.s 15) 2, .none⟩,
        ⟨some 97, none, .ld (.s 96) 1 false, .none⟩,
        ⟨some 98, none, .mget (.s 95) (.s 97) (.agg [.d (.int .i64 0), .d (.int .i64 0), .d (.int .i64 0), .d .nils]) true, .none⟩,
        ⟨some 94, none, .mv (.s 98), .none⟩,
        ⟨some 99, none, .ext (.s 94) 0, .none⟩,
        ⟨some 100, none, .ext (.s 94) 1, .none⟩,
        ⟨some 16, none, .alloc 39 [.int .i64 0, .int .i64 0, .int .i64 0, .nils], .cells [(3, 1, false)]⟩,
        ⟨none, none, .st (.s 16) (.s 99) 4, .none⟩,
        ⟨some 17, none, .mv (.s 100), .none⟩])
    (.seq (.reg [⟨some 101, none, .mv (.s 17), .none⟩,
        ⟨some 102, none, .un .not (.s 101), .none⟩])
    (.cond (.s 102)
     (.reg [⟨some 103, none, .fa (.s 7) 9, .none⟩,
        ⟨some 104, none, .ld (.s 103) 1 false, .none⟩,
        ⟨some 105, none, .fa (.s 15) 2, .none⟩,
        ⟨some 106, none, .ld (.s 105) 1 false, .none⟩,
        ⟨some 107, none, .bsl 3 1 1 [.int .i64 0] [(0, (1, .s 106))], .none⟩,
        ⟨some 108, none, .app 3 1 8 (.s 104) (.s 107), .none⟩,
        ⟨some 109, none, .fa (.s 7) 9, .none⟩,
        ⟨none, none, .st (.s 109) (.s 108) 1, .none⟩])
     .skip)))))
  (.reg [⟨some 110, none, .bin .add (.s 90) (.c (.d (.int .i64 1))), .none⟩,
     ⟨some 90, none, .mv (.s 110), .none⟩]))))
def lp19_1 : C := lb19_1
theorem u19_1 (c : Ev.Callee) (l : Ev.Looper) (s : St) : evC c l lp19_1 s = evC c l lb19_1 s := rfl
abbrev st19_1 (m : Nat) (s6 s7 s9 s88 s89 s90 : AV) (h : Heap) : St := ⟨m,[.unk,.unk,.unk,.unk,.unk,.unk,s6,s7,.unk,s9,.unk,.unk,.unk,.unk,.unk,.unk,.unk,.unk,.unk,.unk,.unk,.unk,.unk,.unk,.unk,.unk,.unk,.unk,.unk,.unk,.unk,.unk,.unk,.unk,.unk,.unk,.unk,.unk,.unk,.unk,.unk,.unk,.unk,.unk,.unk,.unk,.unk,.unk,.unk,.unk,.unk,.unk,.unk,.unk,.unk,.unk,.unk,.unk,.unk,.unk,.unk,.unk,.unk,.unk,.unk,.unk,.unk,.unk,.unk,.unk,.unk,.unk,.unk,.unk,.unk,.unk,.unk,.unk,.unk,.unk,.unk,.unk,.unk,.unk,.unk,.unk,.unk,.unk,s88,s89,s90,.unk,.unk,.unk,.unk,.unk,.unk,.unk,.unk,.unk,.unk,.unk,.unk,.unk,.unk,.unk,.unk,.unk,.unk,.unk,.unk,.unk],h⟩
def lb19_0 : C :=
  (.seq (.reg [⟨some 61, none, .bin .lss (.s 60) (.s 59), .none⟩])
  (.seq (.cond (.s 61)
    .skip
    (.exit 0 (some [3, 6, 7, 9])))
  (.seq (.block 1 (.seq (.reg [⟨some 62, none, .is (.s 58) (.s 60) 4, .none⟩,
        ⟨some 63, none, .ld (.s 62) 4 true, .none⟩,
        ⟨some 11, none, .alloc 39 [.int .i64 0, .int .i64 0, .int .i64 0, .nils], .cells [(3, 1, false)]⟩,
        ⟨none, none, .st (.s 11) (.s 63) 4, .none⟩])
    (.seq (.reg [⟨some 65, none, .mv (.s 8), .none⟩,
        ⟨some 66, none, .fa (.s 11) 2, .none⟩,
        ⟨some 67, none, .ld (.s 66) 1 false, .none⟩,
        ⟨some 68, none, .mget (.s 65) (.s 67) (.agg [.d (.int .i64 0), .d (.int .i64 0), .d (.int .i64 0), .d .nils]) true, .none⟩,
        ⟨some 64, none, .mv (.s 68), .none⟩,
        ⟨some 69, none, .ext (.s 64) 0, .none⟩,
        ⟨some 70, none, .ext (.s 64) 1, .none⟩,
        ⟨some 12, none, .alloc 39 [.int .i64 0, .int .i64 0, .int .i64 0, .nils], .cells [(3, 1, false)]⟩,
        ⟨none, none, .st (.s 12) (.s 69) 4, .none⟩,
        ⟨some 13, none, .mv (.s 70), .none⟩])
    (.seq (.reg [⟨some 71, none, .mv (.s 13), .none⟩,
        ⟨some 72, none, .un .not (.s 71), .none⟩,
        ⟨some 73, none, .mv (.s 72), .none⟩,
        ⟨some 74, some (73, false), .ld (.s 11) 4 true, .none⟩,
        ⟨some 75, some (73, false), .ld (.s 12) 4 true, .none⟩,
        ⟨some 76, some (73, false), .call 28 [.s 74, .s 75] 2, .none⟩,
        ⟨some 77, some (73, false), .un .not (.s 76), .none⟩,
        ⟨some 78, none, .pick (.s 73) (.c (.d (.bool true))) (.s 77), .none⟩])
    (.cond (.s 78)
     (.drw [⟨some 79, none, .fa (.s 7) 8, .none⟩,
        ⟨some 80, none, .ld (.s 79) 1 false, .none⟩,
        ⟨some 81, none, .ld (.s 11) 4 true, .none⟩,
        ⟨some 82, none, .bsl 39 4 1 [.int .i64 0, .int .i64 0, .int .i64 0, .nils] [(0, (4, .s 81))], .dat⟩,
        ⟨some 83, none, .call 33 [.s 82] 2, .none⟩,
        ⟨some 84, none, .app 39 4 48 (.s 80) (.s 83), .none⟩,
        ⟨some 85, none, .fa (.s 7) 8, .none⟩,
        ⟨none, none, .st (.s 85) (.s 84) 1, .none⟩]
       [[], [0], [], [2], [3], [1, 4, 4], [0, 1, 2, 3, 4, 5], [6, 5, 5, 0, 1, 2, 3, 4, 5]] [])
     .skip)))))
  (.reg [⟨some 86, none, .bin .add (.s 60) (.c (.d (.int .i64 1))), .none⟩,
     ⟨some 60, none, .mv (.s 86), .none⟩]))))
def lp19_0 : C := lb19_0
theorem u19_0 (c : Ev.Callee) (l : Ev.Looper) (s : St) : evC c l lp19_0 s = evC c l lb19_0 s := rfl
abbrev st19_0 (m : Nat) (s3 s6 s7 s8 s9 s58 s59 s60 : AV) (h : Heap) : St := ⟨m,[.unk,.unk,.unk,s3,.unk,.unk,s6,s7,s8,s9,.unk,.unk,.unk,.unk,.unk,.unk,.unk,.unk,.unk,.unk,.unk,.unk,.unk,.unk,.unk,.unk,.unk,.unk,.unk,.unk,.unk,.unk,.unk,.unk,.unk,.unk,.unk,.unk,.unk,.unk,.unk,.unk,.unk,.unk,.unk,.unk,.unk,.unk,.unk,.unk,.unk,.unk,.unk,.unk,.unk,.unk,.unk,.unk,s58,s59,s60,.unk,.unk,.unk,.unk,.unk,.unk,.unk,.unk,.unk,.unk,.unk,.unk,.unk,.unk,.unk,.unk,.unk,.unk,.unk,.unk,.unk,.unk,.unk,.unk,.unk,.unk,.unk,.unk,.unk,.unk,.unk,.unk,.unk,.unk,.unk,.unk,.unk,.unk,.unk,.unk,.unk,.unk,.unk,.unk,.unk,.unk,.unk,.unk,.unk,.unk,.unk],h⟩
@[go_sem] theorem ks19_0 (a b c d e f g h i j k l m n o p q r s t u v w x y z a0 a1 a2 a3 a4 a5 a6 a7 a8 a9 b0 b1 b2 b3 b4 b5 b6 b7 b8 b9 c0 c1 c2 c3 c4 c5 c6 c7 c8 c9 d0 d1 d2 d3 d4 d5 d6 d7 d8 d9 e0 e1 e2 e3 e4 e5 e6 e7 e8 e9 f0 f1 f2 f3 f4 f5 f6 f7 f8 f9 g0 g1 g2 g3 g4 g5 g6 g7 g8 g9 h0 h1 h2 h3 h4 h5 h6 h7 h8 h9 i0 i1 i2 i3 i4 i5 : AV) : keepS [2,3,4,6,7] [a,b,c,d,e,f,g,h,i,j,k,l,m,n,o,p,q,r,s,t,u,v,w,x,y,z,a0,a1,a2,a3,a4,a5,a6,a7,a8,a9,b0,b1,b2,b3,b4,b5,b6,b7,b8,b9,c0,c1,c2,c3,c4,c5,c6,c7,c8,c9,d0,d1,d2,d3,d4,d5,d6,d7,d8,d9,e0,e1,e2,e3,e4,e5,e6,e7,e8,e9,f0,f1,f2,f3,f4,f5,f6,f7,f8,f9,g0,g1,g2,g3,g4,g5,g6,g7,g8,g9,h0,h1,h2,h3,h4,h5,h6,h7,h8,h9,i0,i1,i2,i3,i4,i5] 0 = [.unk,.unk,c,d,e,.unk,g,h,.unk,.unk,.unk,.unk,.unk,.unk,.unk,.unk,.unk,.unk,.unk,.unk,.unk,.unk,.unk,.unk,.unk,.unk,.unk,.unk,.unk,.unk,.unk,.unk,.unk,.unk,.unk,.unk,.unk,.unk,.unk,.unk,.unk,.unk,.unk,.unk,.unk,.unk,.unk,.unk,.unk,.unk,.unk,.unk,.unk,.unk,.unk,.unk,.unk,.unk,.unk,.unk,.unk,.unk,.unk,.unk,.unk,.unk,.unk,.unk,.unk,.unk,.unk,.unk,.unk,.unk,.unk,.unk,.unk,.unk,.unk,.unk,.unk,.unk,.unk,.unk,.unk,.unk,.unk,.unk,.unk,.unk,.unk,.unk,.unk,.unk,.unk,.unk,.unk,.unk,.unk,.unk,.unk,.unk,.unk,.unk,.unk,.unk,.unk,.unk,.unk,.unk,.unk,.unk] := rfl
@[go_sem] theorem ks19_1 (a b c d e f g h i j k l m n o p q r s t u v w x y z a0 a1 a2 a3 a4 a5 a6 a7 a8 a9 b0 b1 b2 b3 b4 b5 b6 b7 b8 b9 c0 c1 c2 c3 c4 c5 c6 c7 c8 c9 d0 d1 d2 d3 d4 d5 d6 d7 d8 d9 e0 e1 e2 e3 e4 e5 e6 e7 e8 e9 f0 f1 f2 f3 f4 f5 f6 f7 f8 f9 g0 g1 g2 g3 g4 g5 g6 g7 g8 g9 h0 h1 h2 h3 h4 h5 h6 h7 h8 h9 i0 i1 i2 i3 i4 i5 : AV) : keepS [3,6,7,8,9,58,59,60] [a,b,c,d,e,f,g,h,i,j,k,l,m,n,o,p,q,r,s,t,u,v,w,x,y,z,a0,a1,a2,a3,a4,a5,a6,a7,a8,a9,b0,b1,b2,b3,b4,b5,b6,b7,b8,b9,c0,c1,c2,c3,c4,c5,c6,c7,c8,c9,d0,d1,d2,d3,d4,d5,d6,d7,d8,d9,e0,e1,e2,e3,e4,e5,e6,e7,e8,e9,f0,f1,f2,f3,f4,f5,f6,f7,f8,f9,g0,g1,g2,g3,g4,g5,g6,g7,g8,g9,h0,h1,h2,h3,h4,h5,h6,h7,h8,h9,i0,i1,i2,i3,i4,i5] 0 = [.unk,.unk,.unk,d,.unk,.unk,g,h,i,j,.unk,.unk,.unk,.unk,.unk,.unk,.unk,.unk,.unk,.unk,.unk,.unk,.unk,.unk,.unk,.unk,.unk,.unk,.unk,.unk,.unk,.unk,.unk,.unk,.unk,.unk,.unk,.unk,.unk,.unk,.unk,.unk,.unk,.unk,.unk,.unk,.unk,.unk,.unk,.unk,.unk,.unk,.unk,.unk,.unk,.unk,.unk,.unk,d2,d3,d4,.unk,.unk,.unk,.unk,.unk,.unk,.unk,.unk,.unk,.unk,.unk,.unk,.unk,.unk,.unk,.unk,.unk,.unk,.unk,.unk,.unk,.unk,.unk,.unk,.unk,.unk,.unk,.unk,.unk,.unk,.unk,.unk,.unk,.unk,.unk,.unk,.unk,.unk,.unk,.unk,.unk,.unk,.unk,.unk,.unk,.unk,.unk,.unk,.unk,.unk,.unk] := rfl
@[go_sem] theorem ks19_2 (a b c d e f g h i j k l m n o p q r s t u v w x y z a0 a1 a2 a3 a4 a5 a6 a7 a8 a9 b0 b1 b2 b3 b4 b5 b6 b7 b8 b9 c0 c1 c2 c3 c4 c5 c6 c7 c8 c9 d0 d1 d2 d3 d4 d5 d6 d7 d8 d9 e0 e1 e2 e3 e4 e5 e6 e7 e8 e9 f0 f1 f2 f3 f4 f5 f6 f7 f8 f9 g0 g1 g2 g3 g4 g5 g6 g7 g8 g9 h0 h1 h2 h3 h4 h5 h6 h7 h8 h9 i0 i1 i2 i3 i4 i5 : AV) : keepS [3,6,7,9] [a,b,c,d,e,f,g,h,i,j,k,l,m,n,o,p,q,r,s,t,u,v,w,x,y,z,a0,a1,a2,a3,a4,a5,a6,a7,a8,a9,b0,b1,b2,b3,b4,b5,b6,b7,b8,b9,c0,c1,c2,c3,c4,c5,c6,c7,c8,c9,d0,d1,d2,d3,d4,d5,d6,d7,d8,d9,e0,e1,e2,e3,e4,e5,e6,e7,e8,e9,f0,f1,f2,f3,f4,f5,f6,f7,f8,f9,g0,g1,g2,g3,g4,g5,g6,g7,g8,g9,h0,h1,h2,h3,h4,h5,h6,h7,h8,h9,i0,i1,i2,i3,i4,i5] 0 = [.unk,.unk,.unk,d,.unk,.unk,g,h,.unk,j,.unk,.unk,.unk,.unk,.unk,.unk,.unk,.unk,.unk,.unk,.unk,.unk,.unk,.unk,.unk,.unk,.unk,.unk,.unk,.unk,.unk,.unk,.unk,.unk,.unk,.unk,.unk,.unk,.unk,.unk,.unk,.unk,.unk,.unk,.unk,.unk,.unk,.unk,.unk,.unk,.unk,.unk,.unk,.unk,.unk,.unk,.unk,.unk,.unk,.unk,.unk,.unk,.unk,.unk,.unk,.unk,.unk,.unk,.unk,.unk,.unk,.unk,.unk,.unk,.unk,.unk,.unk,.unk,.unk,.unk,.unk,.unk,.unk,.unk,.unk,.unk,.unk,.unk,.unk,.unk,.unk,.unk,.unk,.unk,.unk,.unk,.unk,.unk,.unk,.unk,.unk,.unk,.unk,.unk,.unk,.unk,.unk,.unk,.unk,.unk,.unk,.unk] := rfl
@[go_sem] theorem ks19_3 (a b c d e f g h i j k l m n o p q r s t u v w x y z a0 a1 a2 a3 a4 a5 a6 a7 a8 a9 b0 b1 b2 b3 b4 b5 b6 b7 b8 b9 c0 c1 c2 c3 c4 c5 c6 c7 c8 c9 d0 d1 d2 d3 d4 d5 d6 d7 d8 d9 e0 e1 e2 e3 e4 e5 e6 e7 e8 e9 f0 f1 f2 f3 f4 f5 f6 f7 f8 f9 g0 g1 g2 g3 g4 g5 g6 g7 g8 g9 h0 h1 h2 h3 h4 h5 h6 h7 h8 h9 i0 i1 i2 i3 i4 i5 : AV) : keepS [6,7,9,88,89,90] [a,b,c,d,e,f,g,h,i,j,k,l,m,n,o,p,q,r,s,t,u,v,w,x,y,z,a0,a1,a2,a3,a4,a5,a6,a7,a8,a9,b0,b1,b2,b3,b4,b5,b6,b7,b8,b9,c0,c1,c2,c3,c4,c5,c6,c7,c8,c9,d0,d1,d2,d3,d4,d5,d6,d7,d8,d9,e0,e1,e2,e3,e4,e5,e6,e7,e8,e9,f0,f1,f2,f3,f4,f5,f6,f7,f8,f9,g0,g1,g2,g3,g4,g5,g6,g7,g8,g9,h0,h1,h2,h3,h4,h5,h6,h7,h8,h9,i0,i1,i2,i3,i4,i5] 0 = [.unk,.unk,.unk,.unk,.unk,.unk,g,h,.unk,j,.unk,.unk,.unk,.unk,.unk,.unk,.unk,.unk,.unk,.unk,.unk,.unk,.unk,.unk,.unk,.unk,.unk,.unk,.unk,.unk,.unk,.unk,.unk,.unk,.unk,.unk,.unk,.unk,.unk,.unk,.unk,.unk,.unk,.unk,.unk,.unk,.unk,.unk,.unk,.unk,.unk,.unk,.unk,.unk,.unk,.unk,.unk,.unk,.unk,.unk,.unk,.unk,.unk,.unk,.unk,.unk,.unk,.unk,.unk,.unk,.unk,.unk,.unk,.unk,.unk,.unk,.unk,.unk,.unk,.unk,.unk,.unk,.unk,.unk,.unk,.unk,.unk,.unk,g2,g3,g4,.unk,.unk,.unk,.unk,.unk,.unk,.unk,.unk,.unk,.unk,.unk,.unk,.unk,.unk,.unk,.unk,.unk,.unk,.unk,.unk,.unk] := rfl
@[go_sem] theorem ks19_4 (a b c d e f g h i j k l m n o p q r s t u v w x y z a0 a1 a2 a3 a4 a5 a6 a7 a8 a9 b0 b1 b2 b3 b4 b5 b6 b7 b8 b9 c0 c1 c2 c3 c4 c5 c6 c7 c8 c9 d0 d1 d2 d3 d4 d5 d6 d7 d8 d9 e0 e1 e2 e3 e4 e5 e6 e7 e8 e9 f0 f1 f2 f3 f4 f5 f6 f7 f8 f9 g0 g1 g2 g3 g4 g5 g6 g7 g8 g9 h0 h1 h2 h3 h4 h5 h6 h7 h8 h9 i0 i1 i2 i3 i4 i5 : AV) : keepS [6,7] [a,b,c,d,e,f,g,h,i,j,k,l,m,n,o,p,q,r,s,t,u,v,w,x,y,z,a0,a1,a2,a3,a4,a5,a6,a7,a8,a9,b0,b1,b2,b3,b4,b5,b6,b7,b8,b9,c0,c1,c2,c3,c4,c5,c6,c7,c8,c9,d0,d1,d2,d3,d4,d5,d6,d7,d8,d9,e0,e1,e2,e3,e4,e5,e6,e7,e8,e9,f0,f1,f2,f3,f4,f5,f6,f7,f8,f9,g0,g1,g2,g3,g4,g5,g6,g7,g8,g9,h0,h1,h2,h3,h4,h5,h6,h7,h8,h9,i0,i1,i2,i3,i4,i5] 0 = [.unk,.unk,.unk,.unk,.unk,.unk,g,h,.unk,.unk,.unk,.unk,.unk,.unk,.unk,.unk,.unk,.unk,.unk,.unk,.unk,.unk,.unk,.unk,.unk,.unk,.unk,.unk,.unk,.unk,.unk,.unk,.unk,.unk,.unk,.unk,.unk,.unk,.unk,.unk,.unk,.unk,.unk,.unk,.unk,.unk,.unk,.unk,.unk,.unk,.unk,.unk,.unk,.unk,.unk,.unk,.unk,.unk,.unk,.unk,.unk,.unk,.unk,.unk,.unk,.unk,.unk,.unk,.unk,.unk,.unk,.unk,.unk,.unk,.unk,.unk,.unk,.unk,.unk,.unk,.unk,.unk,.unk,.unk,.unk,.unk,.unk,.unk,.unk,.unk,.unk,.unk,.unk,.unk,.unk,.unk,.unk,.unk,.unk,.unk,.unk,.unk,.unk,.unk,.unk,.unk,.unk,.unk,.unk,.unk,.unk,.unk] := rfl
/-- spence/diff.change -/
def bd19 : C :=
  (.seq (.reg [⟨some 3, none, .box 34 (.s 0), .none⟩,
      ⟨some 4, none, .box 34 (.s 1), .none⟩,
      ⟨some 6, none, .alloc 32 [.int .i64 0, .bool false, .bool false, .int .i64 0, .int .i64 0, .str [], .int .i64 0, .int .i64 0, .nils, .nils], .cells [(8, 4, false), (9, 1, false)]⟩])
  (.seq (.reg [⟨some 18, none, .fa (.s 4) 0, .none⟩,
      ⟨some 19, none, .fa (.s 18) 0, .none⟩,
      ⟨some 20, none, .ld (.s 19) 1 false, .none⟩,
      ⟨some 21, none, .build [.int .i64 0, .bool false, .bool false, .int .i64 0, .int .i64 0, .str [], .int .i64 0, .int .i64 0, .nils, .nils] [(0, (1, .s 20))], .none⟩,
      ⟨some 7, none, .alloc 32 [.int .i64 0, .bool false, .bool false, .int .i64 0, .int .i64 0, .str [], .int .i64 0, .int .i64 0, .nils, .nils], .none⟩,
      ⟨none, none, .st (.s 7) (.s 21) 10, .none⟩])
  (.seq (.seq (.reg [⟨some 22, none, .mv (.s 2), .none⟩,
       ⟨some 23, none, .un .not (.s 22), .none⟩,
       ⟨some 24, none, .mv (.s 23), .none⟩,
       ⟨some 25, some (24, false), .fa (.s 3) 0, .none⟩,
       ⟨some 26, some (24, false), .ld (.s 25) 5 true, .none⟩,
       ⟨some 27, some (24, false), .fa (.s 4) 0, .none⟩,
       ⟨some 28, some (24, false), .ld (.s 27) 5 true, .none⟩,
       ⟨some 29, some (24, false), .eqs true [1, 1, 2, 1, 1] (.s 26) (.s 28), .none⟩,
       ⟨some 30, none, .pick (.s 24) (.c (.d (.bool true))) (.s 29), .none⟩])
   (.cond (.s 30)
    (.drw [⟨some 31, none, .fa (.s 4) 0, .none⟩,
       ⟨some 32, none, .ld (.s 31) 5 true, .none⟩,
       ⟨some 33, none, .fa (.s 7) 1, .none⟩,
       ⟨none, none, .st (.s 33) (.c (.d (.bool true))) 1, .none⟩,
       ⟨some 34, none, .fa (.s 7) 3, .none⟩,
       ⟨none, none, .st (.s 34) (.s 32) 5, .none⟩]
      [[], [0], [], [2], [0, 1, 2, 3], [4, 1, 3, 0, 1, 2, 3]] [(31, 33)])
    .skip))
  (.ann [2, 3, 4, 6, 7] (.seq (.seq (.reg [⟨some 35, none, .mv (.s 2), .none⟩,
       ⟨some 36, none, .un .not (.s 35), .none⟩,
       ⟨some 37, none, .mv (.s 36), .none⟩,
       ⟨some 38, some (37, false), .fa (.s 3) 0, .none⟩,
       ⟨some 39, some (37, false), .fa (.s 38) 1, .none⟩,
       ⟨some 40, some (37, false), .ld (.s 39) 1 false, .none⟩,
       ⟨some 41, some (37, false), .fa (.s 4) 0, .none⟩,
       ⟨some 42, some (37, false), .fa (.s 41) 1, .none⟩,
       ⟨some 43, some (37, false), .ld (.s 42) 1 false, .none⟩,
       ⟨some 44, some (37, false), .bin .neq (.s 40) (.s 43), .none⟩,
       ⟨some 45, none, .pick (.s 37) (.c (.d (.bool true))) (.s 44), .none⟩])
   (.cond (.s 45)
    (.seq (.reg [⟨some 46, none, .fa (.s 4) 5, .none⟩,
        ⟨some 47, none, .ld (.s 46) 1 false, .none⟩,
        ⟨some 48, none, .call 33 [.s 47] 2, .none⟩,
        ⟨some 49, none, .fa (.s 7) 8, .none⟩,
        ⟨none, none, .st (.s 49) (.s 48) 1, .none⟩])
    (.seq (.reg [⟨some 50, none, .ld (.s 7) 10 true, .cells [(8, 4, false), (9, 1, false)]⟩,
        ⟨none, none, .st (.s 6) (.s 50) 10, .none⟩])
    (.ret none)))
    .skip))
  (.seq (.drw [⟨some 51, none, .fa (.s 3) 5, .none⟩,
      ⟨some 52, none, .ld (.s 51) 1 false, .none⟩,
      ⟨some 53, none, .call 41 [.s 52] 2, .none⟩,
      ⟨some 54, none, .fa (.s 4) 5, .none⟩,
      ⟨some 55, none, .ld (.s 54) 1 false, .none⟩,
      ⟨some 56, none, .call 41 [.s 55] 2, .none⟩,
      ⟨some 8, none, .mv (.s 53), .none⟩,
      ⟨some 9, none, .mv (.s 56), .none⟩]
     [[], [0], [1], [], [3], [4, 2], [2, 5, 0, 1, 2], [5, 6, 0, 1, 2, 3, 4, 5, 6]] [])
  (.seq (.seq (.reg [⟨some 57, none, .fa (.s 4) 5, .none⟩,
       ⟨some 58, none, .ld (.s 57) 1 false, .none⟩,
       ⟨some 59, none, .len (.s 58), .none⟩,
       ⟨some 60, none, .mv (.c (.d (.int .i64 0))), .none⟩])
   (.block 0 (.loop [3, 6, 7, 8, 9, 58, 59, 60] lp19_0)))
  (.seq (.seq (.reg [⟨some 87, none, .fa (.s 3) 5, .none⟩,
       ⟨some 88, none, .ld (.s 87) 1 false, .none⟩,
       ⟨some 89, none, .len (.s 88), .none⟩,
       ⟨some 90, none, .mv (.c (.d (.int .i64 0))), .none⟩])
   (.block 2 (.loop [6, 7, 9, 88, 89, 90] lp19_1)))
  (.seq (.reg [⟨some 111, none, .ld (.s 7) 10 true, .cells [(8, 4, false), (9, 1, false)]⟩,
      ⟨none, none, .st (.s 6) (.s 111) 10, .none⟩])
  (.ret none))))))))))
def ir19 : F := { n := 112, res := [.cell 6 10 true], body := bd19 }
@[go_sem] theorem n19 : ir19.n = 112 := rfl
@[go_sem] theorem r19 : ir19.res = [.cell 6 10 true] := rfl
@[go_sem] theorem b19 : ir19.body = bd19 := rfl
/-- (spence/diff.Change).empty -/
def bd20 : C :=
  (.seq (.reg [⟨some 1, none, .box 32 (.s 0), .none⟩,
      ⟨some 2, none, .mv (.c (.d (.bool false))), .none⟩])
  (.seq (.reg [⟨some 3, none, .fa (.s 1) 1, .none⟩,
      ⟨some 4, none, .ld (.s 3) 1 false, .none⟩,
      ⟨some 5, none, .un .not (.s 4), .none⟩,
      ⟨some 6, none, .mv (.s 5), .none⟩,
      ⟨some 7, some (6, true), .fa (.s 1) 2, .none⟩,
      ⟨some 8, some (6, true), .ld (.s 7) 1 false, .none⟩,
      ⟨some 9, some (6, true), .un .not (.s 8), .none⟩,
      ⟨some 10, none, .pick (.s 6) (.s 9) (.c (.d (.bool false))), .none⟩,
      ⟨some 11, none, .mv (.s 10), .none⟩,
      ⟨some 12, some (11, true), .fa (.s 1) 8, .none⟩,
      ⟨some 13, some (11, true), .ld (.s 12) 1 false, .none⟩,
      ⟨some 14, some (11, true), .len (.s 13), .none⟩,
      ⟨some 15, some (11, true), .bin .eql (.s 14) (.c (.d (.int .i64 0))), .none⟩,
      ⟨some 16, none, .pick (.s 11) (.s 15) (.c (.d (.bool false))), .none⟩,
      ⟨some 17, none, .mv (.s 16), .none⟩,
      ⟨some 18, some (17, true), .fa (.s 1) 9, .none⟩,
      ⟨some 19, some (17, true), .ld (.s 18) 1 false, .none⟩,
      ⟨some 20, some (17, true), .len (.s 19), .none⟩,
      ⟨some 21, some (17, true), .bin .eql (.s 20) (.c (.d (.int .i64 0))), .none⟩,
      ⟨some 22, none, .pick (.s 17) (.s 21) (.c (.d (.bool false))), .none⟩,
      ⟨some 2, none, .mv (.s 22), .none⟩])
  (.ret none)))
def ir20 : F := { n := 23, res := [.tmp 2], body := bd20 }
@[go_sem] theorem n20 : ir20.n = 23 := rfl
@[go_sem] theorem r20 : ir20.res = [.tmp 2] := rfl
@[go_sem] theorem b20 : ir20.body = bd20 := rfl
/-- spence/diff.Of$1 -/
def bd22 : C :=
  (.seq (.reg [⟨some 2, none, .box 32 (.s 0), .none⟩,
      ⟨some 3, none, .box 32 (.s 1), .none⟩,
      ⟨some 4, none, .mv (.c (.d (.int .i64 0))), .none⟩])
  (.seq (.reg [⟨some 5, none, .fa (.s 2) 0, .none⟩,
      ⟨some 6, none, .ld (.s 5) 1 false, .none⟩,
      ⟨some 7, none, .fa (.s 3) 0, .none⟩,
      ⟨some 8, none, .ld (.s 7) 1 false, .none⟩,
      ⟨some 9, none, .call 23 [.s 6, .s 8] 2, .none⟩,
      ⟨some 4, none, .mv (.s 9), .none⟩])
  (.ret none)))
def ir22 : F := { n := 10, res := [.tmp 4], body := bd22 }
@[go_sem] theorem n22 : ir22.n = 10 := rfl
@[go_sem] theorem r22 : ir22.res = [.tmp 4] := rfl
@[go_sem] theorem b22 : ir22.body = bd22 := rfl
/-- cmp.Compare[int] -/
def bd23 : C :=
  (.seq (.reg [⟨some 4, none, .mv (.c (.d (.int .i64 0))), .none⟩])
  (.seq (.reg [⟨some 7, none, .mv (.s 0), .none⟩,
      ⟨some 8, none, .call 44 [.s 7] 2, .none⟩,
      ⟨some 5, none, .mv (.s 8), .none⟩])
  (.seq (.reg [⟨some 9, none, .mv (.s 1), .none⟩,
      ⟨some 10, none, .call 44 [.s 9] 2, .none⟩,
      ⟨some 6, none, .mv (.s 10), .none⟩])
  (.seq (.seq (.reg [⟨some 11, none, .mv (.s 5), .none⟩])
   (.cond (.s 11)
    (.seq (.seq (.reg [⟨some 12, none, .mv (.s 6), .none⟩])
     (.cond (.s 12)
      (.seq (.reg [⟨some 4, none, .mv (.c (.d (.int .i64 0))), .none⟩])
      (.ret none))
      .skip))
    (.seq (.reg [⟨some 4, none, .mv (.c (.d (.int .i64 (-1)))), .none⟩])
    (.ret none)))
    .skip))
  (.seq (.seq (.reg [⟨some 13, none, .mv (.s 6), .none⟩])
   (.cond (.s 13)
    (.seq (.reg [⟨some 4, none, .mv (.c (.d (.int .i64 1))), .none⟩])
    (.ret none))
    .skip))
  (.seq (.seq (.reg [⟨some 14, none, .mv (.s 0), .none⟩,
       ⟨some 15, none, .mv (.s 1), .none⟩,
       ⟨some 16, none, .bin .lss (.s 14) (.s 15), .none⟩])
   (.cond (.s 16)
    (.seq (.reg [⟨some 4, none, .mv (.c (.d (.int .i64 (-1)))), .none⟩])
    (.ret none))
    .skip))
  (.seq (.seq (.reg [⟨some 17, none, .mv (.s 0), .none⟩,
       ⟨some 18, none, .mv (.s 1), .none⟩,
       ⟨some 19, none, .bin .gtr (.s 17) (.s 18), .none⟩])
   (.cond (.s 19)
    (.seq (.reg [⟨some 4, none, .mv (.c (.d (.int .i64 1))), .none⟩])
    (.ret none))
    .skip))
  (.seq (.reg [⟨some 4, none, .mv (.c (.d (.int .i64 0))), .none⟩])
  (.ret none)))))))))
def ir23 : F := { n := 20, res := [.tmp 4], body := bd23 }
@[go_sem] theorem n23 : ir23.n = 20 := rfl
@[go_sem] theorem r23 : ir23.res = [.tmp 4] := rfl
@[go_sem] theorem b23 : ir23.body = bd23 := rfl
/-- spence/spenceref17.SamePiece -/
def bd24 : C :=
  (.seq (.reg [⟨some 2, none, .box 39 (.s 0), .none⟩,
      ⟨some 3, none, .box 39 (.s 1), .none⟩,
      ⟨some 4, none, .mv (.c (.d (.bool false))), .none⟩])
  (.seq (.reg [⟨some 5, none, .fa (.s 2) 0, .none⟩,
      ⟨some 6, none, .ld (.s 5) 1 false, .none⟩,
      ⟨some 7, none, .fa (.s 3) 0, .none⟩,
      ⟨some 8, none, .ld (.s 7) 1 false, .none⟩,
      ⟨some 9, none, .bin .eql (.s 6) (.s 8), .none⟩,
      ⟨some 10, none, .mv (.s 9), .none⟩,
      ⟨some 11, some (10, true), .fa (.s 2) 1, .none⟩,
      ⟨some 12, some (10, true), .ld (.s 11) 1 false, .none⟩,
      ⟨some 13, some (10, true), .fa (.s 3) 1, .none⟩,
      ⟨some 14, some (10, true), .ld (.s 13) 1 false, .none⟩,
      ⟨some 15, some (10, true), .bin .eql (.s 12) (.s 14), .none⟩,
      ⟨some 16, none, .pick (.s 10) (.s 15) (.c (.d (.bool false))), .none⟩,
      ⟨some 17, none, .mv (.s 16), .none⟩,
      ⟨some 18, some (17, true), .fa (.s 2) 2, .none⟩,
      ⟨some 19, some (17, true), .ld (.s 18) 1 false, .none⟩,
      ⟨some 20, some (17, true), .fa (.s 3) 2, .none⟩,
      ⟨some 21, some (17, true), .ld (.s 20) 1 false, .none⟩,
      ⟨some 22, some (17, true), .bin .eql (.s 19) (.s 21), .none⟩,
      ⟨some 23, none, .pick (.s 17) (.s 22) (.c (.d (.bool false))), .none⟩,
      ⟨some 24, none, .mv (.s 23), .none⟩,
      ⟨some 25, some (24, true), .fa (.s 2) 3, .none⟩,
      ⟨some 26, some (24, true), .ld (.s 25) 1 false, .none⟩,
      ⟨some 27, some (24, true), .fa (.s 3) 3, .none⟩,
      ⟨some 28, some (24, true), .ld (.s 27) 1 false, .none⟩,
      ⟨some 29, some (24, true), .call 45 [.s 26, .s 28] 2, .none⟩,
      ⟨some 30, none, .pick (.s 24) (.s 29) (.c (.d (.bool false))), .none⟩,
      ⟨some 4, none, .mv (.s 30), .none⟩])
  (.ret none)))
def ir24 : F := { n := 31, res := [.tmp 4], body := bd24 }
@[go_sem] theorem n24 : ir24.n = 31 := rfl
@[go_sem] theorem r24 : ir24.res = [.tmp 4] := rfl
@[go_sem] theorem b24 : ir24.body = bd24 := rfl
def lb25_0 : C :=
  (.seq (.reg [⟨some 18, none, .bin .lss (.s 17) (.s 16), .none⟩])
  (.seq (.cond (.s 18)
    .skip
    (.exit 0 (some [])))
  (.seq (.block 1 (.seq (.reg [⟨some 19, none, .mv (.s 17), .none⟩,
        ⟨some 20, none, .is (.s 15) (.s 17) 10, .none⟩,
        ⟨some 21, none, .ld (.s 20) 10 true, .none⟩,
        ⟨some 8, none, .alloc 32 [.int .i64 0, .bool false, .bool false, .int .i64 0, .int .i64 0, .str [], .int .i64 0, .int .i64 0, .nils, .nils], .cells [(8, 4, false), (9, 1, false)]⟩,
        ⟨some 7, none, .mv (.s 19), .none⟩,
        ⟨none, none, .st (.s 8) (.s 21) 10, .none⟩])
    (.seq (.reg [⟨some 22, none, .mv (.s 1), .none⟩,
        ⟨some 23, none, .mv (.s 7), .none⟩,
        ⟨some 24, none, .is (.s 22) (.s 23) 10, .none⟩,
        ⟨some 25, none, .ld (.s 24) 10 true, .none⟩,
        ⟨some 9, none, .alloc 32 [.int .i64 0, .bool false, .bool false, .int .i64 0, .int .i64 0, .str [], .int .i64 0, .int .i64 0, .nils, .nils], .cells [(8, 4, false), (9, 1, false)]⟩,
        ⟨none, none, .st (.s 9) (.s 25) 10, .none⟩])
    (.seq (.reg [⟨some 26, none, .mv (.s 2), .none⟩,
        ⟨some 27, none, .ld (.s 8) 10 true, .none⟩,
        ⟨some 28, none, .ld (.s 9) 10 true, .none⟩,
        ⟨some 29, none, .callv (.s 26) [.s 27, .s 28] 0, .none⟩,
        ⟨some 30, none, .un .not (.s 29), .none⟩])
    (.cond (.s 30)
     (.seq (.reg [⟨some 6, none, .mv (.c (.d (.bool false))), .none⟩])
     (.ret (some [6])))
     .skip)))))
  (.reg [⟨some 31, none, .bin .add (.s 17) (.c (.d (.int .i64 1))), .none⟩,
     ⟨some 17, none, .mv (.s 31), .none⟩]))))
def lp25_0 : C := lb25_0
theorem u25_0 (c : Ev.Callee) (l : Ev.Looper) (s : St) : evC c l lp25_0 s = evC c l lb25_0 s := rfl
abbrev st25_0 (m : Nat) (s1 s2 s15 s16 s17 : AV) (h : Heap) : St := ⟨m,[.unk,s1,s2,.unk,.unk,.unk,.unk,.unk,.unk,.unk,.unk,.unk,.unk,.unk,.unk,s15,s16,s17,.unk,.unk,.unk,.unk,.unk,.unk,.unk,.unk,.unk,.unk,.unk,.unk,.unk,.unk],h⟩
@[go_sem] theorem ks25_0 (a b c d e f g h i j k l m n o p q r s t u v w x y z a0 a1 a2 a3 a4 a5 : AV) : keepS [1,2,15,16,17] [a,b,c,d,e,f,g,h,i,j,k,l,m,n,o,p,q,r,s,t,u,v,w,x,y,z,a0,a1,a2,a3,a4,a5] 0 = [.unk,b,c,.unk,.unk,.unk,.unk,.unk,.unk,.unk,.unk,.unk,.unk,.unk,.unk,p,q,r,.unk,.unk,.unk,.unk,.unk,.unk,.unk,.unk,.unk,.unk,.unk,.unk,.unk,.unk] := rfl
@[go_sem] theorem ks25_1 (a b c d e f g h i j k l m n o p q r s t u v w x y z a0 a1 a2 a3 a4 a5 : AV) : keepS [] [a,b,c,d,e,f,g,h,i,j,k,l,m,n,o,p,q,r,s,t,u,v,w,x,y,z,a0,a1,a2,a3,a4,a5] 0 = [.unk,.unk,.unk,.unk,.unk,.unk,.unk,.unk,.unk,.unk,.unk,.unk,.unk,.unk,.unk,.unk,.unk,.unk,.unk,.unk,.unk,.unk,.unk,.unk,.unk,.unk,.unk,.unk,.unk,.unk,.unk,.unk] := rfl
@[go_sem] theorem ks25_2 (a b c d e f g h i j k l m n o p q r s t u v w x y z a0 a1 a2 a3 a4 a5 : AV) : keepS [6] [a,b,c,d,e,f,g,h,i,j,k,l,m,n,o,p,q,r,s,t,u,v,w,x,y,z,a0,a1,a2,a3,a4,a5] 0 = [.unk,.unk,.unk,.unk,.unk,.unk,g,.unk,.unk,.unk,.unk,.unk,.unk,.unk,.unk,.unk,.unk,.unk,.unk,.unk,.unk,.unk,.unk,.unk,.unk,.unk,.unk,.unk,.unk,.unk,.unk,.unk] := rfl
/-- slices.EqualFunc[[]spence/diff.Change,[]spence/diff.Change,spence/diff.Change,spence/diff.Change] -/
def bd25 : C :=
  (.seq (.reg [⟨some 6, none, .mv (.c (.d (.bool false))), .none⟩])
  (.seq (.seq (.reg [⟨some 10, none, .mv (.s 0), .none⟩,
       ⟨some 11, none, .len (.s 10), .none⟩,
       ⟨some 12, none, .mv (.s 1), .none⟩,
       ⟨some 13, none, .len (.s 12), .none⟩,
       ⟨some 14, none, .bin .neq (.s 11) (.s 13), .none⟩])
   (.cond (.s 14)
    (.seq (.reg [⟨some 6, none, .mv (.c (.d (.bool false))), .none⟩])
    (.ret none))
    .skip))
  (.seq (.seq (.reg [⟨some 15, none, .mv (.s 0), .none⟩,
       ⟨some 16, none, .len (.s 15), .none⟩,
       ⟨some 17, none, .mv (.c (.d (.int .i64 0))), .none⟩])
   (.block 0 (.loop [1, 2, 15, 16, 17] lp25_0)))
  (.seq (.reg [⟨some 6, none, .mv (.c (.d (.bool true))), .none⟩])
  (.ret none)))))
def ir25 : F := { n := 32, res := [.tmp 6], body := bd25 }
@[go_sem] theorem n25 : ir25.n = 32 := rfl
@[go_sem] theorem r25 : ir25.res = [.tmp 6] := rfl
@[go_sem] theorem b25 : ir25.body = bd25 := rfl
/-- spence/diff.Same$1 -/
def bd26 : C :=
  (.seq (.reg [⟨some 2, none, .box 32 (.s 0), .none⟩,
      ⟨some 3, none, .box 32 (.s 1), .none⟩,
      ⟨some 4, none, .mv (.c (.d (.bool false))), .none⟩])
  (.seq (.reg [⟨some 5, none, .fa (.s 2) 0, .none⟩,
      ⟨some 6, none, .ld (.s 5) 1 false, .none⟩,
      ⟨some 7, none, .fa (.s 3) 0, .none⟩,
      ⟨some 8, none, .ld (.s 7) 1 false, .none⟩,
      ⟨some 9, none, .bin .eql (.s 6) (.s 8), .none⟩,
      ⟨some 10, none, .mv (.s 9), .none⟩,
      ⟨some 11, some (10, true), .fa (.s 2) 1, .none⟩,
      ⟨some 12, some (10, true), .ld (.s 11) 1 false, .none⟩,
      ⟨some 13, some (10, true), .fa (.s 3) 1, .none⟩,
      ⟨some 14, some (10, true), .ld (.s 13) 1 false, .none⟩,
      ⟨some 15, some (10, true), .beq false (.s 12) (.s 14), .none⟩,
      ⟨some 16, none, .pick (.s 10) (.s 15) (.c (.d (.bool false))), .none⟩,
      ⟨some 17, none, .mv (.s 16), .none⟩,
      ⟨some 18, some (17, true), .fa (.s 2) 2, .none⟩,
      ⟨some 19, some (17, true), .ld (.s 18) 1 false, .none⟩,
      ⟨some 20, some (17, true), .fa (.s 3) 2, .none⟩,
      ⟨some 21, some (17, true), .ld (.s 20) 1 false, .none⟩,
      ⟨some 22, some (17, true), .beq false (.s 19) (.s 21), .none⟩,
      ⟨some 23, none, .pick (.s 17) (.s 22) (.c (.d (.bool false))), .none⟩,
      ⟨some 24, none, .mv (.s 23), .none⟩,
      ⟨some 25, some (24, true), .fa (.s 2) 3, .none⟩,
      ⟨some 26, some (24, true), .ld (.s 25) 5 true, .none⟩,
      ⟨some 27, some (24, true), .fa (.s 3) 3, .none⟩,
      ⟨some 28, some (24, true), .ld (.s 27) 5 true, .none⟩,
      ⟨some 29, some (24, true), .eqs false [1, 1, 2, 1, 1] (.s 26) (.s 28), .none⟩,
      ⟨some 30, none, .pick (.s 24) (.s 29) (.c (.d (.bool false))), .none⟩,
      ⟨some 31, none, .mv (.s 30), .none⟩,
      ⟨some 32, some (31, true), .fa (.s 2) 8, .none⟩,
      ⟨some 33, some (31, true), .ld (.s 32) 1 false, .none⟩,
      ⟨some 34, some (31, true), .fa (.s 3) 8, .none⟩,
      ⟨some 35, some (31, true), .ld (.s 34) 1 false, .none⟩,
      ⟨some 36, some (31, true), .call 27 [.s 33, .s 35, .c (.clo (.func 28) [] [])] 2, .none⟩,
      ⟨some 37, none, .pick (.s 31) (.s 36) (.c (.d (.bool false))), .none⟩,
      ⟨some 38, none, .mv (.s 37), .none⟩,
      ⟨some 39, some (38, true), .fa (.s 2) 9, .none⟩,
      ⟨some 40, some (38, true), .ld (.s 39) 1 false, .none⟩,
      ⟨some 41, some (38, true), .fa (.s 3) 9, .none⟩,
      ⟨some 42, some (38, true), .ld (.s 41) 1 false, .none⟩,
      ⟨some 43, some (38, true), .call 29 [.s 40, .s 42] 2, .none⟩,
      ⟨some 44, none, .pick (.s 38) (.s 43) (.c (.d (.bool false))), .none⟩,
      ⟨some 4, none, .mv (.s 44), .none⟩])
  (.ret none)))
def ir26 : F := { n := 45, res := [.tmp 4], body := bd26 }
@[go_sem] theorem n26 : ir26.n = 45 := rfl
@[go_sem] theorem r26 : ir26.res = [.tmp 4] := rfl
@[go_sem] theorem b26 : ir26.body = bd26 := rfl
def lb27_0 : C :=
  (.seq (.reg [⟨some 18, none, .bin .lss (.s 17) (.s 16), .none⟩])
  (.seq (.cond (.s 18)
    .skip
    (.exit 0 (some [])))
  (.seq (.block 1 (.seq (.reg [⟨some 19, none, .mv (.s 17), .none⟩,
        ⟨some 20, none, .is (.s 15) (.s 17) 4, .none⟩,
        ⟨some 21, none, .ld (.s 20) 4 true, .none⟩,
        ⟨some 8, none, .alloc 39 [.int .i64 0, .int .i64 0, .int .i64 0, .nils], .cells [(3, 1, false)]⟩,
        ⟨some 7, none, .mv (.s 19), .none⟩,
        ⟨none, none, .st (.s 8) (.s 21) 4, .none⟩])
    (.seq (.reg [⟨some 22, none, .mv (.s 1), .none⟩,
        ⟨some 23, none, .mv (.s 7), .none⟩,
        ⟨some 24, none, .is (.s 22) (.s 23) 4, .none⟩,
        ⟨some 25, none, .ld (.s 24) 4 true, .none⟩,
        ⟨some 9, none, .alloc 39 [.int .i64 0, .int .i64 0, .int .i64 0, .nils], .cells [(3, 1, false)]⟩,
        ⟨none, none, .st (.s 9) (.s 25) 4, .none⟩])
    (.seq (.reg [⟨some 26, none, .mv (.s 2), .none⟩,
        ⟨some 27, none, .ld (.s 8) 4 true, .none⟩,
        ⟨some 28, none, .ld (.s 9) 4 true, .none⟩,
        ⟨some 29, none, .callv (.s 26) [.s 27, .s 28] 0, .none⟩,
        ⟨some 30, none, .un .not (.s 29), .none⟩])
    (.cond (.s 30)
     (.seq (.reg [⟨some 6, none, .mv (.c (.d (.bool false))), .none⟩])
     (.ret (some [6])))
     .skip)))))
  (.reg [⟨some 31, none, .bin .add (.s 17) (.c (.d (.int .i64 1))), .none⟩,
     ⟨some 17, none, .mv (.s 31), .none⟩]))))
def lp27_0 : C := lb27_0
theorem u27_0 (c : Ev.Callee) (l : Ev.Looper) (s : St) : evC c l lp27_0 s = evC c l lb27_0 s := rfl
abbrev st27_0 (m : Nat) (s1 s2 s15 s16 s17 : AV) (h : Heap) : St := ⟨m,[.unk,s1,s2,.unk,.unk,.unk,.unk,.unk,.unk,.unk,.unk,.unk,.unk,.unk,.unk,s15,s16,s17,.unk,.unk,.unk,.unk,.unk,.unk,.unk,.unk,.unk,.unk,.unk,.unk,.unk,.unk],h⟩
@[go_sem] theorem ks27_0 (a b c d e f g h i j k l m n o p q r s t u v w x y z a0 a1 a2 a3 a4 a5 : AV) : keepS [1,2,15,16,17] [a,b,c,d,e,f,g,h,i,j,k,l,m,n,o,p,q,r,s,t,u,v,w,x,y,z,a0,a1,a2,a3,a4,a5] 0 = [.unk,b,c,.unk,.unk,.unk,.unk,.unk,.unk,.unk,.unk,.unk,.unk,.unk,.unk,p,q,r,.unk,.unk,.unk,.unk,.unk,.unk,.unk,.unk,.unk,.unk,.unk,.unk,.unk,.unk] := rfl
@[go_sem] theorem ks27_1 (a b c d e f g h i j k l m n o p q r s t u v w x y z a0 a1 a2 a3 a4 a5 : AV) : keepS [] [a,b,c,d,e,f,g,h,i,j,k,l,m,n,o,p,q,r,s,t,u,v,w,x,y,z,a0,a1,a2,a3,a4,a5] 0 = [.unk,.unk,.unk,.unk,.unk,.unk,.unk,.unk,.unk,.unk,.unk,.unk,.unk,.unk,.unk,.unk,.unk,.unk,.unk,.unk,.unk,.unk,.unk,.unk,.unk,.unk,.unk,.unk,.unk,.unk,.unk,.unk] := rfl
@[go_sem] theorem ks27_2 (a b c d e f g h i j k l m n o p q r s t u v w x y z a0 a1 a2 a3 a4 a5 : AV) : keepS [6] [a,b,c,d,e,f,g,h,i,j,k,l,m,n,o,p,q,r,s,t,u,v,w,x,y,z,a0,a1,a2,a3,a4,a5] 0 = [.unk,.unk,.unk,.unk,.unk,.unk,g,.unk,.unk,.unk,.unk,.unk,.unk,.unk,.unk,.unk,.unk,.unk,.unk,.unk,.unk,.unk,.unk,.unk,.unk,.unk,.unk,.unk,.unk,.unk,.unk,.unk] := rfl
/-- slices.EqualFunc[[]spence/api.Piece,[]spence/api.Piece,spence/api.Piece,spence/api.Piece] -/
def bd27 : C :=
  (.seq (.reg [⟨some 6, none, .mv (.c (.d (.bool false))), .none⟩])
  (.seq (.seq (.reg [⟨some 10, none, .mv (.s 0), .none⟩,
       ⟨some 11, none, .len (.s 10), .none⟩,
       ⟨some 12, none, .mv (.s 1), .none⟩,
       ⟨some 13, none, .len (.s 12), .none⟩,
       ⟨some 14, none, .bin .neq (.s 11) (.s 13), .none⟩])
   (.cond (.s 14)
    (.seq (.reg [⟨some 6, none, .mv (.c (.d (.bool false))), .none⟩])
    (.ret none))
    .skip))
  (.seq (.seq (.reg [⟨some 15, none, .mv (.s 0), .none⟩,
       ⟨some 16, none, .len (.s 15), .none⟩,
       ⟨some 17, none, .mv (.c (.d (.int .i64 0))), .none⟩])
   (.block 0 (.loop [1, 2, 15, 16, 17] lp27_0)))
  (.seq (.reg [⟨some 6, none, .mv (.c (.d (.bool true))), .none⟩])
  (.ret none)))))
def ir27 : F := { n := 32, res := [.tmp 6], body := bd27 }
@[go_sem] theorem n27 : ir27.n = 32 := rfl
@[go_sem] theorem r27 : ir27.res = [.tmp 6] := rfl
@[go_sem] theorem b27 : ir27.body = bd27 := rfl
/-- spence/diff.like -/
def bd28 : C :=
  (.seq (.reg [⟨some 2, none, .box 39 (.s 0), .none⟩,
      ⟨some 3, none, .box 39 (.s 1), .none⟩,
      ⟨some 4, none, .mv (.c (.d (.bool false))), .none⟩])
  (.seq (.reg [⟨some 5, none, .fa (.s 2) 0, .none⟩,
      ⟨some 6, none, .ld (.s 5) 1 false, .none⟩,
      ⟨some 7, none, .fa (.s 3) 0, .none⟩,
      ⟨some 8, none, .ld (.s 7) 1 false, .none⟩,
      ⟨some 9, none, .bin .eql (.s 6) (.s 8), .none⟩,
      ⟨some 10, none, .mv (.s 9), .none⟩,
      ⟨some 11, some (10, true), .fa (.s 2) 1, .none⟩,
      ⟨some 12, some (10, true), .ld (.s 11) 1 false, .none⟩,
      ⟨some 13, some (10, true), .fa (.s 3) 1, .none⟩,
      ⟨some 14, some (10, true), .ld (.s 13) 1 false, .none⟩,
      ⟨some 15, some (10, true), .bin .eql (.s 12) (.s 14), .none⟩,
      ⟨some 16, none, .pick (.s 10) (.s 15) (.c (.d (.bool false))), .none⟩,
      ⟨some 17, none, .mv (.s 16), .none⟩,
      ⟨some 18, some (17, true), .fa (.s 2) 2, .none⟩,
      ⟨some 19, some (17, true), .ld (.s 18) 1 false, .none⟩,
      ⟨some 20, some (17, true), .fa (.s 3) 2, .none⟩,
      ⟨some 21, some (17, true), .ld (.s 20) 1 false, .none⟩,
      ⟨some 22, some (17, true), .bin .eql (.s 19) (.s 21), .none⟩,
      ⟨some 23, none, .pick (.s 17) (.s 22) (.c (.d (.bool false))), .none⟩,
      ⟨some 24, none, .mv (.s 23), .none⟩,
      ⟨some 25, some (24, true), .fa (.s 2) 3, .none⟩,
      ⟨some 26, some (24, true), .ld (.s 25) 1 false, .none⟩,
      ⟨some 27, some (24, true), .fa (.s 3) 3, .none⟩,
      ⟨some 28, some (24, true), .ld (.s 27) 1 false, .none⟩,
      ⟨some 29, some (24, true), .call 46 [.s 26, .s 28] 2, .none⟩,
      ⟨some 30, none, .pick (.s 24) (.s 29) (.c (.d (.bool false))), .none⟩,
      ⟨some 4, none, .mv (.s 30), .none⟩])
  (.ret none)))
def ir28 : F := { n := 31, res := [.tmp 4], body := bd28 }
@[go_sem] theorem n28 : ir28.n = 31 := rfl
@[go_sem] theorem r28 : ir28.res = [.tmp 4] := rfl
@[go_sem] theorem b28 : ir28.body = bd28 := rfl
def lb29_0 : C :=
  (.seq (.reg [⟨some 14, none, .bin .lss (.s 13) (.s 12), .none⟩])
  (.seq (.cond (.s 14)
    .skip
    (.exit 0 (some [])))
  (.seq (.block 1 (.seq (.reg [⟨some 15, none, .mv (.s 13), .none⟩,
        ⟨some 5, none, .mv (.s 15), .none⟩])
    (.seq (.drw [⟨some 16, none, .mv (.s 0), .none⟩,
        ⟨some 17, none, .mv (.s 5), .none⟩,
        ⟨some 18, none, .is (.s 16) (.s 17) 1, .none⟩,
        ⟨some 19, none, .ld (.s 18) 1 false, .none⟩,
        ⟨some 20, none, .mv (.s 1), .none⟩,
        ⟨some 21, none, .mv (.s 5), .none⟩,
        ⟨some 22, none, .is (.s 20) (.s 21) 1, .none⟩,
        ⟨some 23, none, .ld (.s 22) 1 false, .none⟩,
        ⟨some 24, none, .bin .neq (.s 19) (.s 23), .none⟩]
       [[], [], [0, 1], [2], [], [], [4, 5], [6], [3, 7]] [])
    (.cond (.s 24)
     (.seq (.reg [⟨some 4, none, .mv (.c (.d (.bool false))), .none⟩])
     (.ret (some [4])))
     .skip))))
  (.reg [⟨some 25, none, .bin .add (.s 13) (.c (.d (.int .i64 1))), .none⟩,
     ⟨some 13, none, .mv (.s 25), .none⟩]))))
def lp29_0 : C := lb29_0
theorem u29_0 (c : Ev.Callee) (l : Ev.Looper) (s : St) : evC c l lp29_0 s = evC c l lb29_0 s := rfl
abbrev st29_0 (m : Nat) (s0 s1 s12 s13 : AV) (h : Heap) : St := ⟨m,[s0,s1,.unk,.unk,.unk,.unk,.unk,.unk,.unk,.unk,.unk,.unk,s12,s13,.unk,.unk,.unk,.unk,.unk,.unk,.unk,.unk,.unk,.unk,.unk,.unk],h⟩
@[go_sem] theorem ks29_0 (a b c d e f g h i j k l m n o p q r s t u v w x y z : AV) : keepS [0,1,12,13] [a,b,c,d,e,f,g,h,i,j,k,l,m,n,o,p,q,r,s,t,u,v,w,x,y,z] 0 = [a,b,.unk,.unk,.unk,.unk,.unk,.unk,.unk,.unk,.unk,.unk,m,n,.unk,.unk,.unk,.unk,.unk,.unk,.unk,.unk,.unk,.unk,.unk,.unk] := rfl
@[go_sem] theorem ks29_1 (a b c d e f g h i j k l m n o p q r s t u v w x y z : AV) : keepS [] [a,b,c,d,e,f,g,h,i,j,k,l,m,n,o,p,q,r,s,t,u,v,w,x,y,z] 0 = [.unk,.unk,.unk,.unk,.unk,.unk,.unk,.unk,.unk,.unk,.unk,.unk,.unk,.unk,.unk,.unk,.unk,.unk,.unk,.unk,.unk,.unk,.unk,.unk,.unk,.unk] := rfl
@[go_sem] theorem ks29_2 (a b c d e f g h i j k l m n o p q r s t u v w x y z : AV) : keepS [4] [a,b,c,d,e,f,g,h,i,j,k,l,m,n,o,p,q,r,s,t,u,v,w,x,y,z] 0 = [.unk,.unk,.unk,.unk,e,.unk,.unk,.unk,.unk,.unk,.unk,.unk,.unk,.unk,.unk,.unk,.unk,.unk,.unk,.unk,.unk,.unk,.unk,.unk,.unk,.unk] := rfl
/-- slices.Equal[[]int,int] -/
def bd29 : C :=
  (.seq (.reg [⟨some 4, none, .mv (.c (.d (.bool false))), .none⟩])
  (.seq (.seq (.reg [⟨some 6, none, .mv (.s 0), .none⟩,
       ⟨some 7, none, .len (.s 6), .none⟩,
       ⟨some 8, none, .mv (.s 1), .none⟩,
       ⟨some 9, none, .len (.s 8), .none⟩,
       ⟨some 10, none, .bin .neq (.s 7) (.s 9), .none⟩])
   (.cond (.s 10)
    (.seq (.reg [⟨some 4, none, .mv (.c (.d (.bool false))), .none⟩])
    (.ret none))
    .skip))
  (.seq (.seq (.reg [⟨some 11, none, .mv (.s 0), .none⟩,
       ⟨some 12, none, .len (.s 11), .none⟩,
       ⟨some 13, none, .mv (.c (.d (.int .i64 0))), .none⟩])
   (.block 0 (.loop [0, 1, 12, 13] lp29_0)))
  (.seq (.reg [⟨some 4, none, .mv (.c (.d (.bool true))), .none⟩])
  (.ret none)))))
def ir29 : F := { n := 26, res := [.tmp 4], body := bd29 }
@[go_sem] theorem n29 : ir29.n = 26 := rfl
@[go_sem] theorem r29 : ir29.res = [.tmp 4] := rfl
@[go_sem] theorem b29 : ir29.body = bd29 := rfl
def lb30_0 : C :=
  (.seq (.reg [⟨some 9, none, .bin .lss (.s 8) (.s 7), .none⟩])
  (.seq (.cond (.s 9)
    .skip
    (.exit 0 (some [])))
  (.seq (.block 1 (.seq (.reg [⟨some 10, none, .mv (.s 8), .none⟩,
        ⟨some 11, none, .is (.s 6) (.s 8) 4, .none⟩,
        ⟨some 12, none, .ld (.s 11) 4 true, .none⟩,
        ⟨some 4, none, .alloc 39 [.int .i64 0, .int .i64 0, .int .i64 0, .nils], .cells [(3, 1, false)]⟩,
        ⟨some 3, none, .mv (.s 10), .none⟩,
        ⟨none, none, .st (.s 4) (.s 12) 4, .none⟩])
    (.seq (.drw [⟨some 13, none, .fa (.s 4) 0, .none⟩,
        ⟨some 14, none, .ld (.s 13) 1 false, .none⟩,
        ⟨some 15, none, .fa (.s 1) 0, .none⟩,
        ⟨some 16, none, .fa (.s 15) 0, .none⟩,
        ⟨some 17, none, .ld (.s 16) 1 false, .none⟩,
        ⟨some 18, none, .bin .neq (.s 14) (.s 17), .none⟩,
        ⟨some 19, none, .mv (.s 18), .none⟩,
        ⟨some 20, some (19, false), .fa (.s 4) 1, .none⟩,
        ⟨some 21, some (19, false), .ld (.s 20) 1 false, .none⟩,
        ⟨some 22, some (19, false), .fa (.s 1) 0, .none⟩,
        ⟨some 23, some (19, false), .fa (.s 22) 1, .none⟩,
        ⟨some 24, some (19, false), .ld (.s 23) 1 false, .none⟩,
        ⟨some 25, some (19, false), .bin .neq (.s 21) (.s 24), .none⟩,
        ⟨some 26, none, .pick (.s 19) (.c (.d (.bool true))) (.s 25), .none⟩,
        ⟨some 27, none, .mv (.s 26), .none⟩,
        ⟨some 28, some (27, false), .mv (.s 3), .none⟩,
        ⟨some 29, some (27, false), .bin .gtr (.s 28) (.c (.d (.int .i64 0))), .none⟩,
        ⟨some 30, some (27, false), .mv (.s 29), .none⟩,
        ⟨some 31, some (30, true), .fa (.s 1) 5, .none⟩,
        ⟨some 32, some (30, true), .ld (.s 31) 1 false, .none⟩,
        ⟨some 33, some (30, true), .mv (.s 3), .none⟩,
        ⟨some 34, some (30, true), .bin .sub (.s 33) (.c (.d (.int .i64 1))), .none⟩,
        ⟨some 35, some (30, true), .is (.s 32) (.s 34) 4, .none⟩,
        ⟨some 36, some (30, true), .fa (.s 35) 2, .none⟩,
        ⟨some 37, some (30, true), .ld (.s 36) 1 false, .none⟩,
        ⟨some 38, some (30, true), .fa (.s 4) 2, .none⟩,
        ⟨some 39, some (30, true), .ld (.s 38) 1 false, .none⟩,
        ⟨some 40, some (30, true), .bin .geq (.s 37) (.s 39), .none⟩,
        ⟨some 41, some (27, false), .pick (.s 30) (.s 40) (.c (.d (.bool false))), .none⟩,
        ⟨some 42, none, .pick (.s 27) (.c (.d (.bool true))) (.s 41), .none⟩]
       [[], [0], [], [2], [3], [1, 4], [5], [6], [7, 6], [6], [9, 6], [10, 6], [8, 11, 6], [6, 12], [13, 6], [14], [15, 14], [16, 14, 14], [17], [18, 17], [17], [20, 17], [19, 21, 17], [22, 17], [23, 17], [17], [25, 17], [24, 26, 17], [17, 27, 14], [14, 28]] [])
    (.cond (.s 42)
     (.seq (.reg [⟨some 2, none, .mv (.c (.d (.bool false))), .none⟩])
     (.ret (some [2])))
     .skip))))
  (.reg [⟨some 43, none, .bin .add (.s 8) (.c (.d (.int .i64 1))), .none⟩,
     ⟨some 8, none, .mv (.s 43), .none⟩]))))
def lp30_0 : C := lb30_0
theorem u30_0 (c : Ev.Callee) (l : Ev.Looper) (s : St) : evC c l lp30_0 s = evC c l lb30_0 s := rfl
abbrev st30_0 (m : Nat) (s1 s6 s7 s8 : AV) (h : Heap) : St := ⟨m,[.unk,s1,.unk,.unk,.unk,.unk,s6,s7,s8,.unk,.unk,.unk,.unk,.unk,.unk,.unk,.unk,.unk,.unk,.unk,.unk,.unk,.unk,.unk,.unk,.unk,.unk,.unk,.unk,.unk,.unk,.unk,.unk,.unk,.unk,.unk,.unk,.unk,.unk,.unk,.unk,.unk,.unk,.unk],h⟩
@[go_sem] theorem ks30_0 (a b c d e f g h i j k l m n o p q r s t u v w x y z a0 a1 a2 a3 a4 a5 a6 a7 a8 a9 b0 b1 b2 b3 b4 b5 b6 b7 : AV) : keepS [1,6,7,8] [a,b,c,d,e,f,g,h,i,j,k,l,m,n,o,p,q,r,s,t,u,v,w,x,y,z,a0,a1,a2,a3,a4,a5,a6,a7,a8,a9,b0,b1,b2,b3,b4,b5,b6,b7] 0 = [.unk,b,.unk,.unk,.unk,.unk,g,h,i,.unk,.unk,.unk,.unk,.unk,.unk,.unk,.unk,.unk,.unk,.unk,.unk,.unk,.unk,.unk,.unk,.unk,.unk,.unk,.unk,.unk,.unk,.unk,.unk,.unk,.unk,.unk,.unk,.unk,.unk,.unk,.unk,.unk,.unk,.unk] := rfl
@[go_sem] theorem ks30_1 (a b c d e f g h i j k l m n o p q r s t u v w x y z a0 a1 a2 a3 a4 a5 a6 a7 a8 a9 b0 b1 b2 b3 b4 b5 b6 b7 : AV) : keepS [] [a,b,c,d,e,f,g,h,i,j,k,l,m,n,o,p,q,r,s,t,u,v,w,x,y,z,a0,a1,a2,a3,a4,a5,a6,a7,a8,a9,b0,b1,b2,b3,b4,b5,b6,b7] 0 = [.unk,.unk,.unk,.unk,.unk,.unk,.unk,.unk,.unk,.unk,.unk,.unk,.unk,.unk,.unk,.unk,.unk,.unk,.unk,.unk,.unk,.unk,.unk,.unk,.unk,.unk,.unk,.unk,.unk,.unk,.unk,.unk,.unk,.unk,.unk,.unk,.unk,.unk,.unk,.unk,.unk,.unk,.unk,.unk] := rfl
@[go_sem] theorem ks30_2 (a b c d e f g h i j k l m n o p q r s t u v w x y z a0 a1 a2 a3 a4 a5 a6 a7 a8 a9 b0 b1 b2 b3 b4 b5 b6 b7 : AV) : keepS [2] [a,b,c,d,e,f,g,h,i,j,k,l,m,n,o,p,q,r,s,t,u,v,w,x,y,z,a0,a1,a2,a3,a4,a5,a6,a7,a8,a9,b0,b1,b2,b3,b4,b5,b6,b7] 0 = [.unk,.unk,c,.unk,.unk,.unk,.unk,.unk,.unk,.unk,.unk,.unk,.unk,.unk,.unk,.unk,.unk,.unk,.unk,.unk,.unk,.unk,.unk,.unk,.unk,.unk,.unk,.unk,.unk,.unk,.unk,.unk,.unk,.unk,.unk,.unk,.unk,.unk,.unk,.unk,.unk,.unk,.unk,.unk] := rfl
/-- spence/diff.one -/
def bd30 : C :=
  (.seq (.reg [⟨some 1, none, .box 34 (.s 0), .none⟩,
      ⟨some 2, none, .mv (.c (.d (.bool false))), .none⟩])
  (.seq (.seq (.reg [⟨some 5, none, .fa (.s 1) 5, .none⟩,
       ⟨some 6, none, .ld (.s 5) 1 false, .none⟩,
       ⟨some 7, none, .len (.s 6), .none⟩,
       ⟨some 8, none, .mv (.c (.d (.int .i64 0))), .none⟩])
   (.block 0 (.loop [1, 6, 7, 8] lp30_0)))
  (.seq (.reg [⟨some 2, none, .mv (.c (.d (.bool true))), .none⟩])
  (.ret none))))
def ir30 : F := { n := 44, res := [.tmp 2], body := bd30 }
@[go_sem] theorem n30 : ir30.n = 44 := rfl
@[go_sem] theorem r30 : ir30.res = [.tmp 2] := rfl
@[go_sem] theorem b30 : ir30.body = bd30 := rfl
def lb31_0 : C :=
  (.seq (.reg [⟨some 8, none, .bin .lss (.s 7) (.s 6), .none⟩])
  (.seq (.cond (.s 8)
    .skip
    (.exit 0 (some [])))
  (.seq (.block 1 (.seq (.reg [⟨some 9, none, .mv (.s 7), .none⟩,
        ⟨some 10, none, .is (.s 5) (.s 7) 10, .none⟩,
        ⟨some 11, none, .ld (.s 10) 10 true, .none⟩,
        ⟨some 4, none, .alloc 32 [.int .i64 0, .bool false, .bool false, .int .i64 0, .int .i64 0, .str [], .int .i64 0, .int .i64 0, .nils, .nils], .cells [(8, 4, false), (9, 1, false)]⟩,
        ⟨some 3, none, .mv (.s 9), .none⟩,
        ⟨none, none, .st (.s 4) (.s 11) 10, .none⟩])
    (.seq (.drw [⟨some 12, none, .mv (.s 3), .none⟩,
        ⟨some 13, none, .bin .gtr (.s 12) (.c (.d (.int .i64 0))), .none⟩,
        ⟨some 14, none, .mv (.s 13), .none⟩,
        ⟨some 15, some (14, true), .mv (.s 0), .none⟩,
        ⟨some 16, some (14, true), .mv (.s 3), .none⟩,
        ⟨some 17, some (14, true), .bin .sub (.s 16) (.c (.d (.int .i64 1))), .none⟩,
        ⟨some 18, some (14, true), .is (.s 15) (.s 17) 10, .none⟩,
        ⟨some 19, some (14, true), .fa (.s 18) 0, .none⟩,
        ⟨some 20, some (14, true), .ld (.s 19) 1 false, .none⟩,
        ⟨some 21, some (14, true), .fa (.s 4) 0, .none⟩,
        ⟨some 22, some (14, true), .ld (.s 21) 1 false, .none⟩,
        ⟨some 23, some (14, true), .bin .geq (.s 20) (.s 22), .none⟩,
        ⟨some 24, none, .pick (.s 14) (.s 23) (.c (.d (.bool false))), .none⟩,
        ⟨some 25, none, .mv (.s 24), .none⟩,
        ⟨some 26, some (25, false), .fa (.s 4) 1, .none⟩,
        ⟨some 27, some (25, false), .ld (.s 26) 1 false, .none⟩,
        ⟨some 28, some (25, false), .mv (.s 27), .none⟩,
        ⟨some 29, some (28, true), .fa (.s 4) 3, .none⟩,
        ⟨some 30, some (28, true), .fa (.s 29) 0, .none⟩,
        ⟨some 31, some (28, true), .ld (.s 30) 1 false, .none⟩,
        ⟨some 32, some (28, true), .fa (.s 4) 0, .none⟩,
        ⟨some 33, some (28, true), .ld (.s 32) 1 false, .none⟩,
        ⟨some 34, some (28, true), .bin .neq (.s 31) (.s 33), .none⟩,
        ⟨some 35, some (25, false), .pick (.s 28) (.s 34) (.c (.d (.bool false))), .none⟩,
        ⟨some 36, none, .pick (.s 25) (.c (.d (.bool true))) (.s 35), .none⟩]
       [[], [0], [1], [2], [2], [4, 2], [3, 5, 2], [6, 2], [7, 2], [2], [9, 2], [8, 10, 2], [2, 11], [12, 2], [13], [14, 13], [15, 13, 13], [16], [17, 16], [18, 16], [16], [20, 16], [19, 21, 16], [16, 22, 13], [13, 23]] [])
    (.cond (.s 36)
     (.seq (.reg [⟨some 2, none, .mv (.c (.d (.bool false))), .none⟩])
     (.ret (some [2])))
     .skip))))
  (.reg [⟨some 37, none, .bin .add (.s 7) (.c (.d (.int .i64 1))), .none⟩,
     ⟨some 7, none, .mv (.s 37), .none⟩]))))
def lp31_0 : C := lb31_0
theorem u31_0 (c : Ev.Callee) (l : Ev.Looper) (s : St) : evC c l lp31_0 s = evC c l lb31_0 s := rfl
abbrev st31_0 (m : Nat) (s0 s5 s6 s7 : AV) (h : Heap) : St := ⟨m,[s0,.unk,.unk,.unk,.unk,s5,s6,s7,.unk,.unk,.unk,.unk,.unk,.unk,.unk,.unk,.unk,.unk,.unk,.unk,.unk,.unk,.unk,.unk,.unk,.unk,.unk,.unk,.unk,.unk,.unk,.unk,.unk,.unk,.unk,.unk,.unk,.unk],h⟩
@[go_sem] theorem ks31_0 (a b c d e f g h i j k l m n o p q r s t u v w x y z a0 a1 a2 a3 a4 a5 a6 a7 a8 a9 b0 b1 : AV) : keepS [0,5,6,7] [a,b,c,d,e,f,g,h,i,j,k,l,m,n,o,p,q,r,s,t,u,v,w,x,y,z,a0,a1,a2,a3,a4,a5,a6,a7,a8,a9,b0,b1] 0 = [a,.unk,.unk,.unk,.unk,f,g,h,.unk,.unk,.unk,.unk,.unk,.unk,.unk,.unk,.unk,.unk,.unk,.unk,.unk,.unk,.unk,.unk,.unk,.unk,.unk,.unk,.unk,.unk,.unk,.unk,.unk,.unk,.unk,.unk,.unk,.unk] := rfl
@[go_sem] theorem ks31_1 (a b c d e f g h i j k l m n o p q r s t u v w x y z a0 a1 a2 a3 a4 a5 a6 a7 a8 a9 b0 b1 : AV) : keepS [] [a,b,c,d,e,f,g,h,i,j,k,l,m,n,o,p,q,r,s,t,u,v,w,x,y,z,a0,a1,a2,a3,a4,a5,a6,a7,a8,a9,b0,b1] 0 = [.unk,.unk,.unk,.unk,.unk,.unk,.unk,.unk,.unk,.unk,.unk,.unk,.unk,.unk,.unk,.unk,.unk,.unk,.unk,.unk,.unk,.unk,.unk,.unk,.unk,.unk,.unk,.unk,.unk,.unk,.unk,.unk,.unk,.unk,.unk,.unk,.unk,.unk] := rfl
@[go_sem] theorem ks31_2 (a b c d e f g h i j k l m n o p q r s t u v w x y z a0 a1 a2 a3 a4 a5 a6 a7 a8 a9 b0 b1 : AV) : keepS [2] [a,b,c,d,e,f,g,h,i,j,k,l,m,n,o,p,q,r,s,t,u,v,w,x,y,z,a0,a1,a2,a3,a4,a5,a6,a7,a8,a9,b0,b1] 0 = [.unk,.unk,c,.unk,.unk,.unk,.unk,.unk,.unk,.unk,.unk,.unk,.unk,.unk,.unk,.unk,.unk,.unk,.unk,.unk,.unk,.unk,.unk,.unk,.unk,.unk,.unk,.unk,.unk,.unk,.unk,.unk,.unk,.unk,.unk,.unk,.unk,.unk] := rfl
/-- spence/diff.rises -/
def bd31 : C :=
  (.seq (.reg [⟨some 2, none, .mv (.c (.d (.bool false))), .none⟩])
  (.seq (.seq (.reg [⟨some 5, none, .mv (.s 0), .none⟩,
       ⟨some 6, none, .len (.s 5), .none⟩,
       ⟨some 7, none, .mv (.c (.d (.int .i64 0))), .none⟩])
   (.block 0 (.loop [0, 5, 6, 7] lp31_0)))
  (.seq (.reg [⟨some 2, none, .mv (.c (.d (.bool true))), .none⟩])
  (.ret none))))
def ir31 : F := { n := 38, res := [.tmp 2], body := bd31 }
@[go_sem] theorem n31 : ir31.n = 38 := rfl
@[go_sem] theorem r31 : ir31.res = [.tmp 2] := rfl
@[go_sem] theorem b31 : ir31.body = bd31 := rfl
def lb33_0 : C :=
  (.seq (.reg [⟨some 10, none, .bin .lss (.s 9) (.s 8), .none⟩])
  (.seq (.cond (.s 10)
    .skip
    (.exit 0 (some [3])))
  (.seq (.block 1 (.seq (.reg [⟨some 11, none, .mv (.s 9), .none⟩,
        ⟨some 4, none, .mv (.s 11), .none⟩])
    (.reg [⟨some 12, none, .mv (.s 3), .none⟩,
       ⟨some 13, none, .mv (.s 4), .none⟩,
       ⟨some 14, none, .mv (.s 3), .none⟩,
       ⟨some 15, none, .mv (.s 4), .none⟩,
       ⟨some 16, none, .is (.s 14) (.s 15) 4, .none⟩,
       ⟨some 17, none, .fa (.s 16) 3, .none⟩,
       ⟨some 18, none, .ld (.s 17) 1 false, .none⟩,
       ⟨some 19, none, .call 48 [.s 18] 2, .none⟩,
       ⟨some 20, none, .is (.s 12) (.s 13) 4, .none⟩,
       ⟨some 21, none, .fa (.s 20) 3, .none⟩,
       ⟨none, none, .st (.s 21) (.s 19) 1, .none⟩])))
  (.reg [⟨some 22, none, .bin .add (.s 9) (.c (.d (.int .i64 1))), .none⟩,
     ⟨some 9, none, .mv (.s 22), .none⟩]))))
def lp33_0 : C := lb33_0
theorem u33_0 (c : Ev.Callee) (l : Ev.Looper) (s : St) : evC c l lp33_0 s = evC c l lb33_0 s := rfl
abbrev st33_0 (m : Nat) (s3 s8 s9 : AV) (h : Heap) : St := ⟨m,[.unk,.unk,.unk,s3,.unk,.unk,.unk,.unk,s8,s9,.unk,.unk,.unk,.unk,.unk,.unk,.unk,.unk,.unk,.unk,.unk,.unk,.unk,.unk],h⟩
@[go_sem] theorem ks33_0 (a b c d e f g h i j k l m n o p q r s t u v w x : AV) : keepS [3,8,9] [a,b,c,d,e,f,g,h,i,j,k,l,m,n,o,p,q,r,s,t,u,v,w,x] 0 = [.unk,.unk,.unk,d,.unk,.unk,.unk,.unk,i,j,.unk,.unk,.unk,.unk,.unk,.unk,.unk,.unk,.unk,.unk,.unk,.unk,.unk,.unk] := rfl
@[go_sem] theorem ks33_1 (a b c d e f g h i j k l m n o p q r s t u v w x : AV) : keepS [3] [a,b,c,d,e,f,g,h,i,j,k,l,m,n,o,p,q,r,s,t,u,v,w,x] 0 = [.unk,.unk,.unk,d,.unk,.unk,.unk,.unk,.unk,.unk,.unk,.unk,.unk,.unk,.unk,.unk,.unk,.unk,.unk,.unk,.unk,.unk,.unk,.unk] := rfl
/-- spence/diff.copied -/
def bd33 : C :=
  (.seq (.reg [⟨some 2, none, .mv (.c (.d .nils)), .one 4 false⟩])
  (.seq (.reg [⟨some 5, none, .mv (.s 0), .none⟩,
      ⟨some 6, none, .call 47 [.s 5] 0, .none⟩,
      ⟨some 3, none, .mv (.s 6), .none⟩])
  (.seq (.seq (.reg [⟨some 7, none, .mv (.s 3), .none⟩,
       ⟨some 8, none, .len (.s 7), .none⟩,
       ⟨some 9, none, .mv (.c (.d (.int .i64 0))), .none⟩])
   (.block 0 (.loop [3, 8, 9] lp33_0)))
  (.seq (.reg [⟨some 23, none, .mv (.s 3), .none⟩,
      ⟨some 2, none, .mv (.s 23), .none⟩])
  (.ret none)))))
def ir33 : F := { n := 24, res := [.tmp 2], body := bd33 }
@[go_sem] theorem n33 : ir33.n = 24 := rfl
@[go_sem] theorem r33 : ir33.res = [.tmp 2] := rfl
@[go_sem] theorem b33 : ir33.body = bd33 := rfl
/-- spence/diff.Apply$1 -/
def bd34 : C :=
  (.seq (.reg [⟨some 2, none, .box 34 (.s 0), .none⟩,
      ⟨some 3, none, .mv (.c (.d (.bool false))), .none⟩])
  (.seq (.reg [⟨some 4, none, .fa (.s 2) 0, .none⟩,
      ⟨some 5, none, .fa (.s 4) 0, .none⟩,
      ⟨some 6, none, .ld (.s 5) 1 false, .none⟩,
      ⟨some 7, none, .fa (.s 1) 0, .none⟩,
      ⟨some 8, none, .ld (.s 7) 1 false, .none⟩,
      ⟨some 9, none, .bin .eql (.s 6) (.s 8), .none⟩,
      ⟨some 3, none, .mv (.s 9), .none⟩])
  (.ret none)))
def ir34 : F := { n := 10, res := [.tmp 3], body := bd34 }
@[go_sem] theorem n34 : ir34.n = 10 := rfl
@[go_sem] theorem r34 : ir34.res = [.tmp 3] := rfl
@[go_sem] theorem b34 : ir34.body = bd34 := rfl
def lb35_0 : C :=
  (.seq (.seq (.reg [⟨some 16, none, .mv (.s 6), .none⟩,
       ⟨some 17, none, .mv (.s 0), .none⟩,
       ⟨some 18, none, .len (.s 17), .none⟩,
       ⟨some 19, none, .bin .lss (.s 16) (.s 18), .none⟩])
   (.cond (.s 19)
    .skip
    (.exit 0 (some [0, 5]))))
  (.seq (.block 1 (.seq (.reg [⟨some 22, none, .mv (.s 0), .none⟩,
        ⟨some 23, none, .mv (.s 6), .none⟩,
        ⟨some 24, none, .is (.s 22) (.s 23) 6, .none⟩,
        ⟨some 25, none, .ld (.s 24) 6 true, .none⟩,
        ⟨some 7, none, .alloc 34 [.int .i64 0, .int .i64 0, .str [], .int .i64 0, .int .i64 0, .nils], .cells [(5, 4, false)]⟩,
        ⟨none, none, .st (.s 7) (.s 25) 6, .none⟩])
    (.seq (.reg [⟨some 26, none, .mv (.s 1), .none⟩,
        ⟨some 27, none, .ld (.s 7) 6 true, .none⟩,
        ⟨some 28, none, .callv (.s 26) [.s 27] 0, .none⟩,
        ⟨some 29, none, .un .not (.s 28), .none⟩])
    (.cond (.s 29)
     (.seq (.reg [⟨some 30, none, .mv (.s 0), .none⟩,
         ⟨some 31, none, .mv (.s 5), .none⟩,
         ⟨some 32, none, .ld (.s 7) 6 true, .none⟩,
         ⟨some 33, none, .is (.s 30) (.s 31) 6, .none⟩,
         ⟨none, none, .st (.s 33) (.s 32) 6, .none⟩])
     (.reg [⟨some 34, none, .mv (.s 5), .none⟩,
        ⟨some 35, none, .bin .add (.s 34) (.c (.d (.int .i64 1))), .none⟩,
        ⟨some 5, none, .mv (.s 35), .none⟩]))
     .skip))))
  (.reg [⟨some 20, none, .mv (.s 6), .none⟩,
     ⟨some 21, none, .bin .add (.s 20) (.c (.d (.int .i64 1))), .none⟩,
     ⟨some 6, none, .mv (.s 21), .none⟩])))
def lp35_0 : C := lb35_0
theorem u35_0 (c : Ev.Callee) (l : Ev.Looper) (s : St) : evC c l lp35_0 s = evC c l lb35_0 s := rfl
abbrev st35_0 (m : Nat) (s0 s1 s5 s6 : AV) (h : Heap) : St := ⟨m,[s0,s1,.unk,.unk,.unk,s5,s6,.unk,.unk,.unk,.unk,.unk,.unk,.unk,.unk,.unk,.unk,.unk,.unk,.unk,.unk,.unk,.unk,.unk,.unk,.unk,.unk,.unk,.unk,.unk,.unk,.unk,.unk,.unk,.unk,.unk,.unk,.unk,.unk,.unk,.unk,.unk],h⟩
@[go_sem] theorem ks35_0 (a b c d e f g h i j k l m n o p q r s t u v w x y z a0 a1 a2 a3 a4 a5 a6 a7 a8 a9 b0 b1 b2 b3 b4 b5 : AV) : keepS [0,1,5,6] [a,b,c,d,e,f,g,h,i,j,k,l,m,n,o,p,q,r,s,t,u,v,w,x,y,z,a0,a1,a2,a3,a4,a5,a6,a7,a8,a9,b0,b1,b2,b3,b4,b5] 0 = [a,b,.unk,.unk,.unk,f,g,.unk,.unk,.unk,.unk,.unk,.unk,.unk,.unk,.unk,.unk,.unk,.unk,.unk,.unk,.unk,.unk,.unk,.unk,.unk,.unk,.unk,.unk,.unk,.unk,.unk,.unk,.unk,.unk,.unk,.unk,.unk,.unk,.unk,.unk,.unk] := rfl
@[go_sem] theorem ks35_1 (a b c d e f g h i j k l m n o p q r s t u v w x y z a0 a1 a2 a3 a4 a5 a6 a7 a8 a9 b0 b1 b2 b3 b4 b5 : AV) : keepS [0,5] [a,b,c,d,e,f,g,h,i,j,k,l,m,n,o,p,q,r,s,t,u,v,w,x,y,z,a0,a1,a2,a3,a4,a5,a6,a7,a8,a9,b0,b1,b2,b3,b4,b5] 0 = [a,.unk,.unk,.unk,.unk,f,.unk,.unk,.unk,.unk,.unk,.unk,.unk,.unk,.unk,.unk,.unk,.unk,.unk,.unk,.unk,.unk,.unk,.unk,.unk,.unk,.unk,.unk,.unk,.unk,.unk,.unk,.unk,.unk,.unk,.unk,.unk,.unk,.unk,.unk,.unk,.unk] := rfl
/-- slices.DeleteFunc[[]spence/recovery.Held,spence/recovery.Held] -/
def bd35 : C :=
  (.seq (.reg [⟨some 4, none, .mv (.c (.d .nils)), .one 6 false⟩])
  (.seq (.reg [⟨some 8, none, .mv (.s 0), .none⟩,
      ⟨some 9, none, .mv (.s 1), .none⟩,
      ⟨some 10, none, .call 40 [.s 8, .s 9] 1, .none⟩,
      ⟨some 5, none, .mv (.s 10), .none⟩])
  (.seq (.seq (.reg [⟨some 11, none, .mv (.s 5), .none⟩,
       ⟨some 12, none, .bin .eql (.s 11) (.c (.d (.int .i64 (-1)))), .none⟩])
   (.cond (.s 12)
    (.seq (.reg [⟨some 13, none, .mv (.s 0), .none⟩,
        ⟨some 4, none, .mv (.s 13), .none⟩])
    (.ret none))
    .skip))
  (.seq (.seq (.reg [⟨some 14, none, .mv (.s 5), .none⟩,
       ⟨some 15, none, .bin .add (.s 14) (.c (.d (.int .i64 1))), .none⟩,
       ⟨some 6, none, .mv (.s 15), .none⟩])
   (.block 0 (.loop [0, 1, 5, 6] lp35_0)))
  (.seq (.reg [⟨some 36, none, .mv (.s 0), .none⟩,
      ⟨some 37, none, .mv (.s 5), .none⟩,
      ⟨some 38, none, .sl (.s 36) (some (.s 37)) none none 6, .none⟩,
      ⟨none, none, .bcall (.clr [.int .i64 0, .int .i64 0, .str [], .int .i64 0, .int .i64 0, .nils]) [.s 38], .none⟩])
  (.seq (.reg [⟨some 39, none, .mv (.s 0), .none⟩,
      ⟨some 40, none, .mv (.s 5), .none⟩,
      ⟨some 41, none, .sl (.s 39) none (some (.s 40)) none 6, .none⟩,
      ⟨some 4, none, .mv (.s 41), .none⟩])
  (.ret none)))))))
def ir35 : F := { n := 42, res := [.tmp 4], body := bd35 }
@[go_sem] theorem n35 : ir35.n = 42 := rfl
@[go_sem] theorem r35 : ir35.res = [.tmp 4] := rfl
@[go_sem] theorem b35 : ir35.body = bd35 := rfl
def lb36_1 : C :=
  (.seq (.reg [⟨some 73, none, .bin .lss (.s 72) (.s 71), .none⟩])
  (.seq (.cond (.s 73)
    .skip
    (.exit 2 (some [3, 6])))
  (.seq (.block 3 (.seq (.reg [⟨some 74, none, .is (.s 70) (.s 72) 1, .none⟩,
        ⟨some 75, none, .ld (.s 74) 1 false, .none⟩,
        ⟨some 14, none, .mv (.s 75), .none⟩])
    (.drw [⟨some 76, none, .fa (.s 3) 5, .none⟩,
       ⟨some 77, none, .ld (.s 76) 1 false, .none⟩,
       ⟨some 78, none, .mv (.s 8), .none⟩,
       ⟨some 79, none, .mv (.s 14), .none⟩,
       ⟨some 80, none, .mget (.s 78) (.s 79) (.agg [.d (.int .i64 0), .d (.int .i64 0), .d (.int .i64 0), .d .nils]) false, .none⟩,
       ⟨some 81, none, .bsl 39 4 1 [.int .i64 0, .int .i64 0, .int .i64 0, .nils] [(0, (4, .s 80))], .dat⟩,
       ⟨some 82, none, .call 33 [.s 81] 2, .none⟩,
       ⟨some 83, none, .app 39 4 48 (.s 77) (.s 82), .none⟩,
       ⟨some 84, none, .fa (.s 3) 5, .none⟩,
       ⟨none, none, .st (.s 84) (.s 83) 1, .none⟩]
      [[], [0], [], [], [2, 3], [4], [5], [1, 6, 6], [0, 1, 2, 3, 4, 5, 6, 7], [8, 7, 7, 0, 1, 2, 3, 4, 5, 6, 7]] [])))
  (.reg [⟨some 85, none, .bin .add (.s 72) (.c (.d (.int .i64 1))), .none⟩,
     ⟨some 72, none, .mv (.s 85), .none⟩]))))
def lp36_1 : C := lb36_1
theorem u36_1 (c : Ev.Callee) (l : Ev.Looper) (s : St) : evC c l lp36_1 s = evC c l lb36_1 s := rfl
abbrev st36_1 (m : Nat) (s3 s6 s8 s70 s71 s72 : AV) (h : Heap) : St := ⟨m,[.unk,.unk,.unk,s3,.unk,.unk,s6,.unk,s8,.unk,.unk,.unk,.unk,.unk,.unk,.unk,.unk,.unk,.unk,.unk,.unk,.unk,.unk,.unk,.unk,.unk,.unk,.unk,.unk,.unk,.unk,.unk,.unk,.unk,.unk,.unk,.unk,.unk,.unk,.unk,.unk,.unk,.unk,.unk,.unk,.unk,.unk,.unk,.unk,.unk,.unk,.unk,.unk,.unk,.unk,.unk,.unk,.unk,.unk,.unk,.unk,.unk,.unk,.unk,.unk,.unk,.unk,.unk,.unk,.unk,s70,s71,s72,.unk,.unk,.unk,.unk,.unk,.unk,.unk,.unk,.unk,.unk,.unk,.unk,.unk,.unk],h⟩
def lb36_0 : C :=
  (.seq (.reg [⟨some 47, none, .bin .lss (.s 46) (.s 45), .none⟩])
  (.seq (.cond (.s 47)
    .skip
    (.exit 0 (some [3, 5, 6, 8])))
  (.seq (.block 1 (.seq (.reg [⟨some 48, none, .is (.s 44) (.s 46) 1, .none⟩,
        ⟨some 49, none, .ld (.s 48) 1 false, .none⟩,
        ⟨some 10, none, .mv (.s 49), .none⟩])
    (.seq (.seq (.reg [⟨some 51, none, .mv (.s 8), .none⟩,
         ⟨some 52, none, .mv (.s 10), .none⟩,
         ⟨some 53, none, .mget (.s 51) (.s 52) (.agg [.d (.int .i64 0), .d (.int .i64 0), .d (.int .i64 0), .d .nils]) true, .none⟩,
         ⟨some 50, none, .mv (.s 53), .none⟩,
         ⟨some 54, none, .ext (.s 50) 0, .none⟩,
         ⟨some 55, none, .ext (.s 50) 1, .none⟩,
         ⟨some 11, none, .alloc 39 [.int .i64 0, .int .i64 0, .int .i64 0, .nils], .cells [(3, 1, false)]⟩,
         ⟨none, none, .st (.s 11) (.s 54) 4, .none⟩,
         ⟨some 12, none, .mv (.s 55), .none⟩])
     (.seq (.reg [⟨some 56, none, .mv (.s 12), .none⟩,
         ⟨some 57, none, .un .not (.s 56), .none⟩])
     (.cond (.s 57)
      (.seq (.reg [⟨some 58, none, .ld (.s 3) 6 true, .none⟩,
          ⟨none, none, .st (.s 6) (.s 58) 6, .none⟩,
          ⟨some 7, none, .mv (.c (.d (.int .i64 8))), .none⟩])
      (.ret (some [6, 7])))
      .skip)))
    (.reg [⟨some 59, none, .mv (.s 8), .none⟩,
       ⟨some 60, none, .mv (.s 10), .none⟩,
       ⟨none, none, .mdel (.s 59) (.s 60), .none⟩]))))
  (.reg [⟨some 61, none, .bin .add (.s 46) (.c (.d (.int .i64 1))), .none⟩,
     ⟨some 46, none, .mv (.s 61), .none⟩]))))
def lp36_0 : C := lb36_0
theorem u36_0 (c : Ev.Callee) (l : Ev.Looper) (s : St) : evC c l lp36_0 s = evC c l lb36_0 s := rfl
abbrev st36_0 (m : Nat) (s3 s5 s6 s8 s44 s45 s46 : AV) (h : Heap) : St := ⟨m,[.unk,.unk,.unk,s3,.unk,s5,s6,.unk,s8,.unk,.unk,.unk,.unk,.unk,.unk,.unk,.unk,.unk,.unk,.unk,.unk,.unk,.unk,.unk,.unk,.unk,.unk,.unk,.unk,.unk,.unk,.unk,.unk,.unk,.unk,.unk,.unk,.unk,.unk,.unk,.unk,.unk,.unk,.unk,s44,s45,s46,.unk,.unk,.unk,.unk,.unk,.unk,.unk,.unk,.unk,.unk,.unk,.unk,.unk,.unk,.unk,.unk,.unk,.unk,.unk,.unk,.unk,.unk,.unk,.unk,.unk,.unk,.unk,.unk,.unk,.unk,.unk,.unk,.unk,.unk,.unk,.unk,.unk,.unk,.unk,.unk],h⟩
@[go_sem] theorem ks36_0 (a b c d e f g h i j k l m n o p q r s t u v w x y z a0 a1 a2 a3 a4 a5 a6 a7 a8 a9 b0 b1 b2 b3 b4 b5 b6 b7 b8 b9 c0 c1 c2 c3 c4 c5 c6 c7 c8 c9 d0 d1 d2 d3 d4 d5 d6 d7 d8 d9 e0 e1 e2 e3 e4 e5 e6 e7 e8 e9 f0 f1 f2 f3 f4 f5 f6 f7 f8 f9 g0 : AV) : keepS [3,5,6,8] [a,b,c,d,e,f,g,h,i,j,k,l,m,n,o,p,q,r,s,t,u,v,w,x,y,z,a0,a1,a2,a3,a4,a5,a6,a7,a8,a9,b0,b1,b2,b3,b4,b5,b6,b7,b8,b9,c0,c1,c2,c3,c4,c5,c6,c7,c8,c9,d0,d1,d2,d3,d4,d5,d6,d7,d8,d9,e0,e1,e2,e3,e4,e5,e6,e7,e8,e9,f0,f1,f2,f3,f4,f5,f6,f7,f8,f9,g0] 0 = [.unk,.unk,.unk,d,.unk,f,g,.unk,i,.unk,.unk,.unk,.unk,.unk,.unk,.unk,.unk,.unk,.unk,.unk,.unk,.unk,.unk,.unk,.unk,.unk,.unk,.unk,.unk,.unk,.unk,.unk,.unk,.unk,.unk,.unk,.unk,.unk,.unk,.unk,.unk,.unk,.unk,.unk,.unk,.unk,.unk,.unk,.unk,.unk,.unk,.unk,.unk,.unk,.unk,.unk,.unk,.unk,.unk,.unk,.unk,.unk,.unk,.unk,.unk,.unk,.unk,.unk,.unk,.unk,.unk,.unk,.unk,.unk,.unk,.unk,.unk,.unk,.unk,.unk,.unk,.unk,.unk,.unk,.unk,.unk,.unk] := rfl
@[go_sem] theorem ks36_1 (a b c d e f g h i j k l m n o p q r s t u v w x y z a0 a1 a2 a3 a4 a5 a6 a7 a8 a9 b0 b1 b2 b3 b4 b5 b6 b7 b8 b9 c0 c1 c2 c3 c4 c5 c6 c7 c8 c9 d0 d1 d2 d3 d4 d5 d6 d7 d8 d9 e0 e1 e2 e3 e4 e5 e6 e7 e8 e9 f0 f1 f2 f3 f4 f5 f6 f7 f8 f9 g0 : AV) : keepS [3,5,6,8,44,45,46] [a,b,c,d,e,f,g,h,i,j,k,l,m,n,o,p,q,r,s,t,u,v,w,x,y,z,a0,a1,a2,a3,a4,a5,a6,a7,a8,a9,b0,b1,b2,b3,b4,b5,b6,b7,b8,b9,c0,c1,c2,c3,c4,c5,c6,c7,c8,c9,d0,d1,d2,d3,d4,d5,d6,d7,d8,d9,e0,e1,e2,e3,e4,e5,e6,e7,e8,e9,f0,f1,f2,f3,f4,f5,f6,f7,f8,f9,g0] 0 = [.unk,.unk,.unk,d,.unk,f,g,.unk,i,.unk,.unk,.unk,.unk,.unk,.unk,.unk,.unk,.unk,.unk,.unk,.unk,.unk,.unk,.unk,.unk,.unk,.unk,.unk,.unk,.unk,.unk,.unk,.unk,.unk,.unk,.unk,.unk,.unk,.unk,.unk,.unk,.unk,.unk,.unk,b8,b9,c0,.unk,.unk,.unk,.unk,.unk,.unk,.unk,.unk,.unk,.unk,.unk,.unk,.unk,.unk,.unk,.unk,.unk,.unk,.unk,.unk,.unk,.unk,.unk,.unk,.unk,.unk,.unk,.unk,.unk,.unk,.unk,.unk,.unk,.unk,.unk,.unk,.unk,.unk,.unk,.unk] := rfl
@[go_sem] theorem ks36_2 (a b c d e f g h i j k l m n o p q r s t u v w x y z a0 a1 a2 a3 a4 a5 a6 a7 a8 a9 b0 b1 b2 b3 b4 b5 b6 b7 b8 b9 c0 c1 c2 c3 c4 c5 c6 c7 c8 c9 d0 d1 d2 d3 d4 d5 d6 d7 d8 d9 e0 e1 e2 e3 e4 e5 e6 e7 e8 e9 f0 f1 f2 f3 f4 f5 f6 f7 f8 f9 g0 : AV) : keepS [6,7] [a,b,c,d,e,f,g,h,i,j,k,l,m,n,o,p,q,r,s,t,u,v,w,x,y,z,a0,a1,a2,a3,a4,a5,a6,a7,a8,a9,b0,b1,b2,b3,b4,b5,b6,b7,b8,b9,c0,c1,c2,c3,c4,c5,c6,c7,c8,c9,d0,d1,d2,d3,d4,d5,d6,d7,d8,d9,e0,e1,e2,e3,e4,e5,e6,e7,e8,e9,f0,f1,f2,f3,f4,f5,f6,f7,f8,f9,g0] 0 = [.unk,.unk,.unk,.unk,.unk,.unk,g,h,.unk,.unk,.unk,.unk,.unk,.unk,.unk,.unk,.unk,.unk,.unk,.unk,.unk,.unk,.unk,.unk,.unk,.unk,.unk,.unk,.unk,.unk,.unk,.unk,.unk,.unk,.unk,.unk,.unk,.unk,.unk,.unk,.unk,.unk,.unk,.unk,.unk,.unk,.unk,.unk,.unk,.unk,.unk,.unk,.unk,.unk,.unk,.unk,.unk,.unk,.unk,.unk,.unk,.unk,.unk,.unk,.unk,.unk,.unk,.unk,.unk,.unk,.unk,.unk,.unk,.unk,.unk,.unk,.unk,.unk,.unk,.unk,.unk,.unk,.unk,.unk,.unk,.unk,.unk] := rfl
@[go_sem] theorem ks36_3 (a b c d e f g h i j k l m n o p q r s t u v w x y z a0 a1 a2 a3 a4 a5 a6 a7 a8 a9 b0 b1 b2 b3 b4 b5 b6 b7 b8 b9 c0 c1 c2 c3 c4 c5 c6 c7 c8 c9 d0 d1 d2 d3 d4 d5 d6 d7 d8 d9 e0 e1 e2 e3 e4 e5 e6 e7 e8 e9 f0 f1 f2 f3 f4 f5 f6 f7 f8 f9 g0 : AV) : keepS [3,6,8,70,71,72] [a,b,c,d,e,f,g,h,i,j,k,l,m,n,o,p,q,r,s,t,u,v,w,x,y,z,a0,a1,a2,a3,a4,a5,a6,a7,a8,a9,b0,b1,b2,b3,b4,b5,b6,b7,b8,b9,c0,c1,c2,c3,c4,c5,c6,c7,c8,c9,d0,d1,d2,d3,d4,d5,d6,d7,d8,d9,e0,e1,e2,e3,e4,e5,e6,e7,e8,e9,f0,f1,f2,f3,f4,f5,f6,f7,f8,f9,g0] 0 = [.unk,.unk,.unk,d,.unk,.unk,g,.unk,i,.unk,.unk,.unk,.unk,.unk,.unk,.unk,.unk,.unk,.unk,.unk,.unk,.unk,.unk,.unk,.unk,.unk,.unk,.unk,.unk,.unk,.unk,.unk,.unk,.unk,.unk,.unk,.unk,.unk,.unk,.unk,.unk,.unk,.unk,.unk,.unk,.unk,.unk,.unk,.unk,.unk,.unk,.unk,.unk,.unk,.unk,.unk,.unk,.unk,.unk,.unk,.unk,.unk,.unk,.unk,.unk,.unk,.unk,.unk,.unk,.unk,e4,e5,e6,.unk,.unk,.unk,.unk,.unk,.unk,.unk,.unk,.unk,.unk,.unk,.unk,.unk,.unk] := rfl
@[go_sem] theorem ks36_4 (a b c d e f g h i j k l m n o p q r s t u v w x y z a0 a1 a2 a3 a4 a5 a6 a7 a8 a9 b0 b1 b2 b3 b4 b5 b6 b7 b8 b9 c0 c1 c2 c3 c4 c5 c6 c7 c8 c9 d0 d1 d2 d3 d4 d5 d6 d7 d8 d9 e0 e1 e2 e3 e4 e5 e6 e7 e8 e9 f0 f1 f2 f3 f4 f5 f6 f7 f8 f9 g0 : AV) : keepS [3,6] [a,b,c,d,e,f,g,h,i,j,k,l,m,n,o,p,q,r,s,t,u,v,w,x,y,z,a0,a1,a2,a3,a4,a5,a6,a7,a8,a9,b0,b1,b2,b3,b4,b5,b6,b7,b8,b9,c0,c1,c2,c3,c4,c5,c6,c7,c8,c9,d0,d1,d2,d3,d4,d5,d6,d7,d8,d9,e0,e1,e2,e3,e4,e5,e6,e7,e8,e9,f0,f1,f2,f3,f4,f5,f6,f7,f8,f9,g0] 0 = [.unk,.unk,.unk,d,.unk,.unk,g,.unk,.unk,.unk,.unk,.unk,.unk,.unk,.unk,.unk,.unk,.unk,.unk,.unk,.unk,.unk,.unk,.unk,.unk,.unk,.unk,.unk,.unk,.unk,.unk,.unk,.unk,.unk,.unk,.unk,.unk,.unk,.unk,.unk,.unk,.unk,.unk,.unk,.unk,.unk,.unk,.unk,.unk,.unk,.unk,.unk,.unk,.unk,.unk,.unk,.unk,.unk,.unk,.unk,.unk,.unk,.unk,.unk,.unk,.unk,.unk,.unk,.unk,.unk,.unk,.unk,.unk,.unk,.unk,.unk,.unk,.unk,.unk,.unk,.unk,.unk,.unk,.unk,.unk,.unk,.unk] := rfl
/-- spence/diff.changed -/
def bd36 : C :=
  (.seq (.reg [⟨some 3, none, .box 34 (.s 0), .none⟩,
      ⟨some 5, none, .box 32 (.s 2), .none⟩,
      ⟨some 6, none, .alloc 34 [.int .i64 0, .int .i64 0, .str [], .int .i64 0, .int .i64 0, .nils], .cells [(5, 4, false)]⟩,
      ⟨some 7, none, .mv (.c (.d (.int .i64 0))), .none⟩])
  (.seq (.seq (.reg [⟨some 15, none, .mv (.s 1), .none⟩,
       ⟨some 16, none, .un .not (.s 15), .none⟩,
       ⟨some 17, none, .mv (.s 16), .none⟩,
       ⟨some 18, some (17, true), .fa (.s 5) 1, .none⟩,
       ⟨some 19, some (17, true), .ld (.s 18) 1 false, .none⟩,
       ⟨some 20, some (17, true), .un .not (.s 19), .none⟩,
       ⟨some 21, none, .pick (.s 17) (.s 20) (.c (.d (.bool false))), .none⟩])
   (.cond (.s 21)
    (.seq (.reg [⟨some 22, none, .ld (.s 3) 6 true, .none⟩,
        ⟨none, none, .st (.s 6) (.s 22) 6, .none⟩,
        ⟨some 7, none, .mv (.c (.d (.int .i64 8))), .none⟩])
    (.ret none))
    .skip))
  (.seq (.reg [⟨some 23, none, .fa (.s 3) 5, .none⟩,
      ⟨some 24, none, .ld (.s 23) 1 false, .none⟩,
      ⟨some 25, none, .call 41 [.s 24] 0, .none⟩,
      ⟨some 8, none, .mv (.s 25), .none⟩])
  (.seq (.seq (.reg [⟨some 26, none, .fa (.s 5) 1, .none⟩,
       ⟨some 27, none, .ld (.s 26) 1 false, .none⟩])
   (.cond (.s 27)
    (.seq (.seq (.reg [⟨some 28, none, .mv (.s 1), .none⟩,
         ⟨some 29, none, .un .not (.s 28), .none⟩,
         ⟨some 30, none, .mv (.s 29), .none⟩,
         ⟨some 31, some (30, false), .fa (.s 3) 0, .none⟩,
         ⟨some 32, some (30, false), .fa (.s 31) 1, .none⟩,
         ⟨some 33, some (30, false), .ld (.s 32) 1 false, .none⟩,
         ⟨some 34, some (30, false), .fa (.s 5) 3, .none⟩,
         ⟨some 35, some (30, false), .fa (.s 34) 1, .none⟩,
         ⟨some 36, some (30, false), .ld (.s 35) 1 false, .none⟩,
         ⟨some 37, some (30, false), .bin .neq (.s 33) (.s 36), .none⟩,
         ⟨some 38, none, .pick (.s 30) (.c (.d (.bool true))) (.s 37), .none⟩])
     (.cond (.s 38)
      (.reg [⟨some 39, none, .call 41 [.c (.d .nils)] 0, .none⟩,
         ⟨some 8, none, .mv (.s 39), .none⟩])
      .skip))
    (.ann [3, 5, 6, 8] (.reg [⟨some 40, none, .fa (.s 5) 3, .none⟩,
       ⟨some 41, none, .ld (.s 40) 5 true, .none⟩,
       ⟨some 42, none, .fa (.s 3) 0, .none⟩,
       ⟨none, none, .st (.s 42) (.s 41) 5, .none⟩])))
    .skip))
  (.ann [3, 5, 6, 8] (.seq (.seq (.reg [⟨some 43, none, .fa (.s 5) 9, .none⟩,
       ⟨some 44, none, .ld (.s 43) 1 false, .none⟩,
       ⟨some 45, none, .len (.s 44), .none⟩,
       ⟨some 46, none, .mv (.c (.d (.int .i64 0))), .none⟩])
   (.block 0 (.loop [3, 5, 6, 8, 44, 45, 46] lp36_0)))
  (.seq (.reg [⟨some 62, none, .mv (.s 8), .none⟩,
      ⟨some 63, none, .fa (.s 5) 8, .none⟩,
      ⟨some 64, none, .ld (.s 63) 1 false, .none⟩,
      ⟨some 65, none, .call 41 [.s 64] 2, .none⟩,
      ⟨some 66, none, .call 49 [.s 62, .s 65] 1, .none⟩])
  (.seq (.reg [⟨some 67, none, .fa (.s 3) 5, .none⟩,
      ⟨none, none, .st (.s 67) (.c (.d .nils)) 1, .none⟩])
  (.seq (.seq (.reg [⟨some 68, none, .mv (.s 8), .frz⟩,
       ⟨some 69, none, .call 51 [.s 68] 0, .none⟩,
       ⟨some 70, none, .call 50 [.s 69] 0, .none⟩,
       ⟨some 71, none, .len (.s 70), .none⟩,
       ⟨some 72, none, .mv (.c (.d (.int .i64 0))), .none⟩])
   (.block 2 (.loop [3, 6, 8, 70, 71, 72] lp36_1)))
  (.seq (.reg [⟨some 86, none, .ld (.s 3) 6 true, .cells [(5, 4, false)]⟩,
      ⟨none, none, .st (.s 6) (.s 86) 6, .none⟩,
      ⟨some 7, none, .mv (.c (.d (.int .i64 0))), .none⟩])
  (.ret none)))))))))))
def ir36 : F := { n := 87, res := [.cell 6 6 true, .tmp 7], body := bd36 }
@[go_sem] theorem n36 : ir36.n = 87 := rfl
@[go_sem] theorem r36 : ir36.res = [.cell 6 6 true, .tmp 7] := rfl
@[go_sem] theorem b36 : ir36.body = bd36 := rfl
/-- spence/diff.Apply$2 -/
def bd38 : C :=
  (.seq (.reg [⟨some 2, none, .box 34 (.s 0), .none⟩,
      ⟨some 3, none, .box 34 (.s 1), .none⟩,
      ⟨some 4, none, .mv (.c (.d (.int .i64 0))), .none⟩])
  (.seq (.reg [⟨some 5, none, .fa (.s 2) 0, .none⟩,
      ⟨some 6, none, .fa (.s 5) 0, .none⟩,
      ⟨some 7, none, .ld (.s 6) 1 false, .none⟩,
      ⟨some 8, none, .fa (.s 3) 0, .none⟩,
      ⟨some 9, none, .fa (.s 8) 0, .none⟩,
      ⟨some 10, none, .ld (.s 9) 1 false, .none⟩,
      ⟨some 11, none, .call 23 [.s 7, .s 10] 2, .none⟩,
      ⟨some 4, none, .mv (.s 11), .none⟩])
  (.ret none)))
def ir38 : F := { n := 12, res := [.tmp 4], body := bd38 }
@[go_sem] theorem n38 : ir38.n = 12 := rfl
@[go_sem] theorem r38 : ir38.res = [.tmp 4] := rfl
@[go_sem] theorem b38 : ir38.body = bd38 := rfl
/-- spence/diff.find$1 -/
def bd39 : C :=
  (.seq (.reg [⟨some 2, none, .box 34 (.s 0), .none⟩,
      ⟨some 3, none, .mv (.c (.d (.bool false))), .none⟩])
  (.seq (.reg [⟨some 4, none, .fa (.s 2) 0, .none⟩,
      ⟨some 5, none, .fa (.s 4) 0, .none⟩,
      ⟨some 6, none, .ld (.s 5) 1 false, .none⟩,
      ⟨some 7, none, .ld (.s 1) 1 false, .none⟩,
      ⟨some 8, none, .bin .eql (.s 6) (.s 7), .none⟩,
      ⟨some 3, none, .mv (.s 8), .none⟩])
  (.ret none)))
def ir39 : F := { n := 9, res := [.tmp 3], body := bd39 }
@[go_sem] theorem n39 : ir39.n = 9 := rfl
@[go_sem] theorem r39 : ir39.res = [.tmp 3] := rfl
@[go_sem] theorem b39 : ir39.body = bd39 := rfl
def lb40_0 : C :=
  (.seq (.reg [⟨some 9, none, .bin .lss (.s 8) (.s 7), .none⟩])
  (.seq (.cond (.s 9)
    .skip
    (.exit 0 (some [])))
  (.seq (.block 1 (.seq (.reg [⟨some 10, none, .mv (.s 8), .none⟩,
        ⟨some 5, none, .mv (.s 10), .none⟩])
    (.seq (.reg [⟨some 11, none, .mv (.s 1), .none⟩,
        ⟨some 12, none, .mv (.s 0), .none⟩,
        ⟨some 13, none, .mv (.s 5), .none⟩,
        ⟨some 14, none, .is (.s 12) (.s 13) 6, .none⟩,
        ⟨some 15, none, .ld (.s 14) 6 true, .none⟩,
        ⟨some 16, none, .callv (.s 11) [.s 15] 0, .none⟩])
    (.cond (.s 16)
     (.seq (.reg [⟨some 17, none, .mv (.s 5), .none⟩,
         ⟨some 4, none, .mv (.s 17), .none⟩])
     (.ret (some [4])))
     .skip))))
  (.reg [⟨some 18, none, .bin .add (.s 8) (.c (.d (.int .i64 1))), .none⟩,
     ⟨some 8, none, .mv (.s 18), .none⟩]))))
def lp40_0 : C := lb40_0
theorem u40_0 (c : Ev.Callee) (l : Ev.Looper) (s : St) : evC c l lp40_0 s = evC c l lb40_0 s := rfl
abbrev st40_0 (m : Nat) (s0 s1 s7 s8 : AV) (h : Heap) : St := ⟨m,[s0,s1,.unk,.unk,.unk,.unk,.unk,s7,s8,.unk,.unk,.unk,.unk,.unk,.unk,.unk,.unk,.unk,.unk],h⟩
@[go_sem] theorem ks40_0 (a b c d e f g h i j k l m n o p q r s : AV) : keepS [0,1,7,8] [a,b,c,d,e,f,g,h,i,j,k,l,m,n,o,p,q,r,s] 0 = [a,b,.unk,.unk,.unk,.unk,.unk,h,i,.unk,.unk,.unk,.unk,.unk,.unk,.unk,.unk,.unk,.unk] := rfl
@[go_sem] theorem ks40_1 (a b c d e f g h i j k l m n o p q r s : AV) : keepS [] [a,b,c,d,e,f,g,h,i,j,k,l,m,n,o,p,q,r,s] 0 = [.unk,.unk,.unk,.unk,.unk,.unk,.unk,.unk,.unk,.unk,.unk,.unk,.unk,.unk,.unk,.unk,.unk,.unk,.unk] := rfl
@[go_sem] theorem ks40_2 (a b c d e f g h i j k l m n o p q r s : AV) : keepS [4] [a,b,c,d,e,f,g,h,i,j,k,l,m,n,o,p,q,r,s] 0 = [.unk,.unk,.unk,.unk,e,.unk,.unk,.unk,.unk,.unk,.unk,.unk,.unk,.unk,.unk,.unk,.unk,.unk,.unk] := rfl
/-- slices.IndexFunc[[]spence/recovery.Held,spence/recovery.Held] -/
def bd40 : C :=
  (.seq (.reg [⟨some 4, none, .mv (.c (.d (.int .i64 0))), .none⟩])
  (.seq (.seq (.reg [⟨some 6, none, .mv (.s 0), .none⟩,
       ⟨some 7, none, .len (.s 6), .none⟩,
       ⟨some 8, none, .mv (.c (.d (.int .i64 0))), .none⟩])
   (.block 0 (.loop [0, 1, 7, 8] lp40_0)))
  (.seq (.reg [⟨some 4, none, .mv (.c (.d (.int .i64 (-1)))), .none⟩])
  (.ret none))))
def ir40 : F := { n := 19, res := [.tmp 4], body := bd40 }
@[go_sem] theorem n40 : ir40.n = 19 := rfl
@[go_sem] theorem r40 : ir40.res = [.tmp 4] := rfl
@[go_sem] theorem b40 : ir40.body = bd40 := rfl
def lb41_0 : C :=
  (.seq (.reg [⟨some 10, none, .bin .lss (.s 9) (.s 8), .none⟩])
  (.seq (.cond (.s 10)
    .skip
    (.exit 0 (some [3])))
  (.seq (.block 1 (.seq (.reg [⟨some 11, none, .is (.s 7) (.s 9) 4, .none⟩,
        ⟨some 12, none, .ld (.s 11) 4 true, .none⟩,
        ⟨some 5, none, .alloc 39 [.int .i64 0, .int .i64 0, .int .i64 0, .nils], .cells [(3, 1, false)]⟩,
        ⟨none, none, .st (.s 5) (.s 12) 4, .none⟩])
    (.reg [⟨some 13, none, .mv (.s 3), .none⟩,
       ⟨some 14, none, .fa (.s 5) 2, .none⟩,
       ⟨some 15, none, .ld (.s 14) 1 false, .none⟩,
       ⟨some 16, none, .ld (.s 5) 4 true, .none⟩,
       ⟨none, none, .mput (.s 13) (.s 15) (.s 16), .none⟩])))
  (.reg [⟨some 17, none, .bin .add (.s 9) (.c (.d (.int .i64 1))), .none⟩,
     ⟨some 9, none, .mv (.s 17), .none⟩]))))
def lp41_0 : C := lb41_0
theorem u41_0 (c : Ev.Callee) (l : Ev.Looper) (s : St) : evC c l lp41_0 s = evC c l lb41_0 s := rfl
abbrev st41_0 (m : Nat) (s3 s7 s8 s9 : AV) (h : Heap) : St := ⟨m,[.unk,.unk,.unk,s3,.unk,.unk,.unk,s7,s8,s9,.unk,.unk,.unk,.unk,.unk,.unk,.unk,.unk,.unk],h⟩
@[go_sem] theorem ks41_0 (a b c d e f g h i j k l m n o p q r s : AV) : keepS [3,7,8,9] [a,b,c,d,e,f,g,h,i,j,k,l,m,n,o,p,q,r,s] 0 = [.unk,.unk,.unk,d,.unk,.unk,.unk,h,i,j,.unk,.unk,.unk,.unk,.unk,.unk,.unk,.unk,.unk] := rfl
@[go_sem] theorem ks41_1 (a b c d e f g h i j k l m n o p q r s : AV) : keepS [3] [a,b,c,d,e,f,g,h,i,j,k,l,m,n,o,p,q,r,s] 0 = [.unk,.unk,.unk,d,.unk,.unk,.unk,.unk,.unk,.unk,.unk,.unk,.unk,.unk,.unk,.unk,.unk,.unk,.unk] := rfl
/-- spence/diff.bodies -/
def bd41 : C :=
  (.seq (.reg [⟨some 2, none, .mv (.c (.d .nilm)), .none⟩])
  (.seq (.reg [⟨some 6, none, .mmk, .none⟩,
      ⟨some 3, none, .mv (.s 6), .none⟩])
  (.seq (.seq (.reg [⟨some 7, none, .mv (.s 0), .none⟩,
       ⟨some 8, none, .len (.s 7), .none⟩,
       ⟨some 9, none, .mv (.c (.d (.int .i64 0))), .none⟩])
   (.block 0 (.loop [3, 7, 8, 9] lp41_0)))
  (.seq (.reg [⟨some 18, none, .mv (.s 3), .none⟩,
      ⟨some 2, none, .mv (.s 18), .none⟩])
  (.ret none)))))
def ir41 : F := { n := 19, res := [.tmp 2], body := bd41 }
@[go_sem] theorem n41 : ir41.n = 19 := rfl
@[go_sem] theorem r41 : ir41.res = [.tmp 2] := rfl
@[go_sem] theorem b41 : ir41.body = bd41 := rfl
/-- cmp.isNaN[int] -/
def bd44 : C :=
  (.seq (.reg [⟨some 2, none, .mv (.c (.d (.bool false))), .none⟩])
  (.seq (.reg [⟨some 3, none, .mv (.s 0), .none⟩,
      ⟨some 4, none, .mv (.s 0), .none⟩,
      ⟨some 5, none, .bin .neq (.s 3) (.s 4), .none⟩,
      ⟨some 2, none, .mv (.s 5), .none⟩])
  (.ret none)))
def ir44 : F := { n := 6, res := [.tmp 2], body := bd44 }
@[go_sem] theorem n44 : ir44.n = 6 := rfl
@[go_sem] theorem r44 : ir44.res = [.tmp 2] := rfl
@[go_sem] theorem b44 : ir44.body = bd44 := rfl
def lb45_0 : C :=
  (.seq (.reg [⟨some 14, none, .bin .lss (.s 13) (.s 12), .none⟩])
  (.seq (.cond (.s 14)
    .skip
    (.exit 0 (some [])))
  (.seq (.block 1 (.seq (.reg [⟨some 15, none, .mv (.s 13), .none⟩,
        ⟨some 5, none, .mv (.s 15), .none⟩])
    (.seq (.drw [⟨some 16, none, .mv (.s 0), .none⟩,
        ⟨some 17, none, .mv (.s 5), .none⟩,
        ⟨some 18, none, .is (.s 16) (.s 17) 1, .none⟩,
        ⟨some 19, none, .ld (.s 18) 1 false, .none⟩,
        ⟨some 20, none, .mv (.s 1), .none⟩,
        ⟨some 21, none, .mv (.s 5), .none⟩,
        ⟨some 22, none, .is (.s 20) (.s 21) 1, .none⟩,
        ⟨some 23, none, .ld (.s 22) 1 false, .none⟩,
        ⟨some 24, none, .bin .neq (.s 19) (.s 23), .none⟩]
       [[], [], [0, 1], [2], [], [], [4, 5], [6], [3, 7]] [])
    (.cond (.s 24)
     (.seq (.reg [⟨some 4, none, .mv (.c (.d (.bool false))), .none⟩])
     (.ret (some [4])))
     .skip))))
  (.reg [⟨some 25, none, .bin .add (.s 13) (.c (.d (.int .i64 1))), .none⟩,
     ⟨some 13, none, .mv (.s 25), .none⟩]))))
def lp45_0 : C := lb45_0
theorem u45_0 (c : Ev.Callee) (l : Ev.Looper) (s : St) : evC c l lp45_0 s = evC c l lb45_0 s := rfl
abbrev st45_0 (m : Nat) (s0 s1 s12 s13 : AV) (h : Heap) : St := ⟨m,[s0,s1,.unk,.unk,.unk,.unk,.unk,.unk,.unk,.unk,.unk,.unk,s12,s13,.unk,.unk,.unk,.unk,.unk,.unk,.unk,.unk,.unk,.unk,.unk,.unk],h⟩
@[go_sem] theorem ks45_0 (a b c d e f g h i j k l m n o p q r s t u v w x y z : AV) : keepS [0,1,12,13] [a,b,c,d,e,f,g,h,i,j,k,l,m,n,o,p,q,r,s,t,u,v,w,x,y,z] 0 = [a,b,.unk,.unk,.unk,.unk,.unk,.unk,.unk,.unk,.unk,.unk,m,n,.unk,.unk,.unk,.unk,.unk,.unk,.unk,.unk,.unk,.unk,.unk,.unk] := rfl
@[go_sem] theorem ks45_1 (a b c d e f g h i j k l m n o p q r s t u v w x y z : AV) : keepS [] [a,b,c,d,e,f,g,h,i,j,k,l,m,n,o,p,q,r,s,t,u,v,w,x,y,z] 0 = [.unk,.unk,.unk,.unk,.unk,.unk,.unk,.unk,.unk,.unk,.unk,.unk,.unk,.unk,.unk,.unk,.unk,.unk,.unk,.unk,.unk,.unk,.unk,.unk,.unk,.unk] := rfl
@[go_sem] theorem ks45_2 (a b c d e f g h i j k l m n o p q r s t u v w x y z : AV) : keepS [4] [a,b,c,d,e,f,g,h,i,j,k,l,m,n,o,p,q,r,s,t,u,v,w,x,y,z] 0 = [.unk,.unk,.unk,.unk,e,.unk,.unk,.unk,.unk,.unk,.unk,.unk,.unk,.unk,.unk,.unk,.unk,.unk,.unk,.unk,.unk,.unk,.unk,.unk,.unk,.unk] := rfl
/-- spence/spenceref01.Bytes -/
def bd45 : C :=
  (.seq (.reg [⟨some 4, none, .mv (.c (.d (.bool false))), .none⟩])
  (.seq (.seq (.reg [⟨some 6, none, .mv (.s 0), .none⟩,
       ⟨some 7, none, .len (.s 6), .none⟩,
       ⟨some 8, none, .mv (.s 1), .none⟩,
       ⟨some 9, none, .len (.s 8), .none⟩,
       ⟨some 10, none, .bin .neq (.s 7) (.s 9), .none⟩])
   (.cond (.s 10)
    (.seq (.reg [⟨some 4, none, .mv (.c (.d (.bool false))), .none⟩])
    (.ret none))
    .skip))
  (.seq (.seq (.reg [⟨some 11, none, .mv (.s 0), .none⟩,
       ⟨some 12, none, .len (.s 11), .none⟩,
       ⟨some 13, none, .mv (.c (.d (.int .i64 0))), .none⟩])
   (.block 0 (.loop [0, 1, 12, 13] lp45_0)))
  (.seq (.reg [⟨some 4, none, .mv (.c (.d (.bool true))), .none⟩])
  (.ret none)))))
def ir45 : F := { n := 26, res := [.tmp 4], body := bd45 }
@[go_sem] theorem n45 : ir45.n = 26 := rfl
@[go_sem] theorem r45 : ir45.res = [.tmp 4] := rfl
@[go_sem] theorem b45 : ir45.body = bd45 := rfl
/-- bytes.Equal -/
def bd46 : C :=
  (.seq (.reg [⟨some 4, none, .mv (.c (.d (.bool false))), .none⟩])
  (.seq (.reg [⟨some 5, none, .mv (.s 0), .none⟩,
      ⟨some 6, none, .b2s (.s 5), .none⟩,
      ⟨some 7, none, .mv (.s 1), .none⟩,
      ⟨some 8, none, .b2s (.s 7), .none⟩,
      ⟨some 9, none, .bin .eql (.s 6) (.s 8), .none⟩,
      ⟨some 4, none, .mv (.s 9), .none⟩])
  (.ret none)))
def ir46 : F := { n := 10, res := [.tmp 4], body := bd46 }
@[go_sem] theorem n46 : ir46.n = 10 := rfl
@[go_sem] theorem r46 : ir46.res = [.tmp 4] := rfl
@[go_sem] theorem b46 : ir46.body = bd46 := rfl
/-- maps.Keys[map[int]spence/api.Piece,int,spence/api.Piece] -/
def bd51 : C :=
  (.seq (.reg [⟨some 1, none, .box 68 (.s 0), .none⟩,
      ⟨some 2, none, .mv (.c (.d .nilf)), .none⟩])
  (.seq (.reg [⟨some 3, none, .fn (.func 65) [] [.s 1], .none⟩,
      ⟨some 2, none, .mv (.s 3), .none⟩])
  (.ret none)))
def ir51 : F := { n := 4, res := [.tmp 2], body := bd51 }
@[go_sem] theorem n51 : ir51.n = 4 := rfl
@[go_sem] theorem r51 : ir51.res = [.tmp 2] := rfl
@[go_sem] theorem b51 : ir51.body = bd51 := rfl
def lb65_0 : C :=
  (.seq (.reg [⟨some 6, none, .bad, .none⟩,
      ⟨some 7, none, .ext (.s 6) 0, .none⟩])
  (.seq (.cond (.s 7)
    .skip
    (.exit 0 (some [])))
  (.block 1 (.seq (.reg [⟨some 8, none, .bad, .none⟩,
       ⟨some 9, none, .ext (.s 8) 0, .none⟩,
       ⟨some 3, none, .mv (.s 9), .none⟩])
   (.seq (.reg [⟨some 10, none, .mv (.s 0), .none⟩,
       ⟨some 11, none, .mv (.s 3), .none⟩,
       ⟨some 12, none, .callv (.s 10) [.s 11] 0, .none⟩,
       ⟨some 13, none, .un .not (.s 12), .none⟩])
   (.cond (.s 13)
    (.ret (some []))
    .skip))))))
def lp65_0 : C := lb65_0
theorem u65_0 (c : Ev.Callee) (l : Ev.Looper) (s : St) : evC c l lp65_0 s = evC c l lb65_0 s := rfl
abbrev st65_0 (m : Nat) (s0 : AV) (h : Heap) : St := ⟨m,[s0,.unk,.unk,.unk,.unk,.unk,.unk,.unk,.unk,.unk,.unk,.unk,.unk,.unk],h⟩
@[go_sem] theorem ks65_0 (a b c d e f g h i j k l m n : AV) : keepS [0] [a,b,c,d,e,f,g,h,i,j,k,l,m,n] 0 = [a,.unk,.unk,.unk,.unk,.unk,.unk,.unk,.unk,.unk,.unk,.unk,.unk,.unk] := rfl
@[go_sem] theorem ks65_1 (a b c d e f g h i j k l m n : AV) : keepS [] [a,b,c,d,e,f,g,h,i,j,k,l,m,n] 0 = [.unk,.unk,.unk,.unk,.unk,.unk,.unk,.unk,.unk,.unk,.unk,.unk,.unk,.unk] := rfl
/-- maps.Keys[map[int]spence/api.Piece,int,spence/api.Piece]$1 -/
def bd65 : C :=
  (.seq (.reg [⟨some 4, none, .ld (.s 1) 1 false, .none⟩,
      ⟨some 5, none, .bad, .none⟩])
  (.block 0 (.loop [0] lp65_0)))
def ir65 : F := { n := 14, res := [], body := bd65 }
@[go_sem] theorem n65 : ir65.n = 14 := rfl
@[go_sem] theorem r65 : ir65.res = [] := rfl
@[go_sem] theorem b65 : ir65.body = bd65 := rfl

def irf : FuncId → Option F
  | 3 => some ir3
  | 4 => some ir4
  | 5 => some ir5
  | 6 => some ir6
  | 7 => some ir7
  | 8 => some ir8
  | 9 => some ir9
  | 10 => some ir10
  | 11 => some ir11
  | 12 => some ir12
  | 13 => some ir13
  | 14 => some ir14
  | 15 => some ir15
  | 16 => some ir16
  | 17 => some ir17
  | 18 => some ir18
  | 19 => some ir19
  | 20 => some ir20
  | 22 => some ir22
  | 23 => some ir23
  | 24 => some ir24
  | 25 => some ir25
  | 26 => some ir26
  | 27 => some ir27
  | 28 => some ir28
  | 29 => some ir29
  | 30 => some ir30
  | 31 => some ir31
  | 33 => some ir33
  | 34 => some ir34
  | 35 => some ir35
  | 36 => some ir36
  | 38 => some ir38
  | 39 => some ir39
  | 40 => some ir40
  | 41 => some ir41
  | 44 => some ir44
  | 45 => some ir45
  | 46 => some ir46
  | 51 => some ir51
  | 65 => some ir65
  | _ => none
def ir : IR := ⟨irf, natOr (natSK 10 kd0 21 22) (natOr (natSK 6 kd0 37 38) (natOr (natSC 32 6 72) (natOr (natSC 47 4 48) (natOr (natBC 48) (natOr (natSO 50 65) (natOr (natMCp 49) (natNo)))))))⟩
theorem nat_eq : ir.nat = natOr (natSK 10 kd0 21 22) (natOr (natSK 6 kd0 37 38) (natOr (natSC 32 6 72) (natOr (natSC 47 4 48) (natOr (natBC 48) (natOr (natSO 50 65) (natOr (natMCp 49) (natNo))))))) := rfl
theorem c3 : cF Try.prog 3 = some ir3.strip := by kernel_rfl
theorem k3 : ir3.body.okD = true := by kernel_rfl
theorem c4 : cF Try.prog 4 = some ir4.strip := by kernel_rfl
theorem k4 : ir4.body.okD = true := by kernel_rfl
theorem c5 : cF Try.prog 5 = some ir5.strip := by kernel_rfl
theorem k5 : ir5.body.okD = true := by kernel_rfl
theorem c6 : cF Try.prog 6 = some ir6.strip := by kernel_rfl
theorem k6 : ir6.body.okD = true := by kernel_rfl
theorem c7 : cF Try.prog 7 = some ir7.strip := by kernel_rfl
theorem k7 : ir7.body.okD = true := by kernel_rfl
theorem c8 : cF Try.prog 8 = some ir8.strip := by kernel_rfl
theorem k8 : ir8.body.okD = true := by kernel_rfl
theorem c9 : cF Try.prog 9 = some ir9.strip := by kernel_rfl
theorem k9 : ir9.body.okD = true := by kernel_rfl
theorem c10 : cF Try.prog 10 = some ir10.strip := by kernel_rfl
theorem k10 : ir10.body.okD = true := by kernel_rfl
theorem c11 : cF Try.prog 11 = some ir11.strip := by kernel_rfl
theorem k11 : ir11.body.okD = true := by kernel_rfl
theorem c12 : cF Try.prog 12 = some ir12.strip := by kernel_rfl
theorem k12 : ir12.body.okD = true := by kernel_rfl
theorem c13 : cF Try.prog 13 = some ir13.strip := by kernel_rfl
theorem k13 : ir13.body.okD = true := by kernel_rfl
theorem c14 : cF Try.prog 14 = some ir14.strip := by kernel_rfl
theorem k14 : ir14.body.okD = true := by kernel_rfl
theorem c15 : cF Try.prog 15 = some ir15.strip := by kernel_rfl
theorem k15 : ir15.body.okD = true := by kernel_rfl
theorem c16 : cF Try.prog 16 = some ir16.strip := by kernel_rfl
theorem k16 : ir16.body.okD = true := by kernel_rfl
theorem c17 : cF Try.prog 17 = some ir17.strip := by kernel_rfl
theorem k17 : ir17.body.okD = true := by kernel_rfl
theorem c18 : cF Try.prog 18 = some ir18.strip := by kernel_rfl
theorem k18 : ir18.body.okD = true := by kernel_rfl
theorem c19 : cF Try.prog 19 = some ir19.strip := by kernel_rfl
theorem k19 : ir19.body.okD = true := by kernel_rfl
theorem c20 : cF Try.prog 20 = some ir20.strip := by kernel_rfl
theorem k20 : ir20.body.okD = true := by kernel_rfl
theorem c22 : cF Try.prog 22 = some ir22.strip := by kernel_rfl
theorem k22 : ir22.body.okD = true := by kernel_rfl
theorem c23 : cF Try.prog 23 = some ir23.strip := by kernel_rfl
theorem k23 : ir23.body.okD = true := by kernel_rfl
theorem c24 : cF Try.prog 24 = some ir24.strip := by kernel_rfl
theorem k24 : ir24.body.okD = true := by kernel_rfl
theorem c25 : cF Try.prog 25 = some ir25.strip := by kernel_rfl
theorem k25 : ir25.body.okD = true := by kernel_rfl
theorem c26 : cF Try.prog 26 = some ir26.strip := by kernel_rfl
theorem k26 : ir26.body.okD = true := by kernel_rfl
theorem c27 : cF Try.prog 27 = some ir27.strip := by kernel_rfl
theorem k27 : ir27.body.okD = true := by kernel_rfl
theorem c28 : cF Try.prog 28 = some ir28.strip := by kernel_rfl
theorem k28 : ir28.body.okD = true := by kernel_rfl
theorem c29 : cF Try.prog 29 = some ir29.strip := by kernel_rfl
theorem k29 : ir29.body.okD = true := by kernel_rfl
theorem c30 : cF Try.prog 30 = some ir30.strip := by kernel_rfl
theorem k30 : ir30.body.okD = true := by kernel_rfl
theorem c31 : cF Try.prog 31 = some ir31.strip := by kernel_rfl
theorem k31 : ir31.body.okD = true := by kernel_rfl
theorem c33 : cF Try.prog 33 = some ir33.strip := by kernel_rfl
theorem k33 : ir33.body.okD = true := by kernel_rfl
theorem c34 : cF Try.prog 34 = some ir34.strip := by kernel_rfl
theorem k34 : ir34.body.okD = true := by kernel_rfl
theorem c35 : cF Try.prog 35 = some ir35.strip := by kernel_rfl
theorem k35 : ir35.body.okD = true := by kernel_rfl
theorem c36 : cF Try.prog 36 = some ir36.strip := by kernel_rfl
theorem k36 : ir36.body.okD = true := by kernel_rfl
theorem c38 : cF Try.prog 38 = some ir38.strip := by kernel_rfl
theorem k38 : ir38.body.okD = true := by kernel_rfl
theorem c39 : cF Try.prog 39 = some ir39.strip := by kernel_rfl
theorem k39 : ir39.body.okD = true := by kernel_rfl
theorem c40 : cF Try.prog 40 = some ir40.strip := by kernel_rfl
theorem k40 : ir40.body.okD = true := by kernel_rfl
theorem c41 : cF Try.prog 41 = some ir41.strip := by kernel_rfl
theorem k41 : ir41.body.okD = true := by kernel_rfl
theorem c44 : cF Try.prog 44 = some ir44.strip := by kernel_rfl
theorem k44 : ir44.body.okD = true := by kernel_rfl
theorem c45 : cF Try.prog 45 = some ir45.strip := by kernel_rfl
theorem k45 : ir45.body.okD = true := by kernel_rfl
theorem c46 : cF Try.prog 46 = some ir46.strip := by kernel_rfl
theorem k46 : ir46.body.okD = true := by kernel_rfl
theorem c51 : cF Try.prog 51 = some ir51.strip := by kernel_rfl
theorem k51 : ir51.body.okD = true := by kernel_rfl
theorem c65 : cF Try.prog 65 = some ir65.strip := by kernel_rfl
theorem k65 : ir65.body.okD = true := by kernel_rfl
theorem tab : Tab Try.prog ir := by
  refine ⟨by kernel_rfl, fun f fn h => ?_, natOr_snd (Try.sortCN) (natOr_snd (Try.sortHN) (natOr_snd (Try.cloneHN) (natOr_snd (Try.clonePN) (natOr_snd (Try.bcloneN) (natOr_snd (Try.sortedN) (natOr_snd (Try.copyN) (natNo_snd)))))))⟩
  change irf f = some fn at h
  unfold irf at h
  split at h
  · cases h; exact ⟨c3, k3⟩
  · cases h; exact ⟨c4, k4⟩
  · cases h; exact ⟨c5, k5⟩
  · cases h; exact ⟨c6, k6⟩
  · cases h; exact ⟨c7, k7⟩
  · cases h; exact ⟨c8, k8⟩
  · cases h; exact ⟨c9, k9⟩
  · cases h; exact ⟨c10, k10⟩
  · cases h; exact ⟨c11, k11⟩
  · cases h; exact ⟨c12, k12⟩
  · cases h; exact ⟨c13, k13⟩
  · cases h; exact ⟨c14, k14⟩
  · cases h; exact ⟨c15, k15⟩
  · cases h; exact ⟨c16, k16⟩
  · cases h; exact ⟨c17, k17⟩
  · cases h; exact ⟨c18, k18⟩
  · cases h; exact ⟨c19, k19⟩
  · cases h; exact ⟨c20, k20⟩
  · cases h; exact ⟨c22, k22⟩
  · cases h; exact ⟨c23, k23⟩
  · cases h; exact ⟨c24, k24⟩
  · cases h; exact ⟨c25, k25⟩
  · cases h; exact ⟨c26, k26⟩
  · cases h; exact ⟨c27, k27⟩
  · cases h; exact ⟨c28, k28⟩
  · cases h; exact ⟨c29, k29⟩
  · cases h; exact ⟨c30, k30⟩
  · cases h; exact ⟨c31, k31⟩
  · cases h; exact ⟨c33, k33⟩
  · cases h; exact ⟨c34, k34⟩
  · cases h; exact ⟨c35, k35⟩
  · cases h; exact ⟨c36, k36⟩
  · cases h; exact ⟨c38, k38⟩
  · cases h; exact ⟨c39, k39⟩
  · cases h; exact ⟨c40, k40⟩
  · cases h; exact ⟨c41, k41⟩
  · cases h; exact ⟨c44, k44⟩
  · cases h; exact ⟨c45, k45⟩
  · cases h; exact ⟨c46, k46⟩
  · cases h; exact ⟨c51, k51⟩
  · cases h; exact ⟨c65, k65⟩
  · cases h
end Go.Proofs.Ytbcpffhialoliaa.Ir
