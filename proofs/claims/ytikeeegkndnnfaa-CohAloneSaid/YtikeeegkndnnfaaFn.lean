/- The functions of the program, as the plain machine has them; each stands for the program's own. Written by this session's programs Comp.lean and genfn.py. -/
import Derived.Test.YtikeeegkndnnfaaC3
import Derived.Test.YtikeeegkndnnfaaProg
import Derived.KernelRfl
namespace Go.Proofs.Ytikeeegkndnnfaa.Abs
open Go Go.RowKit
set_option linter.unusedVariables false
set_option maxRecDepth 100000
namespace Fn
/-- cotterel/cotterellaw41.CohOne -/
def f4 : AFun := ⟨109, (.seq (.region [⟨some 2, .box (.tmp 0), none⟩,
  ⟨some 4, .mv (.con (.bool false)), none⟩] [])
(.seq (.seq (.region [⟨some 13, .load false 2 (.tmp 2), none⟩,
   ⟨some 14, .call 10 [(.tmp 13)], none⟩,
   ⟨some 15, .un .not (.tmp 14), none⟩,
   ⟨some 16, .mv (.tmp 15), none⟩,
   ⟨some 17, .load false 2 (.tmp 2), some (16, false)⟩,
   ⟨some 18, .call 11 [(.tmp 17)], some (16, false)⟩,
   ⟨some 19, .un .not (.tmp 18), some (16, false)⟩,
   ⟨some 20, .pick (.tmp 16) (.con (.bool true)) (.tmp 19), none⟩,
   ⟨some 21, .mv (.tmp 20), none⟩,
   ⟨some 22, .mv (.tmp 1), some (21, false)⟩,
   ⟨some 23, .len (.tmp 22), some (21, false)⟩,
   ⟨some 24, .bin .gtr (.tmp 23) (.con (.int .i64 40)), some (21, false)⟩,
   ⟨some 25, .pick (.tmp 21) (.con (.bool true)) (.tmp 24), none⟩] [])
 (.cond (.tmp 25)
  (.seq (.region [⟨some 26, .call 6 [], none⟩,
    ⟨some 4, .mv (.tmp 26), none⟩] [])
  .ret)
  .skip))
(.seq (.region [⟨some 27, .load false 2 (.tmp 2), none⟩,
  ⟨some 28, .call 12 [(.tmp 27)], none⟩,
  ⟨some 5, .mv (.tmp 28), none⟩] [])
(.seq (.seq (.region [⟨some 6, .mv (.con (.int .i64 0)), none⟩] [])
 (.block 0 (.loop (.seq (.seq (.region [⟨some 29, .mv (.tmp 6), none⟩,
      ⟨some 30, .mv (.tmp 1), none⟩,
      ⟨some 31, .len (.tmp 30), none⟩,
      ⟨some 32, .bin .lss (.tmp 29) (.tmp 31), none⟩] [])
    (.cond (.tmp 32)
     .skip
     (.exit 0)))
   (.seq (.block 1 (.seq (.region [⟨some 35, .mv (.tmp 1), none⟩,
       ⟨some 36, .mv (.tmp 6), none⟩,
       ⟨some 37, .isl 5 (.tmp 35) (.tmp 36), none⟩,
       ⟨some 38, .load false 5 (.tmp 37), none⟩,
       ⟨some 7, .alloc [(.int .i64 0), (.int .i64 0), (.int .u32 0), (.int .u32 0), (.bool false)], none⟩,
       ⟨none, .store 5 (.tmp 7) (.tmp 38), none⟩] [])
     (.seq (.seq (.region [⟨some 39, .load false 2 (.tmp 2), none⟩,
        ⟨some 40, .faddr (.tmp 7) 0, none⟩,
        ⟨some 41, .load true 1 (.tmp 40), none⟩,
        ⟨some 42, .faddr (.tmp 7) 2, none⟩,
        ⟨some 43, .load true 1 (.tmp 42), none⟩,
        ⟨some 44, .faddr (.tmp 7) 1, none⟩,
        ⟨some 45, .load true 1 (.tmp 44), none⟩,
        ⟨some 46, .call 13 [(.tmp 39), (.tmp 41), (.tmp 43), (.tmp 45)], none⟩,
        ⟨some 47, .un .not (.tmp 46), none⟩] [])
      (.cond (.tmp 47)
       (.exit 1)
       .skip))
     (.seq (.seq (.region [⟨some 48, .faddr (.tmp 7) 4, none⟩,
        ⟨some 49, .load true 1 (.tmp 48), none⟩] [])
      (.cond (.tmp 49)
       (.seq (.region [⟨some 51, .load false 2 (.tmp 2), none⟩,
         ⟨some 52, .faddr (.tmp 7) 0, none⟩,
         ⟨some 53, .load true 1 (.tmp 52), none⟩,
         ⟨some 54, .faddr (.tmp 7) 2, none⟩,
         ⟨some 55, .load true 1 (.tmp 54), none⟩,
         ⟨some 56, .faddr (.tmp 7) 1, none⟩,
         ⟨some 57, .load true 1 (.tmp 56), none⟩,
         ⟨some 58, .faddr (.tmp 7) 3, none⟩,
         ⟨some 59, .load true 1 (.tmp 58), none⟩,
         ⟨some 60, .call 14 [(.tmp 51), (.tmp 53), (.tmp 55), (.tmp 57), (.tmp 59)], none⟩,
         ⟨some 50, .mv (.tmp 60), none⟩,
         ⟨some 61, .extract (.tmp 50) 0, none⟩,
         ⟨some 62, .extract (.tmp 50) 1, none⟩,
         ⟨none, .store 2 (.tmp 2) (.tmp 61), none⟩] [])
       (.region [⟨some 64, .mv (.tmp 5), none⟩,
        ⟨some 65, .faddr (.tmp 7) 2, none⟩,
        ⟨some 66, .load true 1 (.tmp 65), none⟩,
        ⟨some 67, .faddr (.tmp 7) 1, none⟩,
        ⟨some 68, .load true 1 (.tmp 67), none⟩,
        ⟨some 69, .faddr (.tmp 7) 3, none⟩,
        ⟨some 70, .load true 1 (.tmp 69), none⟩,
        ⟨some 71, .call 15 [(.tmp 64), (.tmp 66), (.tmp 68), (.tmp 70)], none⟩,
        ⟨some 63, .mv (.tmp 71), none⟩,
        ⟨some 72, .extract (.tmp 63) 0, none⟩,
        ⟨some 73, .extract (.tmp 63) 1, none⟩,
        ⟨some 5, .mv (.tmp 72), none⟩] []))
       (.seq (.region [⟨some 75, .load false 2 (.tmp 2), none⟩,
         ⟨some 76, .faddr (.tmp 7) 0, none⟩,
         ⟨some 77, .load true 1 (.tmp 76), none⟩,
         ⟨some 78, .faddr (.tmp 7) 2, none⟩,
         ⟨some 79, .load true 1 (.tmp 78), none⟩,
         ⟨some 80, .faddr (.tmp 7) 1, none⟩,
         ⟨some 81, .load true 1 (.tmp 80), none⟩,
         ⟨some 82, .call 16 [(.tmp 75), (.tmp 77), (.tmp 79), (.tmp 81)], none⟩,
         ⟨some 74, .mv (.tmp 82), none⟩,
         ⟨some 83, .extract (.tmp 74) 0, none⟩,
         ⟨some 84, .extract (.tmp 74) 1, none⟩,
         ⟨some 85, .extract (.tmp 74) 2, none⟩,
         ⟨some 9, .alloc [(.imm true 0 []), (.imm true 0 [])], none⟩,
         ⟨some 8, .mv (.tmp 83), none⟩,
         ⟨none, .store 2 (.tmp 9) (.tmp 84), none⟩,
         ⟨some 10, .mv (.tmp 85), none⟩] [])
       (.seq (.region [⟨some 87, .mv (.tmp 5), none⟩,
         ⟨some 88, .faddr (.tmp 7) 2, none⟩,
         ⟨some 89, .load true 1 (.tmp 88), none⟩,
         ⟨some 90, .faddr (.tmp 7) 1, none⟩,
         ⟨some 91, .load true 1 (.tmp 90), none⟩,
         ⟨some 92, .call 17 [(.tmp 87), (.tmp 89), (.tmp 91)], none⟩,
         ⟨some 86, .mv (.tmp 92), none⟩,
         ⟨some 93, .extract (.tmp 86) 0, none⟩,
         ⟨some 94, .extract (.tmp 86) 1, none⟩,
         ⟨some 11, .mv (.tmp 93), none⟩,
         ⟨some 12, .mv (.tmp 94), none⟩] [])
       (.seq (.seq (.region [⟨some 95, .mv (.tmp 8), none⟩,
          ⟨some 96, .mv (.tmp 11), none⟩,
          ⟨some 97, .bin .neq (.tmp 95) (.tmp 96), none⟩] [])
        (.cond (.tmp 97)
         (.seq (.region [⟨some 4, .mv (.con (.bool false)), none⟩] [])
         .ret)
         .skip))
       (.region [⟨some 98, .load false 2 (.tmp 9), none⟩,
        ⟨none, .store 2 (.tmp 2) (.tmp 98), none⟩] []))))))
     (.seq (.region [⟨some 99, .load false 2 (.tmp 2), none⟩,
       ⟨some 100, .call 11 [(.tmp 99)], none⟩,
       ⟨some 101, .un .not (.tmp 100), none⟩] [])
     (.cond (.tmp 101)
      (.seq (.region [⟨some 4, .mv (.con (.bool false)), none⟩] [])
      .ret)
      .skip))))))
   (.region [⟨some 33, .mv (.tmp 6), none⟩,
    ⟨some 34, .bin .add (.tmp 33) (.con (.int .i64 1)), none⟩,
    ⟨some 6, .mv (.tmp 34), none⟩] []))))))
(.seq (.region [⟨some 102, .load false 2 (.tmp 2), none⟩,
  ⟨some 103, .call 12 [(.tmp 102)], none⟩,
  ⟨some 104, .mv (.tmp 5), none⟩,
  ⟨some 105, .call 18 [(.tmp 103), (.tmp 104)], none⟩,
  ⟨some 106, .mv (.tmp 105), none⟩,
  ⟨some 107, .call 6 [], some (106, true)⟩,
  ⟨some 108, .pick (.tmp 106) (.tmp 107) (.con (.bool false)), none⟩,
  ⟨some 4, .mv (.tmp 108), none⟩] [])
.ret))))), [.tmp 4], true, none, false⟩
/-- cotterel/cotterellaw41.CohAlone -/
def f5 : AFun := ⟨143, (.seq (.region [⟨some 2, .box (.tmp 0), none⟩,
  ⟨some 3, .box (.tmp 1), none⟩,
  ⟨some 4, .mv (.con (.bool false)), none⟩] [])
(.seq (.seq (.region [⟨some 19, .load false 2 (.tmp 2), none⟩,
   ⟨some 20, .call 10 [(.tmp 19)], none⟩,
   ⟨some 21, .un .not (.tmp 20), none⟩,
   ⟨some 22, .mv (.tmp 21), none⟩,
   ⟨some 23, .load false 2 (.tmp 2), some (22, false)⟩,
   ⟨some 24, .call 11 [(.tmp 23)], some (22, false)⟩,
   ⟨some 25, .un .not (.tmp 24), some (22, false)⟩,
   ⟨some 26, .pick (.tmp 22) (.con (.bool true)) (.tmp 25), none⟩,
   ⟨some 27, .mv (.tmp 26), none⟩,
   ⟨some 28, .load false 2 (.tmp 2), some (27, false)⟩,
   ⟨some 29, .faddr (.tmp 3) 0, some (27, false)⟩,
   ⟨some 30, .load true 1 (.tmp 29), some (27, false)⟩,
   ⟨some 31, .faddr (.tmp 3) 2, some (27, false)⟩,
   ⟨some 32, .load true 1 (.tmp 31), some (27, false)⟩,
   ⟨some 33, .faddr (.tmp 3) 1, some (27, false)⟩,
   ⟨some 34, .load true 1 (.tmp 33), some (27, false)⟩,
   ⟨some 35, .call 13 [(.tmp 28), (.tmp 30), (.tmp 32), (.tmp 34)], some (27, false)⟩,
   ⟨some 36, .un .not (.tmp 35), some (27, false)⟩,
   ⟨some 37, .pick (.tmp 27) (.con (.bool true)) (.tmp 36), none⟩] [])
 (.cond (.tmp 37)
  (.seq (.region [⟨some 38, .call 6 [], none⟩,
    ⟨some 4, .mv (.tmp 38), none⟩] [])
  .ret)
  .skip))
(.seq (.region [⟨some 40, .load false 2 (.tmp 2), none⟩,
  ⟨some 41, .faddr (.tmp 3) 0, none⟩,
  ⟨some 42, .load true 1 (.tmp 41), none⟩,
  ⟨some 43, .faddr (.tmp 3) 2, none⟩,
  ⟨some 44, .load true 1 (.tmp 43), none⟩,
  ⟨some 45, .faddr (.tmp 3) 1, none⟩,
  ⟨some 46, .load true 1 (.tmp 45), none⟩,
  ⟨some 47, .faddr (.tmp 3) 3, none⟩,
  ⟨some 48, .load true 1 (.tmp 47), none⟩,
  ⟨some 49, .call 14 [(.tmp 40), (.tmp 42), (.tmp 44), (.tmp 46), (.tmp 48)], none⟩,
  ⟨some 39, .mv (.tmp 49), none⟩,
  ⟨some 50, .extract (.tmp 39) 0, none⟩,
  ⟨some 51, .extract (.tmp 39) 1, none⟩,
  ⟨some 5, .alloc [(.imm true 0 []), (.imm true 0 [])], none⟩,
  ⟨none, .store 2 (.tmp 5) (.tmp 50), none⟩,
  ⟨some 6, .mv (.tmp 51), none⟩] [])
(.seq (.region [⟨some 53, .load false 2 (.tmp 5), none⟩,
  ⟨some 54, .faddr (.tmp 3) 0, none⟩,
  ⟨some 55, .load true 1 (.tmp 54), none⟩,
  ⟨some 56, .faddr (.tmp 3) 2, none⟩,
  ⟨some 57, .load true 1 (.tmp 56), none⟩,
  ⟨some 58, .faddr (.tmp 3) 1, none⟩,
  ⟨some 59, .load true 1 (.tmp 58), none⟩,
  ⟨some 60, .call 16 [(.tmp 53), (.tmp 55), (.tmp 57), (.tmp 59)], none⟩,
  ⟨some 52, .mv (.tmp 60), none⟩,
  ⟨some 61, .extract (.tmp 52) 0, none⟩,
  ⟨some 62, .extract (.tmp 52) 1, none⟩,
  ⟨some 63, .extract (.tmp 52) 2, none⟩,
  ⟨some 8, .alloc [(.imm true 0 []), (.imm true 0 [])], none⟩,
  ⟨some 7, .mv (.tmp 61), none⟩,
  ⟨none, .store 2 (.tmp 8) (.tmp 62), none⟩,
  ⟨some 9, .mv (.tmp 63), none⟩] [])
(.seq (.region [⟨some 65, .load false 2 (.tmp 8), none⟩,
  ⟨some 66, .faddr (.tmp 3) 0, none⟩,
  ⟨some 67, .load true 1 (.tmp 66), none⟩,
  ⟨some 68, .faddr (.tmp 3) 2, none⟩,
  ⟨some 69, .load true 1 (.tmp 68), none⟩,
  ⟨some 70, .faddr (.tmp 3) 1, none⟩,
  ⟨some 71, .load true 1 (.tmp 70), none⟩,
  ⟨some 72, .mv (.tmp 7), none⟩,
  ⟨some 73, .call 14 [(.tmp 65), (.tmp 67), (.tmp 69), (.tmp 71), (.tmp 72)], none⟩,
  ⟨some 64, .mv (.tmp 73), none⟩,
  ⟨some 74, .extract (.tmp 64) 0, none⟩,
  ⟨some 75, .extract (.tmp 64) 1, none⟩,
  ⟨some 10, .alloc [(.imm true 0 []), (.imm true 0 [])], none⟩,
  ⟨none, .store 2 (.tmp 10) (.tmp 74), none⟩,
  ⟨some 11, .mv (.tmp 75), none⟩] [])
(.seq (.region [⟨some 12, .mv (.con (.int .u32 4294967295)), none⟩] [])
(.seq (.seq (.region [⟨some 76, .faddr (.tmp 3) 1, none⟩,
   ⟨some 77, .load true 1 (.tmp 76), none⟩,
   ⟨some 78, .bin .lss (.tmp 77) (.con (.int .i64 4)), none⟩] [])
 (.cond (.tmp 78)
  (.region [⟨some 79, .faddr (.tmp 3) 1, none⟩,
   ⟨some 80, .load true 1 (.tmp 79), none⟩,
   ⟨some 81, .conv .u64 (.tmp 80), none⟩,
   ⟨some 82, .bin .mul (.con (.int .u64 8)) (.tmp 81), none⟩,
   ⟨some 83, .bin .shl (.con (.int .u32 1)) (.tmp 82), none⟩,
   ⟨some 84, .bin .sub (.tmp 83) (.con (.int .u32 1)), none⟩,
   ⟨some 12, .mv (.tmp 84), none⟩] [])
  .skip))
(.seq (.seq (.region [⟨some 85, .mv (.tmp 7), none⟩,
   ⟨some 86, .faddr (.tmp 3) 3, none⟩,
   ⟨some 87, .load true 1 (.tmp 86), none⟩,
   ⟨some 88, .mv (.tmp 12), none⟩,
   ⟨some 89, .bin .and (.tmp 87) (.tmp 88), none⟩,
   ⟨some 90, .bin .neq (.tmp 85) (.tmp 89), none⟩,
   ⟨some 91, .mv (.tmp 90), none⟩,
   ⟨some 92, .mv (.tmp 9), some (91, false)⟩,
   ⟨some 93, .un .not (.tmp 92), some (91, false)⟩,
   ⟨some 94, .pick (.tmp 91) (.con (.bool true)) (.tmp 93), none⟩,
   ⟨some 95, .mv (.tmp 94), none⟩,
   ⟨some 96, .mv (.tmp 11), some (95, false)⟩,
   ⟨some 97, .un .not (.tmp 96), some (95, false)⟩,
   ⟨some 98, .pick (.tmp 95) (.con (.bool true)) (.tmp 97), none⟩,
   ⟨some 99, .mv (.tmp 98), none⟩,
   ⟨some 100, .load false 2 (.tmp 5), some (99, false)⟩,
   ⟨some 101, .faddr (.tmp 3) 0, some (99, false)⟩,
   ⟨some 102, .load true 1 (.tmp 101), some (99, false)⟩,
   ⟨some 103, .faddr (.tmp 3) 2, some (99, false)⟩,
   ⟨some 104, .load true 1 (.tmp 103), some (99, false)⟩,
   ⟨some 105, .bin .quo (.tmp 104) (.con (.int .u32 16)), some (99, false)⟩,
   ⟨some 106, .call 19 [(.tmp 100), (.tmp 102), (.tmp 105)], some (99, false)⟩,
   ⟨some 107, .pick (.tmp 99) (.con (.bool true)) (.tmp 106), none⟩] [])
 (.cond (.tmp 107)
  (.seq (.region [⟨some 4, .mv (.con (.bool false)), none⟩] [])
  .ret)
  .skip))
(.seq (.region [⟨some 109, .load false 2 (.tmp 2), none⟩,
  ⟨some 110, .faddr (.tmp 3) 0, none⟩,
  ⟨some 111, .load true 1 (.tmp 110), none⟩,
  ⟨some 112, .faddr (.tmp 3) 2, none⟩,
  ⟨some 113, .load true 1 (.tmp 112), none⟩,
  ⟨some 114, .faddr (.tmp 3) 1, none⟩,
  ⟨some 115, .load true 1 (.tmp 114), none⟩,
  ⟨some 116, .call 16 [(.tmp 109), (.tmp 111), (.tmp 113), (.tmp 115)], none⟩,
  ⟨some 108, .mv (.tmp 116), none⟩,
  ⟨some 117, .extract (.tmp 108) 0, none⟩,
  ⟨some 118, .extract (.tmp 108) 1, none⟩,
  ⟨some 119, .extract (.tmp 108) 2, none⟩,
  ⟨some 14, .alloc [(.imm true 0 []), (.imm true 0 [])], none⟩,
  ⟨some 13, .mv (.tmp 117), none⟩,
  ⟨none, .store 2 (.tmp 14) (.tmp 118), none⟩,
  ⟨some 15, .mv (.tmp 119), none⟩] [])
(.seq (.region [⟨some 121, .load false 2 (.tmp 14), none⟩,
  ⟨some 122, .faddr (.tmp 3) 0, none⟩,
  ⟨some 123, .load true 1 (.tmp 122), none⟩,
  ⟨some 124, .faddr (.tmp 3) 2, none⟩,
  ⟨some 125, .load true 1 (.tmp 124), none⟩,
  ⟨some 126, .faddr (.tmp 3) 1, none⟩,
  ⟨some 127, .load true 1 (.tmp 126), none⟩,
  ⟨some 128, .call 16 [(.tmp 121), (.tmp 123), (.tmp 125), (.tmp 127)], none⟩,
  ⟨some 120, .mv (.tmp 128), none⟩,
  ⟨some 129, .extract (.tmp 120) 0, none⟩,
  ⟨some 130, .extract (.tmp 120) 1, none⟩,
  ⟨some 131, .extract (.tmp 120) 2, none⟩,
  ⟨some 17, .alloc [(.imm true 0 []), (.imm true 0 [])], none⟩,
  ⟨some 16, .mv (.tmp 129), none⟩,
  ⟨none, .store 2 (.tmp 17) (.tmp 130), none⟩,
  ⟨some 18, .mv (.tmp 131), none⟩] [])
(.seq (.region [⟨some 132, .mv (.tmp 18), none⟩,
  ⟨some 133, .mv (.tmp 132), none⟩,
  ⟨some 134, .load false 2 (.tmp 14), some (133, true)⟩,
  ⟨some 135, .call 12 [(.tmp 134)], some (133, true)⟩,
  ⟨some 136, .load false 2 (.tmp 2), some (133, true)⟩,
  ⟨some 137, .call 12 [(.tmp 136)], some (133, true)⟩,
  ⟨some 138, .call 18 [(.tmp 135), (.tmp 137)], some (133, true)⟩,
  ⟨some 139, .pick (.tmp 133) (.tmp 138) (.con (.bool false)), none⟩,
  ⟨some 140, .mv (.tmp 139), none⟩,
  ⟨some 141, .call 6 [], some (140, true)⟩,
  ⟨some 142, .pick (.tmp 140) (.tmp 141) (.con (.bool false)), none⟩,
  ⟨some 4, .mv (.tmp 142), none⟩] [(3, 4)])
.ret))))))))))), [.tmp 4], true, none, false⟩
/-- cotterel/cotterellaw41.awake -/
def f6 : AFun := ⟨66, (.seq (.region [⟨some 0, .mv (.con (.bool false)), none⟩] [])
(.seq (.region [⟨some 8, .mksl [(.int .u8 0)] 1 1 (.con (.int .i64 64)) (.con (.int .i64 64)), none⟩,
  ⟨some 9, .call 8 [(.tmp 8), (.con (.int .i64 1)), (.con (.int .i64 1)), (.con (.int .i64 2))], none⟩,
  ⟨some 1, .alloc [(.imm true 0 []), (.imm true 0 [])], none⟩,
  ⟨none, .store 2 (.tmp 1) (.tmp 9), none⟩] [])
(.seq (.region [⟨some 11, .load false 2 (.tmp 1), none⟩,
  ⟨some 12, .call 14 [(.tmp 11), (.con (.int .i64 0)), (.con (.int .u32 4)), (.con (.int .i64 4)), (.con (.int .u32 7))], none⟩,
  ⟨some 10, .mv (.tmp 12), none⟩,
  ⟨some 13, .extract (.tmp 10) 0, none⟩,
  ⟨some 14, .extract (.tmp 10) 1, none⟩,
  ⟨none, .store 2 (.tmp 1) (.tmp 13), none⟩,
  ⟨some 2, .mv (.tmp 14), none⟩] [])
(.seq (.region [⟨some 16, .load false 2 (.tmp 1), none⟩,
  ⟨some 17, .call 16 [(.tmp 16), (.con (.int .i64 1)), (.con (.int .u32 4)), (.con (.int .i64 4))], none⟩,
  ⟨some 15, .mv (.tmp 17), none⟩,
  ⟨some 18, .extract (.tmp 15) 0, none⟩,
  ⟨some 19, .extract (.tmp 15) 1, none⟩,
  ⟨some 20, .extract (.tmp 15) 2, none⟩,
  ⟨some 3, .mv (.tmp 18), none⟩,
  ⟨none, .store 2 (.tmp 1) (.tmp 19), none⟩,
  ⟨some 4, .mv (.tmp 20), none⟩] [])
(.seq (.region [⟨some 22, .load false 2 (.tmp 1), none⟩,
  ⟨some 23, .call 16 [(.tmp 22), (.con (.int .i64 0)), (.con (.int .u32 4)), (.con (.int .i64 4))], none⟩,
  ⟨some 21, .mv (.tmp 23), none⟩,
  ⟨some 24, .extract (.tmp 21) 0, none⟩,
  ⟨some 25, .extract (.tmp 21) 1, none⟩,
  ⟨some 26, .extract (.tmp 21) 2, none⟩,
  ⟨some 5, .mv (.tmp 24), none⟩,
  ⟨none, .store 2 (.tmp 1) (.tmp 25), none⟩,
  ⟨some 6, .mv (.tmp 26), none⟩] [])
(.seq (.region [⟨some 27, .load false 2 (.tmp 1), none⟩,
  ⟨some 28, .call 12 [(.tmp 27)], none⟩,
  ⟨some 7, .mv (.tmp 28), none⟩] [])
(.seq (.region [⟨some 29, .mv (.tmp 2), none⟩,
  ⟨some 30, .un .not (.tmp 29), none⟩,
  ⟨some 31, .mv (.tmp 30), none⟩,
  ⟨some 32, .mv (.tmp 3), some (31, true)⟩,
  ⟨some 33, .bin .eql (.tmp 32) (.con (.int .u32 7)), some (31, true)⟩,
  ⟨some 34, .pick (.tmp 31) (.tmp 33) (.con (.bool false)), none⟩,
  ⟨some 35, .mv (.tmp 34), none⟩,
  ⟨some 36, .mv (.tmp 4), some (35, true)⟩,
  ⟨some 37, .un .not (.tmp 36), some (35, true)⟩,
  ⟨some 38, .pick (.tmp 35) (.tmp 37) (.con (.bool false)), none⟩,
  ⟨some 39, .mv (.tmp 38), none⟩,
  ⟨some 40, .mv (.tmp 5), some (39, true)⟩,
  ⟨some 41, .bin .eql (.tmp 40) (.con (.int .u32 7)), some (39, true)⟩,
  ⟨some 42, .pick (.tmp 39) (.tmp 41) (.con (.bool false)), none⟩,
  ⟨some 43, .mv (.tmp 42), none⟩,
  ⟨some 44, .mv (.tmp 6), some (43, true)⟩,
  ⟨some 45, .pick (.tmp 43) (.tmp 44) (.con (.bool false)), none⟩,
  ⟨some 46, .mv (.tmp 45), none⟩,
  ⟨some 47, .mv (.tmp 7), some (46, true)⟩,
  ⟨some 48, .len (.tmp 47), some (46, true)⟩,
  ⟨some 49, .bin .eql (.tmp 48) (.con (.int .i64 64)), some (46, true)⟩,
  ⟨some 50, .pick (.tmp 46) (.tmp 49) (.con (.bool false)), none⟩,
  ⟨some 51, .mv (.tmp 50), none⟩,
  ⟨some 52, .mv (.tmp 7), some (51, true)⟩,
  ⟨some 53, .isl 1 (.tmp 52) (.con (.int .i64 4)), some (51, true)⟩,
  ⟨some 54, .load true 1 (.tmp 53), some (51, true)⟩,
  ⟨some 55, .bin .eql (.tmp 54) (.con (.int .u8 7)), some (51, true)⟩,
  ⟨some 56, .pick (.tmp 51) (.tmp 55) (.con (.bool false)), none⟩,
  ⟨some 57, .mv (.tmp 56), none⟩,
  ⟨some 58, .load false 2 (.tmp 1), some (57, true)⟩,
  ⟨some 59, .call 11 [(.tmp 58)], some (57, true)⟩,
  ⟨some 60, .pick (.tmp 57) (.tmp 59) (.con (.bool false)), none⟩,
  ⟨some 61, .mv (.tmp 60), none⟩,
  ⟨some 62, .load false 2 (.tmp 1), some (61, true)⟩,
  ⟨some 63, .load false 2 (.tmp 1), some (61, true)⟩,
  ⟨some 64, .call 20 [(.tmp 62), (.tmp 63)], some (61, true)⟩,
  ⟨some 65, .pick (.tmp 61) (.tmp 64) (.con (.bool false)), none⟩,
  ⟨some 0, .mv (.tmp 65), none⟩] [])
.ret))))))), [.tmp 0], true, none, false⟩
/-- cotterel/coh.New -/
def f8 : AFun := ⟨28, (.seq (.region [⟨some 8, .alloc [(.imm true 0 []), (.imm true 0 [])], none⟩] [])
(.seq (.region [⟨some 10, .mv (.tmp 0), none⟩,
  ⟨some 11, .call 22 [(.tmp 10)], none⟩,
  ⟨some 12, .build [(.imm true 0 []), (.imm true 0 [])] [(0, 1, (.tmp 11))], none⟩,
  ⟨some 9, .alloc [(.imm true 0 []), (.imm true 0 [])], none⟩,
  ⟨none, .store 2 (.tmp 9) (.tmp 12), none⟩] [])
(.seq (.seq (.region [⟨some 13, .mv (.tmp 3), none⟩,
   ⟨some 14, .mx [(.tmp 13), (.con (.int .i64 1))], none⟩,
   ⟨some 15, .mn [(.tmp 14), (.con (.int .i64 2))], none⟩,
   ⟨some 16, .mv (.con (.int .i64 0)), none⟩] [])
 (.block 0 (.loop (.seq (.region [⟨some 17, .bin .lss (.tmp 16) (.tmp 15), none⟩] [])
   (.seq (.cond (.tmp 17)
     .skip
     (.exit 0))
   (.seq (.block 1 (.region [⟨some 18, .faddr (.tmp 9) 1, none⟩,
      ⟨some 19, .load true 1 (.tmp 18), none⟩,
      ⟨some 20, .mv (.tmp 1), none⟩,
      ⟨some 21, .mv (.tmp 2), none⟩,
      ⟨some 22, .call 23 [(.tmp 20), (.tmp 21)], none⟩,
      ⟨some 23, .bsl [(.imm true 0 [])] 1 1 [(0, 1, (.tmp 22))], none⟩,
      ⟨some 24, .append 1 24 (.tmp 19) (.tmp 23), none⟩,
      ⟨some 25, .faddr (.tmp 9) 1, none⟩,
      ⟨none, .store 1 (.tmp 25) (.tmp 24), none⟩] [(1, 4), (1, 5)]))
   (.region [⟨some 26, .bin .add (.tmp 16) (.con (.int .i64 1)), none⟩,
    ⟨some 16, .mv (.tmp 26), none⟩] [])))))))
(.seq (.region [⟨some 27, .load false 2 (.tmp 9), none⟩,
  ⟨none, .store 2 (.tmp 8) (.tmp 27), none⟩] [])
.ret)))), [.cell 8 false 2], true, none, false⟩
/-- cotterel/cotterelref40.Small -/
def f10 : AFun := ⟨52, (.seq (.region [⟨some 1, .box (.tmp 0), none⟩,
  ⟨some 2, .mv (.con (.bool false)), none⟩] [])
(.seq (.seq (.region [⟨some 5, .faddr (.tmp 1) 0, none⟩,
   ⟨some 6, .load true 1 (.tmp 5), none⟩,
   ⟨some 7, .len (.tmp 6), none⟩,
   ⟨some 8, .bin .gtr (.tmp 7) (.con (.int .i64 1024)), none⟩,
   ⟨some 9, .mv (.tmp 8), none⟩,
   ⟨some 10, .faddr (.tmp 1) 1, some (9, false)⟩,
   ⟨some 11, .load true 1 (.tmp 10), some (9, false)⟩,
   ⟨some 12, .len (.tmp 11), some (9, false)⟩,
   ⟨some 13, .bin .gtr (.tmp 12) (.con (.int .i64 4)), some (9, false)⟩,
   ⟨some 14, .pick (.tmp 9) (.con (.bool true)) (.tmp 13), none⟩] [])
 (.cond (.tmp 14)
  (.seq (.region [⟨some 2, .mv (.con (.bool false)), none⟩] [])
  .ret)
  .skip))
(.seq (.seq (.region [⟨some 3, .mv (.con (.int .i64 0)), none⟩] [])
 (.block 0 (.loop (.seq (.seq (.region [⟨some 15, .mv (.tmp 3), none⟩,
      ⟨some 16, .faddr (.tmp 1) 1, none⟩,
      ⟨some 17, .load true 1 (.tmp 16), none⟩,
      ⟨some 18, .len (.tmp 17), none⟩,
      ⟨some 19, .bin .lss (.tmp 15) (.tmp 18), none⟩] [])
    (.cond (.tmp 19)
     .skip
     (.exit 0)))
   (.seq (.block 1 (.seq (.seq (.region [⟨some 22, .faddr (.tmp 1) 1, none⟩,
        ⟨some 23, .load true 1 (.tmp 22), none⟩,
        ⟨some 24, .mv (.tmp 3), none⟩,
        ⟨some 25, .isl 1 (.tmp 23) (.tmp 24), none⟩,
        ⟨some 26, .faddr (.tmp 25) 0, none⟩,
        ⟨some 27, .load true 1 (.tmp 26), none⟩,
        ⟨some 28, .len (.tmp 27), none⟩,
        ⟨some 29, .bin .gtr (.tmp 28) (.con (.int .i64 8)), none⟩] [])
      (.cond (.tmp 29)
       (.seq (.region [⟨some 2, .mv (.con (.bool false)), none⟩] [])
       .ret)
       .skip))
     (.seq (.region [⟨some 4, .mv (.con (.int .i64 0)), none⟩] [])
     (.block 2 (.loop (.seq (.seq (.region [⟨some 30, .mv (.tmp 4), none⟩,
          ⟨some 31, .faddr (.tmp 1) 1, none⟩,
          ⟨some 32, .load true 1 (.tmp 31), none⟩,
          ⟨some 33, .mv (.tmp 3), none⟩,
          ⟨some 34, .isl 1 (.tmp 32) (.tmp 33), none⟩,
          ⟨some 35, .faddr (.tmp 34) 0, none⟩,
          ⟨some 36, .load true 1 (.tmp 35), none⟩,
          ⟨some 37, .len (.tmp 36), none⟩,
          ⟨some 38, .bin .lss (.tmp 30) (.tmp 37), none⟩] [])
        (.cond (.tmp 38)
         .skip
         (.exit 2)))
       (.seq (.block 3 (.seq (.region [⟨some 41, .faddr (.tmp 1) 1, none⟩,
           ⟨some 42, .load true 1 (.tmp 41), none⟩,
           ⟨some 43, .mv (.tmp 3), none⟩,
           ⟨some 44, .isl 1 (.tmp 42) (.tmp 43), none⟩,
           ⟨some 45, .faddr (.tmp 44) 0, none⟩,
           ⟨some 46, .load true 1 (.tmp 45), none⟩,
           ⟨some 47, .mv (.tmp 4), none⟩,
           ⟨some 48, .isl 1 (.tmp 46) (.tmp 47), none⟩,
           ⟨some 49, .load true 1 (.tmp 48), none⟩,
           ⟨some 50, .len (.tmp 49), none⟩,
           ⟨some 51, .bin .gtr (.tmp 50) (.con (.int .i64 4)), none⟩] [])
         (.cond (.tmp 51)
          (.seq (.region [⟨some 2, .mv (.con (.bool false)), none⟩] [])
          .ret)
          .skip)))
       (.region [⟨some 39, .mv (.tmp 4), none⟩,
        ⟨some 40, .bin .add (.tmp 39) (.con (.int .i64 1)), none⟩,
        ⟨some 4, .mv (.tmp 40), none⟩] []))))))))
   (.region [⟨some 20, .mv (.tmp 3), none⟩,
    ⟨some 21, .bin .add (.tmp 20) (.con (.int .i64 1)), none⟩,
    ⟨some 3, .mv (.tmp 21), none⟩] []))))))
(.seq (.region [⟨some 2, .mv (.con (.bool true)), none⟩] [])
.ret)))), [.tmp 2], true, none, false⟩
/-- cotterel/coh.Right -/
def f11 : AFun := ⟨35, (.seq (.region [⟨some 1, .box (.tmp 0), none⟩,
  ⟨some 2, .mv (.con (.bool false)), none⟩] [])
(.seq (.seq (.region [⟨some 5, .faddr (.tmp 1) 0, none⟩,
   ⟨some 6, .load true 1 (.tmp 5), none⟩,
   ⟨some 7, .call 25 [(.tmp 6)], none⟩,
   ⟨some 8, .un .not (.tmp 7), none⟩,
   ⟨some 9, .mv (.tmp 8), none⟩,
   ⟨some 10, .faddr (.tmp 1) 1, some (9, false)⟩,
   ⟨some 11, .load true 1 (.tmp 10), some (9, false)⟩,
   ⟨some 12, .len (.tmp 11), some (9, false)⟩,
   ⟨some 13, .bin .lss (.tmp 12) (.con (.int .i64 1)), some (9, false)⟩,
   ⟨some 14, .pick (.tmp 9) (.con (.bool true)) (.tmp 13), none⟩,
   ⟨some 15, .mv (.tmp 14), none⟩,
   ⟨some 16, .faddr (.tmp 1) 1, some (15, false)⟩,
   ⟨some 17, .load true 1 (.tmp 16), some (15, false)⟩,
   ⟨some 18, .len (.tmp 17), some (15, false)⟩,
   ⟨some 19, .bin .gtr (.tmp 18) (.con (.int .i64 2)), some (15, false)⟩,
   ⟨some 20, .pick (.tmp 15) (.con (.bool true)) (.tmp 19), none⟩] [])
 (.cond (.tmp 20)
  (.seq (.region [⟨some 2, .mv (.con (.bool false)), none⟩] [])
  .ret)
  .skip))
(.seq (.seq (.region [⟨some 21, .faddr (.tmp 1) 1, none⟩,
   ⟨some 22, .load true 1 (.tmp 21), none⟩,
   ⟨some 23, .len (.tmp 22), none⟩,
   ⟨some 24, .mv (.con (.int .i64 0)), none⟩] [])
 (.block 0 (.loop (.seq (.region [⟨some 25, .bin .lss (.tmp 24) (.tmp 23), none⟩] [])
   (.seq (.cond (.tmp 25)
     .skip
     (.exit 0))
   (.seq (.block 1 (.seq (.region [⟨some 26, .isl 1 (.tmp 22) (.tmp 24), none⟩,
       ⟨some 27, .load false 1 (.tmp 26), none⟩,
       ⟨some 4, .alloc [(.imm true 0 [])], none⟩,
       ⟨none, .store 1 (.tmp 4) (.tmp 27), none⟩] [])
     (.seq (.region [⟨some 28, .load false 1 (.tmp 4), none⟩,
       ⟨some 29, .call 26 [(.tmp 28)], none⟩,
       ⟨some 30, .un .not (.tmp 29), none⟩] [])
     (.cond (.tmp 30)
      (.seq (.region [⟨some 2, .mv (.con (.bool false)), none⟩] [])
      .ret)
      .skip))))
   (.region [⟨some 31, .bin .add (.tmp 24) (.con (.int .i64 1)), none⟩,
    ⟨some 24, .mv (.tmp 31), none⟩] [])))))))
(.seq (.region [⟨some 32, .load false 2 (.tmp 1), none⟩,
  ⟨some 33, .mkfn 28 [] [(.tmp 1)], none⟩,
  ⟨some 34, .call 27 [(.tmp 32), (.tmp 33)], none⟩,
  ⟨some 2, .mv (.tmp 34), none⟩] [])
.ret)))), [.tmp 2], true, none, false⟩
/-- cotterel/coh.View -/
def f12 : AFun := ⟨11, (.seq (.region [⟨some 1, .box (.tmp 0), none⟩,
  ⟨some 2, .mv (.con (.imm true 0 [])), none⟩] [])
(.seq (.region [⟨some 4, .faddr (.tmp 1) 0, none⟩,
  ⟨some 5, .load true 1 (.tmp 4), none⟩,
  ⟨some 6, .call 22 [(.tmp 5)], none⟩,
  ⟨some 3, .alloc [(.imm true 0 [])], none⟩,
  ⟨none, .store 1 (.tmp 3) (.tmp 6), none⟩] [])
(.seq (.region [⟨some 7, .load false 2 (.tmp 1), none⟩,
  ⟨some 8, .mkfn 30 [] [(.tmp 3)], none⟩,
  ⟨some 9, .call 27 [(.tmp 7), (.tmp 8)], none⟩] [])
(.seq (.region [⟨some 10, .load true 1 (.tmp 3), none⟩,
  ⟨some 2, .mv (.tmp 10), none⟩] [])
.ret)))), [.tmp 2], true, none, false⟩
/-- cotterel/cotterelref41.May -/
def f13 : AFun := ⟨44, (.seq (.region [⟨some 4, .box (.tmp 0), none⟩,
  ⟨some 8, .mv (.con (.bool false)), none⟩] [])
(.seq (.seq (.region [⟨some 9, .mv (.tmp 1), none⟩,
   ⟨some 10, .bin .lss (.tmp 9) (.con (.int .i64 0)), none⟩,
   ⟨some 11, .mv (.tmp 10), none⟩,
   ⟨some 12, .mv (.tmp 1), some (11, false)⟩,
   ⟨some 13, .faddr (.tmp 4) 1, some (11, false)⟩,
   ⟨some 14, .load true 1 (.tmp 13), some (11, false)⟩,
   ⟨some 15, .len (.tmp 14), some (11, false)⟩,
   ⟨some 16, .bin .geq (.tmp 12) (.tmp 15), some (11, false)⟩,
   ⟨some 17, .pick (.tmp 11) (.con (.bool true)) (.tmp 16), none⟩,
   ⟨some 18, .mv (.tmp 17), none⟩,
   ⟨some 19, .mv (.tmp 3), some (18, false)⟩,
   ⟨some 20, .bin .neq (.tmp 19) (.con (.int .i64 1)), some (18, false)⟩,
   ⟨some 21, .mv (.tmp 20), some (18, false)⟩,
   ⟨some 22, .mv (.tmp 3), some (21, true)⟩,
   ⟨some 23, .bin .neq (.tmp 22) (.con (.int .i64 2)), some (21, true)⟩,
   ⟨some 24, .pick (.tmp 21) (.tmp 23) (.con (.bool false)), some (18, false)⟩,
   ⟨some 25, .mv (.tmp 24), some (18, false)⟩,
   ⟨some 26, .mv (.tmp 3), some (25, true)⟩,
   ⟨some 27, .bin .neq (.tmp 26) (.con (.int .i64 4)), some (25, true)⟩,
   ⟨some 28, .pick (.tmp 25) (.tmp 27) (.con (.bool false)), some (18, false)⟩,
   ⟨some 29, .pick (.tmp 18) (.con (.bool true)) (.tmp 28), none⟩] [])
 (.cond (.tmp 29)
  (.seq (.region [⟨some 8, .mv (.con (.bool false)), none⟩] [])
  .ret)
  .skip))
(.seq (.region [⟨some 30, .mv (.tmp 2), none⟩,
  ⟨some 31, .bin .rem (.tmp 30) (.con (.int .u32 16)), none⟩,
  ⟨some 32, .conv .i64 (.tmp 31), none⟩,
  ⟨some 33, .mv (.tmp 3), none⟩,
  ⟨some 34, .bin .add (.tmp 32) (.tmp 33), none⟩,
  ⟨some 35, .bin .leq (.tmp 34) (.con (.int .i64 16)), none⟩,
  ⟨some 36, .mv (.tmp 35), none⟩,
  ⟨some 37, .faddr (.tmp 4) 0, some (36, true)⟩,
  ⟨some 38, .load true 1 (.tmp 37), some (36, true)⟩,
  ⟨some 39, .mv (.tmp 2), some (36, true)⟩,
  ⟨some 40, .mv (.tmp 3), some (36, true)⟩,
  ⟨some 41, .call 32 [(.tmp 38), (.tmp 39), (.tmp 40)], some (36, true)⟩,
  ⟨some 42, .bin .eql (.tmp 41) (.con (.int .i64 0)), some (36, true)⟩,
  ⟨some 43, .pick (.tmp 36) (.tmp 42) (.con (.bool false)), none⟩,
  ⟨some 8, .mv (.tmp 43), none⟩] [])
.ret))), [.tmp 8], true, none, false⟩
/-- cotterel/coh.Write -/
def f14 : AFun := ⟨54, (.seq (.region [⟨some 5, .box (.tmp 0), none⟩,
  ⟨some 10, .alloc [(.imm true 0 []), (.imm true 0 [])], none⟩,
  ⟨some 11, .mv (.con (.bool false)), none⟩] [])
(.seq (.seq (.region [⟨some 16, .load false 2 (.tmp 5), none⟩,
   ⟨some 17, .mv (.tmp 1), none⟩,
   ⟨some 18, .mv (.tmp 2), none⟩,
   ⟨some 19, .mv (.tmp 3), none⟩,
   ⟨some 20, .call 33 [(.tmp 16), (.tmp 17), (.tmp 18), (.tmp 19)], none⟩,
   ⟨some 21, .un .not (.tmp 20), none⟩] [])
 (.cond (.tmp 21)
  (.seq (.region [⟨some 22, .load false 2 (.tmp 5), none⟩,
    ⟨none, .store 2 (.tmp 10) (.tmp 22), none⟩,
    ⟨some 11, .mv (.con (.bool false)), none⟩] [])
  .ret)
  .skip))
(.seq (.region [⟨some 23, .mv (.tmp 2), none⟩,
  ⟨some 24, .call 34 [(.tmp 23)], none⟩,
  ⟨some 12, .mv (.tmp 24), none⟩] [])
(.seq (.region [⟨some 26, .load false 2 (.tmp 5), none⟩,
  ⟨some 27, .mv (.tmp 1), none⟩,
  ⟨some 28, .mv (.tmp 12), none⟩,
  ⟨some 29, .call 35 [(.tmp 26), (.tmp 27), (.tmp 28), (.con (.int .i64 2))], none⟩,
  ⟨some 25, .mv (.tmp 29), none⟩,
  ⟨some 30, .extract (.tmp 25) 0, none⟩,
  ⟨some 31, .extract (.tmp 25) 1, none⟩,
  ⟨none, .store 2 (.tmp 5) (.tmp 30), none⟩,
  ⟨some 13, .mv (.tmp 31), none⟩] [])
(.seq (.seq (.region [⟨some 33, .faddr (.tmp 5) 1, none⟩,
   ⟨some 34, .load true 1 (.tmp 33), none⟩,
   ⟨some 35, .mv (.tmp 1), none⟩,
   ⟨some 36, .isl 1 (.tmp 34) (.tmp 35), none⟩,
   ⟨some 37, .load false 1 (.tmp 36), none⟩,
   ⟨some 38, .mv (.tmp 2), none⟩,
   ⟨some 39, .mv (.tmp 3), none⟩,
   ⟨some 40, .mv (.tmp 4), none⟩,
   ⟨some 41, .call 36 [(.tmp 37), (.tmp 38), (.tmp 39), (.tmp 40)], none⟩,
   ⟨some 32, .mv (.tmp 41), none⟩,
   ⟨some 42, .extract (.tmp 32) 0, none⟩,
   ⟨some 43, .extract (.tmp 32) 1, none⟩,
   ⟨some 14, .alloc [(.imm true 0 [])], none⟩,
   ⟨none, .store 1 (.tmp 14) (.tmp 42), none⟩,
   ⟨some 15, .mv (.tmp 43), none⟩] [])
 (.seq (.region [⟨some 44, .mv (.tmp 15), none⟩] [])
 (.cond (.tmp 44)
  (.region [⟨some 45, .load false 2 (.tmp 5), none⟩,
   ⟨some 46, .mv (.tmp 1), none⟩,
   ⟨some 47, .load false 1 (.tmp 14), none⟩,
   ⟨some 48, .call 37 [(.tmp 45), (.tmp 46), (.tmp 47)], none⟩,
   ⟨none, .store 2 (.tmp 5) (.tmp 48), none⟩] [])
  .skip)))
(.seq (.region [⟨some 49, .load false 2 (.tmp 5), none⟩,
  ⟨some 50, .mv (.tmp 1), none⟩,
  ⟨some 51, .mv (.tmp 12), none⟩,
  ⟨some 52, .call 38 [(.tmp 49), (.tmp 50), (.tmp 51)], none⟩,
  ⟨some 53, .mv (.tmp 13), none⟩,
  ⟨none, .store 2 (.tmp 10) (.tmp 52), none⟩,
  ⟨some 11, .mv (.tmp 53), none⟩] [])
.ret)))))), [.cell 10 false 2, .tmp 11], true, none, false⟩
/-- cotterel/cotterelref10.Write -/
def f15 : AFun := ⟨40, (.seq (.region [⟨some 8, .mv (.con (.imm true 0 [])), none⟩,
  ⟨some 9, .mv (.con (.int .i64 0)), none⟩] [])
(.seq (.region [⟨some 13, .mv (.tmp 0), none⟩,
  ⟨some 14, .mv (.tmp 1), none⟩,
  ⟨some 15, .mv (.tmp 2), none⟩,
  ⟨some 16, .call 32 [(.tmp 13), (.tmp 14), (.tmp 15)], none⟩,
  ⟨some 10, .mv (.tmp 16), none⟩] [])
(.seq (.seq (.region [⟨some 17, .mv (.tmp 10), none⟩,
   ⟨some 18, .bin .neq (.tmp 17) (.con (.int .i64 0)), none⟩] [])
 (.cond (.tmp 18)
  (.seq (.region [⟨some 19, .mv (.tmp 10), none⟩,
    ⟨some 8, .mv (.con (.imm true 0 [])), none⟩,
    ⟨some 9, .mv (.tmp 19), none⟩] [])
  .ret)
  .skip))
(.seq (.region [⟨some 20, .bsl [] 0 1 [], none⟩,
  ⟨some 21, .mv (.tmp 0), none⟩,
  ⟨some 22, .append 1 1 (.tmp 20) (.tmp 21), none⟩,
  ⟨some 11, .mv (.tmp 22), none⟩] [])
(.seq (.seq (.region [⟨some 12, .mv (.con (.int .i64 0)), none⟩] [])
 (.block 0 (.loop (.seq (.seq (.region [⟨some 23, .mv (.tmp 12), none⟩,
      ⟨some 24, .mv (.tmp 2), none⟩,
      ⟨some 25, .bin .lss (.tmp 23) (.tmp 24), none⟩] [])
    (.cond (.tmp 25)
     .skip
     (.exit 0)))
   (.seq (.block 1 (.seq (.region [⟨some 28, .mv (.tmp 11), none⟩,
       ⟨some 29, .mv (.tmp 1), none⟩,
       ⟨some 30, .conv .i64 (.tmp 29), none⟩,
       ⟨some 31, .mv (.tmp 12), none⟩,
       ⟨some 32, .bin .add (.tmp 30) (.tmp 31), none⟩,
       ⟨some 33, .mv (.tmp 3), none⟩,
       ⟨some 34, .bin .rem (.tmp 33) (.con (.int .u32 256)), none⟩,
       ⟨some 35, .conv .u8 (.tmp 34), none⟩,
       ⟨some 36, .isl 1 (.tmp 28) (.tmp 32), none⟩,
       ⟨none, .store 1 (.tmp 36) (.tmp 35), none⟩] [])
     (.region [⟨some 37, .mv (.tmp 3), none⟩,
      ⟨some 38, .bin .quo (.tmp 37) (.con (.int .u32 256)), none⟩,
      ⟨some 3, .mv (.tmp 38), none⟩] [])))
   (.region [⟨some 26, .mv (.tmp 12), none⟩,
    ⟨some 27, .bin .add (.tmp 26) (.con (.int .i64 1)), none⟩,
    ⟨some 12, .mv (.tmp 27), none⟩] []))))))
(.seq (.region [⟨some 39, .mv (.tmp 11), none⟩,
  ⟨some 8, .mv (.tmp 39), none⟩,
  ⟨some 9, .mv (.con (.int .i64 0)), none⟩] [])
.ret)))))), [.tmp 8, .tmp 9], true, none, false⟩
/-- cotterel/coh.Read -/
def f16 : AFun := ⟨48, (.seq (.region [⟨some 4, .box (.tmp 0), none⟩,
  ⟨some 8, .mv (.con (.int .u32 0)), none⟩,
  ⟨some 9, .alloc [(.imm true 0 []), (.imm true 0 [])], none⟩,
  ⟨some 10, .mv (.con (.bool false)), none⟩] [])
(.seq (.seq (.region [⟨some 15, .load false 2 (.tmp 4), none⟩,
   ⟨some 16, .mv (.tmp 1), none⟩,
   ⟨some 17, .mv (.tmp 2), none⟩,
   ⟨some 18, .mv (.tmp 3), none⟩,
   ⟨some 19, .call 33 [(.tmp 15), (.tmp 16), (.tmp 17), (.tmp 18)], none⟩,
   ⟨some 20, .un .not (.tmp 19), none⟩] [])
 (.cond (.tmp 20)
  (.seq (.region [⟨some 21, .load false 2 (.tmp 4), none⟩,
    ⟨some 8, .mv (.con (.int .u32 0)), none⟩,
    ⟨none, .store 2 (.tmp 9) (.tmp 21), none⟩,
    ⟨some 10, .mv (.con (.bool false)), none⟩] [])
  .ret)
  .skip))
(.seq (.region [⟨some 22, .mv (.tmp 2), none⟩,
  ⟨some 23, .call 34 [(.tmp 22)], none⟩,
  ⟨some 11, .mv (.tmp 23), none⟩] [])
(.seq (.region [⟨some 25, .load false 2 (.tmp 4), none⟩,
  ⟨some 26, .mv (.tmp 1), none⟩,
  ⟨some 27, .mv (.tmp 11), none⟩,
  ⟨some 28, .call 35 [(.tmp 25), (.tmp 26), (.tmp 27), (.con (.int .i64 1))], none⟩,
  ⟨some 24, .mv (.tmp 28), none⟩,
  ⟨some 29, .extract (.tmp 24) 0, none⟩,
  ⟨some 30, .extract (.tmp 24) 1, none⟩,
  ⟨none, .store 2 (.tmp 4) (.tmp 29), none⟩,
  ⟨some 12, .mv (.tmp 30), none⟩] [])
(.seq (.region [⟨some 32, .faddr (.tmp 4) 1, none⟩,
  ⟨some 33, .load true 1 (.tmp 32), none⟩,
  ⟨some 34, .mv (.tmp 1), none⟩,
  ⟨some 35, .isl 1 (.tmp 33) (.tmp 34), none⟩,
  ⟨some 36, .load false 1 (.tmp 35), none⟩,
  ⟨some 37, .mv (.tmp 2), none⟩,
  ⟨some 38, .mv (.tmp 3), none⟩,
  ⟨some 39, .call 39 [(.tmp 36), (.tmp 37), (.tmp 38)], none⟩,
  ⟨some 31, .mv (.tmp 39), none⟩,
  ⟨some 40, .extract (.tmp 31) 0, none⟩,
  ⟨some 41, .extract (.tmp 31) 1, none⟩,
  ⟨some 13, .mv (.tmp 40), none⟩,
  ⟨some 14, .mv (.tmp 41), none⟩] [])
(.seq (.region [⟨some 42, .mv (.tmp 13), none⟩,
  ⟨some 43, .load false 2 (.tmp 4), none⟩,
  ⟨some 44, .mv (.tmp 1), none⟩,
  ⟨some 45, .mv (.tmp 11), none⟩,
  ⟨some 46, .call 38 [(.tmp 43), (.tmp 44), (.tmp 45)], none⟩,
  ⟨some 47, .mv (.tmp 12), none⟩,
  ⟨some 8, .mv (.tmp 42), none⟩,
  ⟨none, .store 2 (.tmp 9) (.tmp 46), none⟩,
  ⟨some 10, .mv (.tmp 47), none⟩] [])
.ret)))))), [.tmp 8, .cell 9 false 2, .tmp 10], true, none, false⟩
/-- cotterel/cotterelref10.Read -/
def f17 : AFun := ⟨36, (.seq (.region [⟨some 6, .mv (.con (.int .u32 0)), none⟩,
  ⟨some 7, .mv (.con (.int .i64 0)), none⟩] [])
(.seq (.region [⟨some 11, .mv (.tmp 0), none⟩,
  ⟨some 12, .mv (.tmp 1), none⟩,
  ⟨some 13, .mv (.tmp 2), none⟩,
  ⟨some 14, .call 32 [(.tmp 11), (.tmp 12), (.tmp 13)], none⟩,
  ⟨some 8, .mv (.tmp 14), none⟩] [])
(.seq (.seq (.region [⟨some 15, .mv (.tmp 8), none⟩,
   ⟨some 16, .bin .neq (.tmp 15) (.con (.int .i64 0)), none⟩] [])
 (.cond (.tmp 16)
  (.seq (.region [⟨some 17, .mv (.tmp 8), none⟩,
    ⟨some 6, .mv (.con (.int .u32 0)), none⟩,
    ⟨some 7, .mv (.tmp 17), none⟩] [])
  .ret)
  .skip))
(.seq (.region [⟨some 9, .mv (.con (.int .u32 0)), none⟩] [])
(.seq (.seq (.region [⟨some 18, .mv (.tmp 2), none⟩,
   ⟨some 19, .bin .sub (.tmp 18) (.con (.int .i64 1)), none⟩,
   ⟨some 10, .mv (.tmp 19), none⟩] [])
 (.block 0 (.loop (.seq (.seq (.region [⟨some 20, .mv (.tmp 10), none⟩,
      ⟨some 21, .bin .geq (.tmp 20) (.con (.int .i64 0)), none⟩] [])
    (.cond (.tmp 21)
     .skip
     (.exit 0)))
   (.seq (.block 1 (.region [⟨some 24, .mv (.tmp 9), none⟩,
      ⟨some 25, .bin .mul (.con (.int .u32 256)) (.tmp 24), none⟩,
      ⟨some 26, .mv (.tmp 0), none⟩,
      ⟨some 27, .mv (.tmp 1), none⟩,
      ⟨some 28, .conv .i64 (.tmp 27), none⟩,
      ⟨some 29, .mv (.tmp 10), none⟩,
      ⟨some 30, .bin .add (.tmp 28) (.tmp 29), none⟩,
      ⟨some 31, .isl 1 (.tmp 26) (.tmp 30), none⟩,
      ⟨some 32, .load true 1 (.tmp 31), none⟩,
      ⟨some 33, .conv .u32 (.tmp 32), none⟩,
      ⟨some 34, .bin .add (.tmp 25) (.tmp 33), none⟩,
      ⟨some 9, .mv (.tmp 34), none⟩] []))
   (.region [⟨some 22, .mv (.tmp 10), none⟩,
    ⟨some 23, .bin .sub (.tmp 22) (.con (.int .i64 1)), none⟩,
    ⟨some 10, .mv (.tmp 23), none⟩] []))))))
(.seq (.region [⟨some 35, .mv (.tmp 9), none⟩,
  ⟨some 6, .mv (.tmp 35), none⟩,
  ⟨some 7, .mv (.con (.int .i64 0)), none⟩] [])
.ret)))))), [.tmp 6, .tmp 7], true, none, false⟩
/-- cotterel/cotterelsame.Bytes -/
def f18 : AFun := ⟨32, (.seq (.region [⟨some 4, .mv (.con (.bool false)), none⟩] [])
(.seq (.seq (.region [⟨some 6, .mv (.tmp 0), none⟩,
   ⟨some 7, .len (.tmp 6), none⟩,
   ⟨some 8, .mv (.tmp 1), none⟩,
   ⟨some 9, .len (.tmp 8), none⟩,
   ⟨some 10, .bin .neq (.tmp 7) (.tmp 9), none⟩] [])
 (.cond (.tmp 10)
  (.seq (.region [⟨some 4, .mv (.con (.bool false)), none⟩] [])
  .ret)
  .skip))
(.seq (.seq (.region [⟨some 5, .mv (.con (.int .i64 0)), none⟩] [])
 (.block 0 (.loop (.seq (.seq (.region [⟨some 11, .mv (.tmp 5), none⟩,
      ⟨some 12, .mv (.tmp 0), none⟩,
      ⟨some 13, .len (.tmp 12), none⟩,
      ⟨some 14, .bin .lss (.tmp 11) (.tmp 13), none⟩,
      ⟨some 15, .mv (.tmp 14), none⟩,
      ⟨some 16, .mv (.tmp 5), some (15, true)⟩,
      ⟨some 17, .mv (.tmp 1), some (15, true)⟩,
      ⟨some 18, .len (.tmp 17), some (15, true)⟩,
      ⟨some 19, .bin .lss (.tmp 16) (.tmp 18), some (15, true)⟩,
      ⟨some 20, .pick (.tmp 15) (.tmp 19) (.con (.bool false)), none⟩] [])
    (.cond (.tmp 20)
     .skip
     (.exit 0)))
   (.seq (.block 1 (.seq (.region [⟨some 23, .mv (.tmp 0), none⟩,
       ⟨some 24, .mv (.tmp 5), none⟩,
       ⟨some 25, .isl 1 (.tmp 23) (.tmp 24), none⟩,
       ⟨some 26, .load true 1 (.tmp 25), none⟩,
       ⟨some 27, .mv (.tmp 1), none⟩,
       ⟨some 28, .mv (.tmp 5), none⟩,
       ⟨some 29, .isl 1 (.tmp 27) (.tmp 28), none⟩,
       ⟨some 30, .load true 1 (.tmp 29), none⟩,
       ⟨some 31, .bin .neq (.tmp 26) (.tmp 30), none⟩] [])
     (.cond (.tmp 31)
      (.seq (.region [⟨some 4, .mv (.con (.bool false)), none⟩] [])
      .ret)
      .skip)))
   (.region [⟨some 21, .mv (.tmp 5), none⟩,
    ⟨some 22, .bin .add (.tmp 21) (.con (.int .i64 1)), none⟩,
    ⟨some 5, .mv (.tmp 22), none⟩] []))))))
(.seq (.region [⟨some 4, .mv (.con (.bool true)), none⟩] [])
.ret)))), [.tmp 4], true, none, false⟩
/-- cotterel/cotterelref40.Shared -/
def f19 : AFun := ⟨25, (.seq (.region [⟨some 3, .box (.tmp 0), none⟩,
  ⟨some 6, .mv (.con (.bool false)), none⟩] [])
(.seq (.seq (.region [⟨some 7, .mv (.con (.int .i64 0)), none⟩] [])
 (.block 0 (.loop (.seq (.seq (.region [⟨some 8, .mv (.tmp 7), none⟩,
      ⟨some 9, .faddr (.tmp 3) 1, none⟩,
      ⟨some 10, .load true 1 (.tmp 9), none⟩,
      ⟨some 11, .len (.tmp 10), none⟩,
      ⟨some 12, .bin .lss (.tmp 8) (.tmp 11), none⟩] [])
    (.cond (.tmp 12)
     .skip
     (.exit 0)))
   (.seq (.block 1 (.seq (.region [⟨some 15, .mv (.tmp 7), none⟩,
       ⟨some 16, .mv (.tmp 1), none⟩,
       ⟨some 17, .bin .neq (.tmp 15) (.tmp 16), none⟩,
       ⟨some 18, .mv (.tmp 17), none⟩,
       ⟨some 19, .load false 2 (.tmp 3), some (18, true)⟩,
       ⟨some 20, .mv (.tmp 7), some (18, true)⟩,
       ⟨some 21, .mv (.tmp 2), some (18, true)⟩,
       ⟨some 22, .call 40 [(.tmp 19), (.tmp 20), (.tmp 21)], some (18, true)⟩,
       ⟨some 23, .bin .neq (.tmp 22) (.con (.int .i64 0)), some (18, true)⟩,
       ⟨some 24, .pick (.tmp 18) (.tmp 23) (.con (.bool false)), none⟩] [])
     (.cond (.tmp 24)
      (.seq (.region [⟨some 6, .mv (.con (.bool true)), none⟩] [])
      .ret)
      .skip)))
   (.region [⟨some 13, .mv (.tmp 7), none⟩,
    ⟨some 14, .bin .add (.tmp 13) (.con (.int .i64 1)), none⟩,
    ⟨some 7, .mv (.tmp 14), none⟩] []))))))
(.seq (.region [⟨some 6, .mv (.con (.bool false)), none⟩] [])
.ret))), [.tmp 6], true, none, false⟩
/-- cotterel/coh.Same -/
def f20 : AFun := ⟨17, (.seq (.region [⟨some 2, .box (.tmp 0), none⟩,
  ⟨some 3, .box (.tmp 1), none⟩,
  ⟨some 4, .mv (.con (.bool false)), none⟩] [])
(.seq (.region [⟨some 5, .faddr (.tmp 2) 0, none⟩,
  ⟨some 6, .load true 1 (.tmp 5), none⟩,
  ⟨some 7, .faddr (.tmp 3) 0, none⟩,
  ⟨some 8, .load true 1 (.tmp 7), none⟩,
  ⟨some 9, .call 41 [(.tmp 6), (.tmp 8)], none⟩,
  ⟨some 10, .mv (.tmp 9), none⟩,
  ⟨some 11, .faddr (.tmp 2) 1, some (10, true)⟩,
  ⟨some 12, .load true 1 (.tmp 11), some (10, true)⟩,
  ⟨some 13, .faddr (.tmp 3) 1, some (10, true)⟩,
  ⟨some 14, .load true 1 (.tmp 13), some (10, true)⟩,
  ⟨some 15, .call 42 [(.tmp 12), (.tmp 14), (.con (.fn 43 [] []))], some (10, true)⟩,
  ⟨some 16, .pick (.tmp 10) (.tmp 15) (.con (.bool false)), none⟩,
  ⟨some 4, .mv (.tmp 16), none⟩] [])
.ret)), [.tmp 4], true, none, false⟩
/-- cotterel/cache.New -/
def f23 : AFun := ⟨46, (.seq (.region [⟨some 4, .alloc [(.imm true 0 [])], none⟩] [])
(.seq (.region [⟨some 8, .mv (.tmp 0), none⟩,
  ⟨some 9, .call 47 [(.tmp 8), (.con (.int .i64 1)), (.con (.int .i64 8))], none⟩,
  ⟨some 10, .mksl [(.imm true 0 [])] 1 24 (.tmp 9) (.tmp 9), none⟩,
  ⟨some 11, .build [(.imm true 0 [])] [(0, 1, (.tmp 10))], none⟩,
  ⟨some 5, .alloc [(.imm true 0 [])], none⟩,
  ⟨none, .store 1 (.tmp 5) (.tmp 11), none⟩] [])
(.seq (.seq (.region [⟨some 12, .faddr (.tmp 5) 0, none⟩,
   ⟨some 13, .load true 1 (.tmp 12), none⟩,
   ⟨some 14, .len (.tmp 13), none⟩,
   ⟨some 15, .mv (.con (.int .i64 0)), none⟩] [])
 (.block 0 (.loop (.seq (.region [⟨some 16, .bin .lss (.tmp 15) (.tmp 14), none⟩] [])
   (.seq (.cond (.tmp 16)
     .skip
     (.exit 0))
   (.seq (.block 1 (.seq (.region [⟨some 17, .mv (.tmp 15), none⟩,
       ⟨some 6, .mv (.tmp 17), none⟩] [])
     (.seq (.region [⟨some 18, .faddr (.tmp 5) 0, none⟩,
       ⟨some 19, .load true 1 (.tmp 18), none⟩,
       ⟨some 20, .mv (.tmp 6), none⟩,
       ⟨some 21, .mv (.tmp 1), none⟩,
       ⟨some 22, .call 47 [(.tmp 21), (.con (.int .i64 1)), (.con (.int .i64 4))], none⟩,
       ⟨some 23, .mksl [(.int .i64 0), (.int .u32 0), (.int .u8 0), (.int .u8 0), (.int .u8 0), (.int .u8 0), (.int .u8 0), (.int .u8 0), (.int .u8 0), (.int .u8 0), (.int .u8 0), (.int .u8 0), (.int .u8 0), (.int .u8 0), (.int .u8 0), (.int .u8 0), (.int .u8 0), (.int .u8 0), (.int .i64 0)] 19 40 (.tmp 22) (.tmp 22), none⟩,
       ⟨some 24, .isl 1 (.tmp 19) (.tmp 20), none⟩,
       ⟨none, .store 1 (.tmp 24) (.tmp 23), none⟩] [(1, 4), (1, 5)])
     (.seq (.region [⟨some 25, .faddr (.tmp 5) 0, none⟩,
       ⟨some 26, .load true 1 (.tmp 25), none⟩,
       ⟨some 27, .mv (.tmp 6), none⟩,
       ⟨some 28, .isl 1 (.tmp 26) (.tmp 27), none⟩,
       ⟨some 29, .load true 1 (.tmp 28), none⟩,
       ⟨some 30, .len (.tmp 29), none⟩,
       ⟨some 31, .mv (.con (.int .i64 0)), none⟩] [])
     (.block 2 (.loop (.seq (.region [⟨some 32, .bin .lss (.tmp 31) (.tmp 30), none⟩] [])
       (.seq (.cond (.tmp 32)
         .skip
         (.exit 2))
       (.seq (.block 3 (.seq (.region [⟨some 33, .mv (.tmp 31), none⟩,
           ⟨some 7, .mv (.tmp 33), none⟩] [])
         (.region [⟨some 34, .faddr (.tmp 5) 0, none⟩,
          ⟨some 35, .load true 1 (.tmp 34), none⟩,
          ⟨some 36, .mv (.tmp 6), none⟩,
          ⟨some 37, .isl 1 (.tmp 35) (.tmp 36), none⟩,
          ⟨some 38, .load true 1 (.tmp 37), none⟩,
          ⟨some 39, .mv (.tmp 7), none⟩,
          ⟨some 40, .mv (.tmp 7), none⟩,
          ⟨some 41, .isl 19 (.tmp 38) (.tmp 39), none⟩,
          ⟨some 42, .faddr (.tmp 41) 18, none⟩,
          ⟨none, .store 1 (.tmp 42) (.tmp 40), none⟩] [])))
       (.region [⟨some 43, .bin .add (.tmp 31) (.con (.int .i64 1)), none⟩,
        ⟨some 31, .mv (.tmp 43), none⟩] []))))))))))
   (.region [⟨some 44, .bin .add (.tmp 15) (.con (.int .i64 1)), none⟩,
    ⟨some 15, .mv (.tmp 44), none⟩] [])))))))
(.seq (.region [⟨some 45, .load false 1 (.tmp 5), none⟩,
  ⟨none, .store 1 (.tmp 4) (.tmp 45), none⟩] [])
.ret)))), [.cell 4 false 1], true, none, false⟩
/-- cotterel/mem.Right -/
def f25 : AFun := ⟨17, (.seq (.region [⟨some 2, .mv (.con (.bool false)), none⟩] [])
(.seq (.region [⟨some 3, .mv (.tmp 0), none⟩,
  ⟨some 4, .len (.tmp 3), none⟩,
  ⟨some 5, .bin .geq (.tmp 4) (.con (.int .i64 64)), none⟩,
  ⟨some 6, .mv (.tmp 5), none⟩,
  ⟨some 7, .mv (.tmp 0), some (6, true)⟩,
  ⟨some 8, .len (.tmp 7), some (6, true)⟩,
  ⟨some 9, .bin .leq (.tmp 8) (.con (.int .i64 16384)), some (6, true)⟩,
  ⟨some 10, .pick (.tmp 6) (.tmp 9) (.con (.bool false)), none⟩,
  ⟨some 11, .mv (.tmp 10), none⟩,
  ⟨some 12, .mv (.tmp 0), some (11, true)⟩,
  ⟨some 13, .len (.tmp 12), some (11, true)⟩,
  ⟨some 14, .bin .rem (.tmp 13) (.con (.int .i64 64)), some (11, true)⟩,
  ⟨some 15, .bin .eql (.tmp 14) (.con (.int .i64 0)), some (11, true)⟩,
  ⟨some 16, .pick (.tmp 11) (.tmp 15) (.con (.bool false)), none⟩,
  ⟨some 2, .mv (.tmp 16), none⟩] [])
.ret)), [.tmp 2], true, none, false⟩
/-- cotterel/cache.Right -/
def f26 : AFun := ⟨39, (.seq (.region [⟨some 1, .box (.tmp 0), none⟩,
  ⟨some 2, .mv (.con (.bool false)), none⟩] [])
(.seq (.seq (.region [⟨some 4, .faddr (.tmp 1) 0, none⟩,
   ⟨some 5, .load true 1 (.tmp 4), none⟩,
   ⟨some 6, .len (.tmp 5), none⟩,
   ⟨some 7, .bin .lss (.tmp 6) (.con (.int .i64 1)), none⟩,
   ⟨some 8, .mv (.tmp 7), none⟩,
   ⟨some 9, .faddr (.tmp 1) 0, some (8, false)⟩,
   ⟨some 10, .load true 1 (.tmp 9), some (8, false)⟩,
   ⟨some 11, .len (.tmp 10), some (8, false)⟩,
   ⟨some 12, .bin .gtr (.tmp 11) (.con (.int .i64 8)), some (8, false)⟩,
   ⟨some 13, .pick (.tmp 8) (.con (.bool true)) (.tmp 12), none⟩] [])
 (.cond (.tmp 13)
  (.seq (.region [⟨some 2, .mv (.con (.bool false)), none⟩] [])
  .ret)
  .skip))
(.seq (.seq (.region [⟨some 14, .faddr (.tmp 1) 0, none⟩,
   ⟨some 15, .load true 1 (.tmp 14), none⟩,
   ⟨some 16, .len (.tmp 15), none⟩,
   ⟨some 17, .mv (.con (.int .i64 0)), none⟩] [])
 (.block 0 (.loop (.seq (.region [⟨some 18, .bin .lss (.tmp 17) (.tmp 16), none⟩] [])
   (.seq (.cond (.tmp 18)
     .skip
     (.exit 0))
   (.seq (.block 1 (.seq (.region [⟨some 19, .mv (.tmp 17), none⟩,
       ⟨some 3, .mv (.tmp 19), none⟩] [])
     (.seq (.region [⟨some 20, .faddr (.tmp 1) 0, none⟩,
       ⟨some 21, .load true 1 (.tmp 20), none⟩,
       ⟨some 22, .mv (.tmp 3), none⟩,
       ⟨some 23, .isl 1 (.tmp 21) (.tmp 22), none⟩,
       ⟨some 24, .load true 1 (.tmp 23), none⟩,
       ⟨some 25, .len (.tmp 24), none⟩,
       ⟨some 26, .faddr (.tmp 1) 0, none⟩,
       ⟨some 27, .load true 1 (.tmp 26), none⟩,
       ⟨some 28, .isl 1 (.tmp 27) (.con (.int .i64 0)), none⟩,
       ⟨some 29, .load true 1 (.tmp 28), none⟩,
       ⟨some 30, .len (.tmp 29), none⟩,
       ⟨some 31, .bin .neq (.tmp 25) (.tmp 30), none⟩,
       ⟨some 32, .mv (.tmp 31), none⟩,
       ⟨some 33, .load false 1 (.tmp 1), some (32, false)⟩,
       ⟨some 34, .mv (.tmp 3), some (32, false)⟩,
       ⟨some 35, .call 48 [(.tmp 33), (.tmp 34)], some (32, false)⟩,
       ⟨some 36, .un .not (.tmp 35), some (32, false)⟩,
       ⟨some 37, .pick (.tmp 32) (.con (.bool true)) (.tmp 36), none⟩] [])
     (.cond (.tmp 37)
      (.seq (.region [⟨some 2, .mv (.con (.bool false)), none⟩] [])
      .ret)
      .skip))))
   (.region [⟨some 38, .bin .add (.tmp 17) (.con (.int .i64 1)), none⟩,
    ⟨some 17, .mv (.tmp 38), none⟩] [])))))))
(.seq (.region [⟨some 2, .mv (.con (.bool true)), none⟩] [])
.ret)))), [.tmp 2], true, none, false⟩
/-- cotterel/coh.each -/
def f27 : AFun := ⟨38, (.seq (.region [⟨some 2, .box (.tmp 0), none⟩,
  ⟨some 4, .mv (.con (.bool false)), none⟩] [])
(.seq (.seq (.region [⟨some 11, .faddr (.tmp 2) 1, none⟩,
   ⟨some 12, .load true 1 (.tmp 11), none⟩,
   ⟨some 13, .len (.tmp 12), none⟩,
   ⟨some 14, .mv (.con (.int .i64 0)), none⟩] [])
 (.block 0 (.loop (.seq (.region [⟨some 15, .bin .lss (.tmp 14) (.tmp 13), none⟩] [])
   (.seq (.cond (.tmp 15)
     .skip
     (.exit 0))
   (.seq (.block 1 (.seq (.region [⟨some 16, .isl 1 (.tmp 12) (.tmp 14), none⟩,
       ⟨some 17, .load false 1 (.tmp 16), none⟩,
       ⟨some 6, .alloc [(.imm true 0 [])], none⟩,
       ⟨none, .store 1 (.tmp 6) (.tmp 17), none⟩] [])
     (.seq (.region [⟨some 18, .faddr (.tmp 6) 0, none⟩,
       ⟨some 19, .load true 1 (.tmp 18), none⟩,
       ⟨some 20, .len (.tmp 19), none⟩,
       ⟨some 21, .mv (.con (.int .i64 0)), none⟩] [])
     (.block 2 (.loop (.seq (.region [⟨some 22, .bin .lss (.tmp 21) (.tmp 20), none⟩] [])
       (.seq (.cond (.tmp 22)
         .skip
         (.exit 2))
       (.seq (.block 3 (.seq (.region [⟨some 23, .isl 1 (.tmp 19) (.tmp 21), none⟩,
           ⟨some 24, .load true 1 (.tmp 23), none⟩,
           ⟨some 8, .mv (.tmp 24), none⟩] [])
         (.seq (.region [⟨some 25, .mv (.tmp 8), none⟩,
           ⟨some 26, .len (.tmp 25), none⟩,
           ⟨some 27, .mv (.con (.int .i64 0)), none⟩] [])
         (.block 4 (.loop (.seq (.region [⟨some 28, .bin .lss (.tmp 27) (.tmp 26), none⟩] [])
           (.seq (.cond (.tmp 28)
             .skip
             (.exit 4))
           (.seq (.block 5 (.seq (.region [⟨some 29, .isl 19 (.tmp 25) (.tmp 27), none⟩,
               ⟨some 30, .load false 19 (.tmp 29), none⟩,
               ⟨some 10, .alloc [(.int .i64 0), (.int .u32 0), (.int .u8 0), (.int .u8 0), (.int .u8 0), (.int .u8 0), (.int .u8 0), (.int .u8 0), (.int .u8 0), (.int .u8 0), (.int .u8 0), (.int .u8 0), (.int .u8 0), (.int .u8 0), (.int .u8 0), (.int .u8 0), (.int .u8 0), (.int .u8 0), (.int .i64 0)], none⟩,
               ⟨none, .store 19 (.tmp 10) (.tmp 30), none⟩] [])
             (.seq (.region [⟨some 31, .mv (.tmp 1), none⟩,
               ⟨some 32, .load false 19 (.tmp 10), none⟩,
               ⟨some 33, .callv (.tmp 31) [(.tmp 32)], none⟩,
               ⟨some 34, .un .not (.tmp 33), none⟩] [])
             (.cond (.tmp 34)
              (.seq (.region [⟨some 4, .mv (.con (.bool false)), none⟩] [])
              .ret)
              .skip))))
           (.region [⟨some 35, .bin .add (.tmp 27) (.con (.int .i64 1)), none⟩,
            ⟨some 27, .mv (.tmp 35), none⟩] [])))))))))
       (.region [⟨some 36, .bin .add (.tmp 21) (.con (.int .i64 1)), none⟩,
        ⟨some 21, .mv (.tmp 36), none⟩] [])))))))))
   (.region [⟨some 37, .bin .add (.tmp 14) (.con (.int .i64 1)), none⟩,
    ⟨some 14, .mv (.tmp 37), none⟩] [])))))))
(.seq (.region [⟨some 4, .mv (.con (.bool true)), none⟩] [])
.ret))), [.tmp 4], false, none, false⟩
/-- cotterel/coh.Right$1 -/
def f28 : AFun := ⟨7, (.seq (.region [⟨some 2, .box (.tmp 0), none⟩,
  ⟨some 3, .mv (.con (.bool false)), none⟩] [])
(.seq (.region [⟨some 4, .load false 2 (.tmp 1), none⟩,
  ⟨some 5, .load false 19 (.tmp 2), none⟩,
  ⟨some 6, .call 29 [(.tmp 4), (.tmp 5)], none⟩,
  ⟨some 3, .mv (.tmp 6), none⟩] [])
.ret)), [.tmp 3], false, none, false⟩
/-- cotterel/coh.fits -/
def f29 : AFun := ⟨41, (.seq (.region [⟨some 2, .box (.tmp 0), none⟩,
  ⟨some 3, .box (.tmp 1), none⟩,
  ⟨some 4, .mv (.con (.bool false)), none⟩] [])
(.seq (.seq (.region [⟨some 6, .faddr (.tmp 3) 0, none⟩,
   ⟨some 7, .load true 1 (.tmp 6), none⟩,
   ⟨some 8, .bin .eql (.tmp 7) (.con (.int .i64 0)), none⟩] [])
 (.cond (.tmp 8)
  (.seq (.region [⟨some 4, .mv (.con (.bool true)), none⟩] [])
  .ret)
  .skip))
(.seq (.seq (.region [⟨some 9, .faddr (.tmp 2) 0, none⟩,
   ⟨some 10, .load true 1 (.tmp 9), none⟩,
   ⟨some 11, .faddr (.tmp 3) 1, none⟩,
   ⟨some 12, .load true 1 (.tmp 11), none⟩,
   ⟨some 13, .call 31 [(.tmp 10), (.tmp 12)], none⟩,
   ⟨some 14, .un .not (.tmp 13), none⟩,
   ⟨some 15, .mv (.tmp 14), none⟩,
   ⟨some 16, .load false 2 (.tmp 2), some (15, false)⟩,
   ⟨some 17, .faddr (.tmp 3) 1, some (15, false)⟩,
   ⟨some 18, .load true 1 (.tmp 17), some (15, false)⟩,
   ⟨some 19, .call 50 [(.tmp 16), (.tmp 18)], some (15, false)⟩,
   ⟨some 20, .call 49 [(.tmp 19)], some (15, false)⟩,
   ⟨some 21, .un .not (.tmp 20), some (15, false)⟩,
   ⟨some 22, .pick (.tmp 15) (.con (.bool true)) (.tmp 21), none⟩] [])
 (.cond (.tmp 22)
  (.seq (.region [⟨some 4, .mv (.con (.bool false)), none⟩] [])
  .ret)
  .skip))
(.seq (.region [⟨some 23, .faddr (.tmp 3) 1, none⟩,
  ⟨some 24, .load true 1 (.tmp 23), none⟩,
  ⟨some 25, .conv .i64 (.tmp 24), none⟩,
  ⟨some 26, .bin .mul (.tmp 25) (.con (.int .i64 16)), none⟩,
  ⟨some 5, .mv (.tmp 26), none⟩] [])
(.seq (.region [⟨some 27, .faddr (.tmp 3) 0, none⟩,
  ⟨some 28, .load true 1 (.tmp 27), none⟩,
  ⟨some 29, .bin .eql (.tmp 28) (.con (.int .i64 3)), none⟩,
  ⟨some 30, .mv (.tmp 29), none⟩,
  ⟨some 31, .faddr (.tmp 3) 2, some (30, false)⟩,
  ⟨some 32, .slArr 16 1 (.tmp 31) none none none, some (30, false)⟩,
  ⟨some 33, .faddr (.tmp 2) 0, some (30, false)⟩,
  ⟨some 34, .load true 1 (.tmp 33), some (30, false)⟩,
  ⟨some 35, .mv (.tmp 5), some (30, false)⟩,
  ⟨some 36, .mv (.tmp 5), some (30, false)⟩,
  ⟨some 37, .bin .add (.tmp 36) (.con (.int .i64 16)), some (30, false)⟩,
  ⟨some 38, .slSl 1 (.tmp 34) (some (.tmp 35)) (some (.tmp 37)) none, some (30, false)⟩,
  ⟨some 39, .call 41 [(.tmp 32), (.tmp 38)], some (30, false)⟩,
  ⟨some 40, .pick (.tmp 30) (.con (.bool true)) (.tmp 39), none⟩,
  ⟨some 4, .mv (.tmp 40), none⟩] [])
.ret))))), [.tmp 4], true, none, false⟩
/-- cotterel/coh.View$1 -/
def f30 : AFun := ⟨22, (.seq (.region [⟨some 2, .box (.tmp 0), none⟩,
  ⟨some 3, .mv (.con (.bool false)), none⟩] [])
(.seq (.seq (.region [⟨some 4, .faddr (.tmp 2) 0, none⟩,
   ⟨some 5, .load true 1 (.tmp 4), none⟩,
   ⟨some 6, .bin .eql (.tmp 5) (.con (.int .i64 3)), none⟩,
   ⟨some 7, .mv (.tmp 6), none⟩,
   ⟨some 8, .load true 1 (.tmp 1), some (7, true)⟩,
   ⟨some 9, .faddr (.tmp 2) 1, some (7, true)⟩,
   ⟨some 10, .load true 1 (.tmp 9), some (7, true)⟩,
   ⟨some 11, .call 31 [(.tmp 8), (.tmp 10)], some (7, true)⟩,
   ⟨some 12, .pick (.tmp 7) (.tmp 11) (.con (.bool false)), none⟩] [])
 (.cond (.tmp 12)
  (.region [⟨some 13, .load true 1 (.tmp 1), none⟩,
   ⟨some 14, .faddr (.tmp 2) 1, none⟩,
   ⟨some 15, .load true 1 (.tmp 14), none⟩,
   ⟨some 16, .conv .i64 (.tmp 15), none⟩,
   ⟨some 17, .bin .mul (.tmp 16) (.con (.int .i64 16)), none⟩,
   ⟨some 18, .slSl 1 (.tmp 13) (some (.tmp 17)) none none, none⟩,
   ⟨some 19, .faddr (.tmp 2) 2, none⟩,
   ⟨some 20, .slArr 16 1 (.tmp 19) none none none, none⟩,
   ⟨some 21, .copy 1 (.tmp 18) (.tmp 20), none⟩] [])
  .skip))
(.seq (.region [⟨some 3, .mv (.con (.bool true)), none⟩] [])
.ret))), [.tmp 3], false, none, false⟩
/-- cotterel/coh.lies -/
def f31 : AFun := ⟨13, (.seq (.region [⟨some 4, .mv (.con (.bool false)), none⟩] [])
(.seq (.region [⟨some 5, .mv (.tmp 1), none⟩,
  ⟨some 6, .conv .u64 (.tmp 5), none⟩,
  ⟨some 7, .bin .mul (.tmp 6) (.con (.int .u64 16)), none⟩,
  ⟨some 8, .bin .add (.tmp 7) (.con (.int .u64 16)), none⟩,
  ⟨some 9, .mv (.tmp 0), none⟩,
  ⟨some 10, .len (.tmp 9), none⟩,
  ⟨some 11, .conv .u64 (.tmp 10), none⟩,
  ⟨some 12, .bin .leq (.tmp 8) (.tmp 11), none⟩,
  ⟨some 4, .mv (.tmp 12), none⟩] [])
.ret)), [.tmp 4], true, none, false⟩
/-- cotterel/cotterelref10.Check -/
def f32 : AFun := ⟨26, (.seq (.region [⟨some 6, .mv (.con (.int .i64 0)), none⟩] [])
(.seq (.seq (.region [⟨some 7, .mv (.tmp 2), none⟩,
   ⟨some 8, .bin .eql (.tmp 7) (.con (.int .i64 1)), none⟩,
   ⟨some 9, .mv (.tmp 8), none⟩,
   ⟨some 10, .mv (.tmp 2), some (9, false)⟩,
   ⟨some 11, .bin .eql (.tmp 10) (.con (.int .i64 2)), some (9, false)⟩,
   ⟨some 12, .pick (.tmp 9) (.con (.bool true)) (.tmp 11), none⟩,
   ⟨some 13, .mv (.tmp 12), none⟩,
   ⟨some 14, .mv (.tmp 2), some (13, false)⟩,
   ⟨some 15, .bin .eql (.tmp 14) (.con (.int .i64 4)), some (13, false)⟩,
   ⟨some 16, .pick (.tmp 13) (.con (.bool true)) (.tmp 15), none⟩,
   ⟨some 17, .mv (.tmp 16), none⟩,
   ⟨some 18, .mv (.tmp 1), some (17, true)⟩,
   ⟨some 19, .conv .i64 (.tmp 18), some (17, true)⟩,
   ⟨some 20, .mv (.tmp 2), some (17, true)⟩,
   ⟨some 21, .bin .add (.tmp 19) (.tmp 20), some (17, true)⟩,
   ⟨some 22, .mv (.tmp 0), some (17, true)⟩,
   ⟨some 23, .len (.tmp 22), some (17, true)⟩,
   ⟨some 24, .bin .leq (.tmp 21) (.tmp 23), some (17, true)⟩,
   ⟨some 25, .pick (.tmp 17) (.tmp 24) (.con (.bool false)), none⟩] [])
 (.cond (.tmp 25)
  (.seq (.region [⟨some 6, .mv (.con (.int .i64 0)), none⟩] [])
  .ret)
  .skip))
(.seq (.region [⟨some 6, .mv (.con (.int .i64 9)), none⟩] [])
.ret))), [.tmp 6], true, none, false⟩
/-- cotterel/coh.reached -/
def f33 : AFun := ⟨44, (.seq (.region [⟨some 4, .box (.tmp 0), none⟩,
  ⟨some 8, .mv (.con (.bool false)), none⟩] [])
(.seq (.seq (.region [⟨some 9, .mv (.tmp 1), none⟩,
   ⟨some 10, .bin .lss (.tmp 9) (.con (.int .i64 0)), none⟩,
   ⟨some 11, .mv (.tmp 10), none⟩,
   ⟨some 12, .mv (.tmp 1), some (11, false)⟩,
   ⟨some 13, .faddr (.tmp 4) 1, some (11, false)⟩,
   ⟨some 14, .load true 1 (.tmp 13), some (11, false)⟩,
   ⟨some 15, .len (.tmp 14), some (11, false)⟩,
   ⟨some 16, .bin .geq (.tmp 12) (.tmp 15), some (11, false)⟩,
   ⟨some 17, .pick (.tmp 11) (.con (.bool true)) (.tmp 16), none⟩,
   ⟨some 18, .mv (.tmp 17), none⟩,
   ⟨some 19, .mv (.tmp 3), some (18, false)⟩,
   ⟨some 20, .bin .neq (.tmp 19) (.con (.int .i64 1)), some (18, false)⟩,
   ⟨some 21, .mv (.tmp 20), some (18, false)⟩,
   ⟨some 22, .mv (.tmp 3), some (21, true)⟩,
   ⟨some 23, .bin .neq (.tmp 22) (.con (.int .i64 2)), some (21, true)⟩,
   ⟨some 24, .pick (.tmp 21) (.tmp 23) (.con (.bool false)), some (18, false)⟩,
   ⟨some 25, .mv (.tmp 24), some (18, false)⟩,
   ⟨some 26, .mv (.tmp 3), some (25, true)⟩,
   ⟨some 27, .bin .neq (.tmp 26) (.con (.int .i64 4)), some (25, true)⟩,
   ⟨some 28, .pick (.tmp 25) (.tmp 27) (.con (.bool false)), some (18, false)⟩,
   ⟨some 29, .pick (.tmp 18) (.con (.bool true)) (.tmp 28), none⟩] [])
 (.cond (.tmp 29)
  (.seq (.region [⟨some 8, .mv (.con (.bool false)), none⟩] [])
  .ret)
  .skip))
(.seq (.region [⟨some 30, .mv (.tmp 2), none⟩,
  ⟨some 31, .bin .rem (.tmp 30) (.con (.int .u32 16)), none⟩,
  ⟨some 32, .conv .i64 (.tmp 31), none⟩,
  ⟨some 33, .mv (.tmp 3), none⟩,
  ⟨some 34, .bin .add (.tmp 32) (.tmp 33), none⟩,
  ⟨some 35, .bin .leq (.tmp 34) (.con (.int .i64 16)), none⟩,
  ⟨some 36, .mv (.tmp 35), none⟩,
  ⟨some 37, .faddr (.tmp 4) 0, some (36, true)⟩,
  ⟨some 38, .load true 1 (.tmp 37), some (36, true)⟩,
  ⟨some 39, .mv (.tmp 2), some (36, true)⟩,
  ⟨some 40, .mv (.tmp 3), some (36, true)⟩,
  ⟨some 41, .call 51 [(.tmp 38), (.tmp 39), (.tmp 40)], some (36, true)⟩,
  ⟨some 42, .bin .eql (.tmp 41) (.con (.int .i64 0)), some (36, true)⟩,
  ⟨some 43, .pick (.tmp 36) (.tmp 42) (.con (.bool false)), none⟩,
  ⟨some 8, .mv (.tmp 43), none⟩] [])
.ret))), [.tmp 8], true, none, false⟩
/-- cotterel/mem.LineOf -/
def f34 : AFun := ⟨5, (.seq (.region [⟨some 2, .mv (.con (.int .u32 0)), none⟩] [])
(.seq (.region [⟨some 3, .mv (.tmp 0), none⟩,
  ⟨some 4, .bin .quo (.tmp 3) (.con (.int .u32 16)), none⟩,
  ⟨some 2, .mv (.tmp 4), none⟩] [])
.ret)), [.tmp 2], true, none, false⟩
/-- cotterel/coh.got -/
def f35 : AFun := ⟨24, (.seq (.region [⟨some 4, .box (.tmp 0), none⟩,
  ⟨some 8, .alloc [(.imm true 0 []), (.imm true 0 [])], none⟩,
  ⟨some 9, .mv (.con (.bool false)), none⟩] [])
(.seq (.region [⟨some 11, .load false 2 (.tmp 4), none⟩,
  ⟨some 12, .mv (.tmp 1), none⟩,
  ⟨some 13, .mv (.tmp 2), none⟩,
  ⟨some 14, .mv (.tmp 3), none⟩,
  ⟨some 15, .call 52 [(.tmp 11), (.tmp 12), (.tmp 13), (.tmp 14)], none⟩,
  ⟨some 10, .alloc [(.int .i64 0), (.int .u32 0)], none⟩,
  ⟨none, .store 2 (.tmp 10) (.tmp 15), none⟩] [])
(.seq (.seq (.region [⟨some 16, .faddr (.tmp 10) 0, none⟩,
   ⟨some 17, .load true 1 (.tmp 16), none⟩,
   ⟨some 18, .bin .eql (.tmp 17) (.con (.int .i64 0)), none⟩] [])
 (.cond (.tmp 18)
  (.seq (.region [⟨some 19, .load false 2 (.tmp 4), none⟩,
    ⟨none, .store 2 (.tmp 8) (.tmp 19), none⟩,
    ⟨some 9, .mv (.con (.bool true)), none⟩] [])
  .ret)
  .skip))
(.seq (.region [⟨some 20, .load false 2 (.tmp 4), none⟩,
  ⟨some 21, .mv (.tmp 1), none⟩,
  ⟨some 22, .load false 2 (.tmp 10), none⟩,
  ⟨some 23, .call 53 [(.tmp 20), (.tmp 21), (.tmp 22)], none⟩,
  ⟨none, .store 2 (.tmp 8) (.tmp 23), none⟩,
  ⟨some 9, .mv (.con (.bool false)), none⟩] [])
.ret)))), [.cell 8 false 2, .tmp 9], true, none, false⟩
/-- cotterel/cache.Write -/
def f36 : AFun := ⟨75, (.seq (.region [⟨some 4, .box (.tmp 0), none⟩,
  ⟨some 8, .alloc [(.imm true 0 [])], none⟩,
  ⟨some 9, .mv (.con (.bool false)), none⟩] [])
(.seq (.region [⟨some 17, .load false 1 (.tmp 4), none⟩,
  ⟨some 18, .mv (.tmp 1), none⟩,
  ⟨some 19, .mv (.tmp 2), none⟩,
  ⟨some 20, .call 54 [(.tmp 17), (.tmp 18), (.tmp 19)], none⟩,
  ⟨some 16, .mv (.tmp 20), none⟩,
  ⟨some 21, .extract (.tmp 16) 0, none⟩,
  ⟨some 22, .extract (.tmp 16) 1, none⟩,
  ⟨some 23, .extract (.tmp 16) 2, none⟩,
  ⟨some 24, .extract (.tmp 16) 3, none⟩,
  ⟨some 10, .mv (.tmp 21), none⟩,
  ⟨some 11, .mv (.tmp 22), none⟩,
  ⟨some 12, .mv (.tmp 23), none⟩,
  ⟨some 13, .mv (.tmp 24), none⟩] [])
(.seq (.seq (.region [⟨some 25, .mv (.tmp 13), none⟩,
   ⟨some 26, .un .not (.tmp 25), none⟩,
   ⟨some 27, .mv (.tmp 26), none⟩,
   ⟨some 28, .faddr (.tmp 4) 0, some (27, false)⟩,
   ⟨some 29, .load true 1 (.tmp 28), some (27, false)⟩,
   ⟨some 30, .mv (.tmp 10), some (27, false)⟩,
   ⟨some 31, .isl 1 (.tmp 29) (.tmp 30), some (27, false)⟩,
   ⟨some 32, .load true 1 (.tmp 31), some (27, false)⟩,
   ⟨some 33, .mv (.tmp 11), some (27, false)⟩,
   ⟨some 34, .isl 19 (.tmp 32) (.tmp 33), some (27, false)⟩,
   ⟨some 35, .faddr (.tmp 34) 0, some (27, false)⟩,
   ⟨some 36, .load true 1 (.tmp 35), some (27, false)⟩,
   ⟨some 37, .bin .neq (.tmp 36) (.con (.int .i64 2)), some (27, false)⟩,
   ⟨some 38, .mv (.tmp 37), some (27, false)⟩,
   ⟨some 39, .faddr (.tmp 4) 0, some (38, true)⟩,
   ⟨some 40, .load true 1 (.tmp 39), some (38, true)⟩,
   ⟨some 41, .mv (.tmp 10), some (38, true)⟩,
   ⟨some 42, .isl 1 (.tmp 40) (.tmp 41), some (38, true)⟩,
   ⟨some 43, .load true 1 (.tmp 42), some (38, true)⟩,
   ⟨some 44, .mv (.tmp 11), some (38, true)⟩,
   ⟨some 45, .isl 19 (.tmp 43) (.tmp 44), some (38, true)⟩,
   ⟨some 46, .faddr (.tmp 45) 0, some (38, true)⟩,
   ⟨some 47, .load true 1 (.tmp 46), some (38, true)⟩,
   ⟨some 48, .bin .neq (.tmp 47) (.con (.int .i64 3)), some (38, true)⟩,
   ⟨some 49, .pick (.tmp 38) (.tmp 48) (.con (.bool false)), some (27, false)⟩,
   ⟨some 50, .pick (.tmp 27) (.con (.bool true)) (.tmp 49), none⟩] [])
 (.cond (.tmp 50)
  (.seq (.region [⟨some 51, .build [(.imm true 0 [])] [], none⟩,
    ⟨none, .store 1 (.tmp 8) (.tmp 51), none⟩,
    ⟨some 9, .mv (.con (.bool false)), none⟩] [])
  .ret)
  .skip))
(.seq (.region [⟨some 52, .load false 1 (.tmp 4), none⟩,
  ⟨some 53, .mv (.tmp 10), none⟩,
  ⟨some 54, .call 55 [(.tmp 52), (.tmp 53)], none⟩,
  ⟨some 14, .alloc [(.imm true 0 [])], none⟩,
  ⟨none, .store 1 (.tmp 14) (.tmp 54), none⟩] [])
(.seq (.region [⟨some 55, .faddr (.tmp 14) 0, none⟩,
  ⟨some 56, .load true 1 (.tmp 55), none⟩,
  ⟨some 57, .mv (.tmp 10), none⟩,
  ⟨some 58, .isl 1 (.tmp 56) (.tmp 57), none⟩,
  ⟨some 59, .load true 1 (.tmp 58), none⟩,
  ⟨some 60, .mv (.tmp 11), none⟩,
  ⟨some 61, .isl 19 (.tmp 59) (.tmp 60), none⟩,
  ⟨some 15, .mv (.tmp 61), none⟩] [])
(.seq (.region [⟨some 62, .mv (.tmp 15), none⟩,
  ⟨some 63, .nilchk (.tmp 62), none⟩,
  ⟨some 64, .faddr (.tmp 63) 2, none⟩,
  ⟨some 65, .mv (.tmp 12), none⟩,
  ⟨some 66, .slArr 16 1 (.tmp 64) (some (.tmp 65)) none none, none⟩,
  ⟨some 67, .mv (.tmp 3), none⟩,
  ⟨some 68, .mv (.tmp 2), none⟩,
  ⟨some 69, .call 56 [(.tmp 67), (.tmp 68)], none⟩,
  ⟨some 70, .copy 1 (.tmp 66) (.tmp 69), none⟩] [(4, 7)])
(.seq (.region [⟨some 71, .mv (.tmp 15), none⟩,
  ⟨some 72, .nilchk (.tmp 71), none⟩,
  ⟨some 73, .faddr (.tmp 72) 0, none⟩,
  ⟨none, .store 1 (.tmp 73) (.con (.int .i64 3)), none⟩] [])
(.seq (.region [⟨some 74, .load false 1 (.tmp 14), none⟩,
  ⟨none, .store 1 (.tmp 8) (.tmp 74), none⟩,
  ⟨some 9, .mv (.con (.bool true)), none⟩] [])
.ret)))))))), [.cell 8 false 1, .tmp 9], true, none, false⟩
/-- cotterel/coh.with -/
def f37 : AFun := ⟨17, (.seq (.region [⟨some 3, .box (.tmp 0), none⟩,
  ⟨some 5, .box (.tmp 2), none⟩,
  ⟨some 6, .alloc [(.imm true 0 []), (.imm true 0 [])], none⟩] [])
(.seq (.region [⟨some 7, .faddr (.tmp 3) 1, none⟩,
  ⟨some 8, .load true 1 (.tmp 7), none⟩,
  ⟨some 9, .call 57 [(.tmp 8)], none⟩,
  ⟨some 10, .faddr (.tmp 3) 1, none⟩,
  ⟨none, .store 1 (.tmp 10) (.tmp 9), none⟩] [])
(.seq (.region [⟨some 11, .faddr (.tmp 3) 1, none⟩,
  ⟨some 12, .load true 1 (.tmp 11), none⟩,
  ⟨some 13, .mv (.tmp 1), none⟩,
  ⟨some 14, .load false 1 (.tmp 5), none⟩,
  ⟨some 15, .isl 1 (.tmp 12) (.tmp 13), none⟩,
  ⟨none, .store 1 (.tmp 15) (.tmp 14), none⟩] [])
(.seq (.region [⟨some 16, .load false 2 (.tmp 3), none⟩,
  ⟨none, .store 2 (.tmp 6) (.tmp 16), none⟩] [])
.ret)))), [.cell 6 false 2], true, none, false⟩
/-- cotterel/coh.touched -/
def f38 : AFun := ⟨33, (.seq (.region [⟨some 3, .box (.tmp 0), none⟩,
  ⟨some 6, .alloc [(.imm true 0 []), (.imm true 0 [])], none⟩] [])
(.seq (.region [⟨some 11, .faddr (.tmp 3) 1, none⟩,
  ⟨some 12, .load true 1 (.tmp 11), none⟩,
  ⟨some 13, .mv (.tmp 1), none⟩,
  ⟨some 14, .isl 1 (.tmp 12) (.tmp 13), none⟩,
  ⟨some 15, .load false 1 (.tmp 14), none⟩,
  ⟨some 7, .alloc [(.imm true 0 [])], none⟩,
  ⟨none, .store 1 (.tmp 7) (.tmp 15), none⟩] [])
(.seq (.region [⟨some 17, .load false 1 (.tmp 7), none⟩,
  ⟨some 18, .mv (.tmp 2), none⟩,
  ⟨some 19, .call 58 [(.tmp 17), (.tmp 18)], none⟩,
  ⟨some 16, .mv (.tmp 19), none⟩,
  ⟨some 20, .extract (.tmp 16) 0, none⟩,
  ⟨some 21, .extract (.tmp 16) 1, none⟩,
  ⟨some 22, .extract (.tmp 16) 2, none⟩,
  ⟨some 8, .mv (.tmp 20), none⟩,
  ⟨some 9, .mv (.tmp 21), none⟩,
  ⟨some 10, .mv (.tmp 22), none⟩] [])
(.seq (.seq (.region [⟨some 23, .mv (.tmp 10), none⟩,
   ⟨some 24, .un .not (.tmp 23), none⟩] [])
 (.cond (.tmp 24)
  (.seq (.region [⟨some 25, .load false 2 (.tmp 3), none⟩,
    ⟨none, .store 2 (.tmp 6) (.tmp 25), none⟩] [])
  .ret)
  .skip))
(.seq (.region [⟨some 26, .load false 2 (.tmp 3), none⟩,
  ⟨some 27, .mv (.tmp 1), none⟩,
  ⟨some 28, .load false 1 (.tmp 7), none⟩,
  ⟨some 29, .mv (.tmp 8), none⟩,
  ⟨some 30, .mv (.tmp 9), none⟩,
  ⟨some 31, .call 59 [(.tmp 28), (.tmp 29), (.tmp 30)], none⟩,
  ⟨some 32, .call 37 [(.tmp 26), (.tmp 27), (.tmp 31)], none⟩,
  ⟨none, .store 2 (.tmp 6) (.tmp 32), none⟩] [(0, 5)])
.ret))))), [.cell 6 false 2], true, none, false⟩
/-- cotterel/cache.Read -/
def f39 : AFun := ⟨37, (.seq (.region [⟨some 3, .box (.tmp 0), none⟩,
  ⟨some 6, .mv (.con (.int .u32 0)), none⟩,
  ⟨some 7, .mv (.con (.bool false)), none⟩] [])
(.seq (.region [⟨some 13, .load false 1 (.tmp 3), none⟩,
  ⟨some 14, .mv (.tmp 1), none⟩,
  ⟨some 15, .mv (.tmp 2), none⟩,
  ⟨some 16, .call 54 [(.tmp 13), (.tmp 14), (.tmp 15)], none⟩,
  ⟨some 12, .mv (.tmp 16), none⟩,
  ⟨some 17, .extract (.tmp 12) 0, none⟩,
  ⟨some 18, .extract (.tmp 12) 1, none⟩,
  ⟨some 19, .extract (.tmp 12) 2, none⟩,
  ⟨some 20, .extract (.tmp 12) 3, none⟩,
  ⟨some 8, .mv (.tmp 17), none⟩,
  ⟨some 9, .mv (.tmp 18), none⟩,
  ⟨some 10, .mv (.tmp 19), none⟩,
  ⟨some 11, .mv (.tmp 20), none⟩] [])
(.seq (.seq (.region [⟨some 21, .mv (.tmp 11), none⟩,
   ⟨some 22, .un .not (.tmp 21), none⟩] [])
 (.cond (.tmp 22)
  (.seq (.region [⟨some 6, .mv (.con (.int .u32 0)), none⟩,
    ⟨some 7, .mv (.con (.bool false)), none⟩] [])
  .ret)
  .skip))
(.seq (.region [⟨some 23, .faddr (.tmp 3) 0, none⟩,
  ⟨some 24, .load true 1 (.tmp 23), none⟩,
  ⟨some 25, .mv (.tmp 8), none⟩,
  ⟨some 26, .isl 1 (.tmp 24) (.tmp 25), none⟩,
  ⟨some 27, .load true 1 (.tmp 26), none⟩,
  ⟨some 28, .mv (.tmp 9), none⟩,
  ⟨some 29, .isl 19 (.tmp 27) (.tmp 28), none⟩,
  ⟨some 30, .faddr (.tmp 29) 2, none⟩,
  ⟨some 31, .mv (.tmp 10), none⟩,
  ⟨some 32, .mv (.tmp 10), none⟩,
  ⟨some 33, .mv (.tmp 2), none⟩,
  ⟨some 34, .bin .add (.tmp 32) (.tmp 33), none⟩,
  ⟨some 35, .slArr 16 1 (.tmp 30) (some (.tmp 31)) (some (.tmp 34)) none, none⟩,
  ⟨some 36, .call 60 [(.tmp 35)], none⟩,
  ⟨some 6, .mv (.tmp 36), none⟩,
  ⟨some 7, .mv (.con (.bool true)), none⟩] [])
.ret)))), [.tmp 6, .tmp 7], true, none, false⟩
/-- cotterel/cotterelref40.State -/
def f40 : AFun := ⟨19, (.seq (.region [⟨some 3, .box (.tmp 0), none⟩,
  ⟨some 6, .mv (.con (.int .i64 0)), none⟩] [])
(.seq (.seq (.region [⟨some 7, .load false 2 (.tmp 3), none⟩,
   ⟨some 8, .mv (.tmp 1), none⟩,
   ⟨some 9, .call 61 [(.tmp 7), (.tmp 8)], none⟩,
   ⟨some 10, .un .not (.tmp 9), none⟩] [])
 (.cond (.tmp 10)
  (.seq (.region [⟨some 6, .mv (.con (.int .i64 0)), none⟩] [])
  .ret)
  .skip))
(.seq (.region [⟨some 11, .faddr (.tmp 3) 1, none⟩,
  ⟨some 12, .load true 1 (.tmp 11), none⟩,
  ⟨some 13, .mv (.tmp 1), none⟩,
  ⟨some 14, .isl 1 (.tmp 12) (.tmp 13), none⟩,
  ⟨some 15, .load false 1 (.tmp 14), none⟩,
  ⟨some 16, .mv (.tmp 2), none⟩,
  ⟨some 17, .call 62 [(.tmp 15), (.tmp 16)], none⟩,
  ⟨some 18, .field true 0 1 (.tmp 17), none⟩,
  ⟨some 6, .mv (.tmp 18), none⟩] [])
.ret))), [.tmp 6], true, none, false⟩
/-- slices.Equal[[]byte,byte] -/
def f41 : AFun := ⟨26, (.seq (.region [⟨some 4, .mv (.con (.bool false)), none⟩] [])
(.seq (.seq (.region [⟨some 6, .mv (.tmp 0), none⟩,
   ⟨some 7, .len (.tmp 6), none⟩,
   ⟨some 8, .mv (.tmp 1), none⟩,
   ⟨some 9, .len (.tmp 8), none⟩,
   ⟨some 10, .bin .neq (.tmp 7) (.tmp 9), none⟩] [])
 (.cond (.tmp 10)
  (.seq (.region [⟨some 4, .mv (.con (.bool false)), none⟩] [])
  .ret)
  .skip))
(.seq (.seq (.region [⟨some 11, .mv (.tmp 0), none⟩,
   ⟨some 12, .len (.tmp 11), none⟩,
   ⟨some 13, .mv (.con (.int .i64 0)), none⟩] [])
 (.block 0 (.loop (.seq (.region [⟨some 14, .bin .lss (.tmp 13) (.tmp 12), none⟩] [])
   (.seq (.cond (.tmp 14)
     .skip
     (.exit 0))
   (.seq (.block 1 (.seq (.region [⟨some 15, .mv (.tmp 13), none⟩,
       ⟨some 5, .mv (.tmp 15), none⟩] [])
     (.seq (.region [⟨some 16, .mv (.tmp 0), none⟩,
       ⟨some 17, .mv (.tmp 5), none⟩,
       ⟨some 18, .isl 1 (.tmp 16) (.tmp 17), none⟩,
       ⟨some 19, .load true 1 (.tmp 18), none⟩,
       ⟨some 20, .mv (.tmp 1), none⟩,
       ⟨some 21, .mv (.tmp 5), none⟩,
       ⟨some 22, .isl 1 (.tmp 20) (.tmp 21), none⟩,
       ⟨some 23, .load true 1 (.tmp 22), none⟩,
       ⟨some 24, .bin .neq (.tmp 19) (.tmp 23), none⟩] [])
     (.cond (.tmp 24)
      (.seq (.region [⟨some 4, .mv (.con (.bool false)), none⟩] [])
      .ret)
      .skip))))
   (.region [⟨some 25, .bin .add (.tmp 13) (.con (.int .i64 1)), none⟩,
    ⟨some 13, .mv (.tmp 25), none⟩] [])))))))
(.seq (.region [⟨some 4, .mv (.con (.bool true)), none⟩] [])
.ret)))), [.tmp 4], true, none, false⟩
/-- slices.EqualFunc[[]cotterel/api.Cache,[]cotterel/api.Cache,cotterel/api.Cache,cotterel/api.Cache] -/
def f42 : AFun := ⟨32, (.seq (.region [⟨some 6, .mv (.con (.bool false)), none⟩] [])
(.seq (.seq (.region [⟨some 10, .mv (.tmp 0), none⟩,
   ⟨some 11, .len (.tmp 10), none⟩,
   ⟨some 12, .mv (.tmp 1), none⟩,
   ⟨some 13, .len (.tmp 12), none⟩,
   ⟨some 14, .bin .neq (.tmp 11) (.tmp 13), none⟩] [])
 (.cond (.tmp 14)
  (.seq (.region [⟨some 6, .mv (.con (.bool false)), none⟩] [])
  .ret)
  .skip))
(.seq (.seq (.region [⟨some 15, .mv (.tmp 0), none⟩,
   ⟨some 16, .len (.tmp 15), none⟩,
   ⟨some 17, .mv (.con (.int .i64 0)), none⟩] [])
 (.block 0 (.loop (.seq (.region [⟨some 18, .bin .lss (.tmp 17) (.tmp 16), none⟩] [])
   (.seq (.cond (.tmp 18)
     .skip
     (.exit 0))
   (.seq (.block 1 (.seq (.region [⟨some 19, .mv (.tmp 17), none⟩,
       ⟨some 20, .isl 1 (.tmp 15) (.tmp 17), none⟩,
       ⟨some 21, .load false 1 (.tmp 20), none⟩,
       ⟨some 8, .alloc [(.imm true 0 [])], none⟩,
       ⟨some 7, .mv (.tmp 19), none⟩,
       ⟨none, .store 1 (.tmp 8) (.tmp 21), none⟩] [])
     (.seq (.region [⟨some 22, .mv (.tmp 1), none⟩,
       ⟨some 23, .mv (.tmp 7), none⟩,
       ⟨some 24, .isl 1 (.tmp 22) (.tmp 23), none⟩,
       ⟨some 25, .load false 1 (.tmp 24), none⟩,
       ⟨some 9, .alloc [(.imm true 0 [])], none⟩,
       ⟨none, .store 1 (.tmp 9) (.tmp 25), none⟩] [])
     (.seq (.region [⟨some 26, .mv (.tmp 2), none⟩,
       ⟨some 27, .load false 1 (.tmp 8), none⟩,
       ⟨some 28, .load false 1 (.tmp 9), none⟩,
       ⟨some 29, .callv (.tmp 26) [(.tmp 27), (.tmp 28)], none⟩,
       ⟨some 30, .un .not (.tmp 29), none⟩] [])
     (.cond (.tmp 30)
      (.seq (.region [⟨some 6, .mv (.con (.bool false)), none⟩] [])
      .ret)
      .skip)))))
   (.region [⟨some 31, .bin .add (.tmp 17) (.con (.int .i64 1)), none⟩,
    ⟨some 17, .mv (.tmp 31), none⟩] [])))))))
(.seq (.region [⟨some 6, .mv (.con (.bool true)), none⟩] [])
.ret)))), [.tmp 6], true, none, false⟩
/-- cotterel/coh.Same$1 -/
def f43 : AFun := ⟨10, (.seq (.region [⟨some 2, .box (.tmp 0), none⟩,
  ⟨some 3, .box (.tmp 1), none⟩,
  ⟨some 4, .mv (.con (.bool false)), none⟩] [])
(.seq (.region [⟨some 5, .faddr (.tmp 2) 0, none⟩,
  ⟨some 6, .load true 1 (.tmp 5), none⟩,
  ⟨some 7, .faddr (.tmp 3) 0, none⟩,
  ⟨some 8, .load true 1 (.tmp 7), none⟩,
  ⟨some 9, .call 44 [(.tmp 6), (.tmp 8), (.con (.fn 45 [] []))], none⟩,
  ⟨some 4, .mv (.tmp 9), none⟩] [])
.ret)), [.tmp 4], false, none, false⟩
/-- slices.EqualFunc[[][]cotterel/api.Way,[][]cotterel/api.Way,[]cotterel/api.Way,[]cotterel/api.Way] -/
def f44 : AFun := ⟨32, (.seq (.region [⟨some 6, .mv (.con (.bool false)), none⟩] [])
(.seq (.seq (.region [⟨some 10, .mv (.tmp 0), none⟩,
   ⟨some 11, .len (.tmp 10), none⟩,
   ⟨some 12, .mv (.tmp 1), none⟩,
   ⟨some 13, .len (.tmp 12), none⟩,
   ⟨some 14, .bin .neq (.tmp 11) (.tmp 13), none⟩] [])
 (.cond (.tmp 14)
  (.seq (.region [⟨some 6, .mv (.con (.bool false)), none⟩] [])
  .ret)
  .skip))
(.seq (.seq (.region [⟨some 15, .mv (.tmp 0), none⟩,
   ⟨some 16, .len (.tmp 15), none⟩,
   ⟨some 17, .mv (.con (.int .i64 0)), none⟩] [])
 (.block 0 (.loop (.seq (.region [⟨some 18, .bin .lss (.tmp 17) (.tmp 16), none⟩] [])
   (.seq (.cond (.tmp 18)
     .skip
     (.exit 0))
   (.seq (.block 1 (.seq (.region [⟨some 19, .mv (.tmp 17), none⟩,
       ⟨some 20, .isl 1 (.tmp 15) (.tmp 17), none⟩,
       ⟨some 21, .load true 1 (.tmp 20), none⟩,
       ⟨some 7, .mv (.tmp 19), none⟩,
       ⟨some 8, .mv (.tmp 21), none⟩] [])
     (.seq (.region [⟨some 22, .mv (.tmp 1), none⟩,
       ⟨some 23, .mv (.tmp 7), none⟩,
       ⟨some 24, .isl 1 (.tmp 22) (.tmp 23), none⟩,
       ⟨some 25, .load true 1 (.tmp 24), none⟩,
       ⟨some 9, .mv (.tmp 25), none⟩] [])
     (.seq (.region [⟨some 26, .mv (.tmp 2), none⟩,
       ⟨some 27, .mv (.tmp 8), none⟩,
       ⟨some 28, .mv (.tmp 9), none⟩,
       ⟨some 29, .callv (.tmp 26) [(.tmp 27), (.tmp 28)], none⟩,
       ⟨some 30, .un .not (.tmp 29), none⟩] [])
     (.cond (.tmp 30)
      (.seq (.region [⟨some 6, .mv (.con (.bool false)), none⟩] [])
      .ret)
      .skip)))))
   (.region [⟨some 31, .bin .add (.tmp 17) (.con (.int .i64 1)), none⟩,
    ⟨some 17, .mv (.tmp 31), none⟩] [])))))))
(.seq (.region [⟨some 6, .mv (.con (.bool true)), none⟩] [])
.ret)))), [.tmp 6], true, none, false⟩
/-- cotterel/coh.Same$1$1 -/
def f45 : AFun := ⟨8, (.seq (.region [⟨some 4, .mv (.con (.bool false)), none⟩] [])
(.seq (.region [⟨some 5, .mv (.tmp 0), none⟩,
  ⟨some 6, .mv (.tmp 1), none⟩,
  ⟨some 7, .call 46 [(.tmp 5), (.tmp 6)], none⟩,
  ⟨some 4, .mv (.tmp 7), none⟩] [])
.ret)), [.tmp 4], false, none, false⟩
/-- slices.Equal[[]cotterel/api.Way,cotterel/api.Way] -/
def f46 : AFun := ⟨26, (.seq (.region [⟨some 4, .mv (.con (.bool false)), none⟩] [])
(.seq (.seq (.region [⟨some 6, .mv (.tmp 0), none⟩,
   ⟨some 7, .len (.tmp 6), none⟩,
   ⟨some 8, .mv (.tmp 1), none⟩,
   ⟨some 9, .len (.tmp 8), none⟩,
   ⟨some 10, .bin .neq (.tmp 7) (.tmp 9), none⟩] [])
 (.cond (.tmp 10)
  (.seq (.region [⟨some 4, .mv (.con (.bool false)), none⟩] [])
  .ret)
  .skip))
(.seq (.seq (.region [⟨some 11, .mv (.tmp 0), none⟩,
   ⟨some 12, .len (.tmp 11), none⟩,
   ⟨some 13, .mv (.con (.int .i64 0)), none⟩] [])
 (.block 0 (.loop (.seq (.region [⟨some 14, .bin .lss (.tmp 13) (.tmp 12), none⟩] [])
   (.seq (.cond (.tmp 14)
     .skip
     (.exit 0))
   (.seq (.block 1 (.seq (.region [⟨some 15, .mv (.tmp 13), none⟩,
       ⟨some 5, .mv (.tmp 15), none⟩] [])
     (.seq (.region [⟨some 16, .mv (.tmp 0), none⟩,
       ⟨some 17, .mv (.tmp 5), none⟩,
       ⟨some 18, .isl 19 (.tmp 16) (.tmp 17), none⟩,
       ⟨some 19, .load false 19 (.tmp 18), none⟩,
       ⟨some 20, .mv (.tmp 1), none⟩,
       ⟨some 21, .mv (.tmp 5), none⟩,
       ⟨some 22, .isl 19 (.tmp 20) (.tmp 21), none⟩,
       ⟨some 23, .load false 19 (.tmp 22), none⟩,
       ⟨some 24, .aeq true [some .i64, some .u32, some .u8, some .u8, some .u8, some .u8, some .u8, some .u8, some .u8, some .u8, some .u8, some .u8, some .u8, some .u8, some .u8, some .u8, some .u8, some .u8, some .i64] (.tmp 19) (.tmp 23), none⟩] [])
     (.cond (.tmp 24)
      (.seq (.region [⟨some 4, .mv (.con (.bool false)), none⟩] [])
      .ret)
      .skip))))
   (.region [⟨some 25, .bin .add (.tmp 13) (.con (.int .i64 1)), none⟩,
    ⟨some 13, .mv (.tmp 25), none⟩] [])))))))
(.seq (.region [⟨some 4, .mv (.con (.bool true)), none⟩] [])
.ret)))), [.tmp 4], true, none, false⟩
/-- cotterel/cache.clamp -/
def f47 : AFun := ⟨12, (.seq (.region [⟨some 6, .mv (.con (.int .i64 0)), none⟩] [])
(.seq (.region [⟨some 7, .mv (.tmp 0), none⟩,
  ⟨some 8, .mv (.tmp 1), none⟩,
  ⟨some 9, .mx [(.tmp 7), (.tmp 8)], none⟩,
  ⟨some 10, .mv (.tmp 2), none⟩,
  ⟨some 11, .mn [(.tmp 9), (.tmp 10)], none⟩,
  ⟨some 6, .mv (.tmp 11), none⟩] [])
.ret)), [.tmp 6], true, none, false⟩
/-- cotterel/cache.fine -/
def f48 : AFun := ⟨99, (.seq (.region [⟨some 2, .box (.tmp 0), none⟩,
  ⟨some 4, .mv (.con (.bool false)), none⟩] [])
(.seq (.region [⟨some 12, .faddr (.tmp 2) 0, none⟩,
  ⟨some 13, .load true 1 (.tmp 12), none⟩,
  ⟨some 14, .mv (.tmp 1), none⟩,
  ⟨some 15, .isl 1 (.tmp 13) (.tmp 14), none⟩,
  ⟨some 16, .load true 1 (.tmp 15), none⟩,
  ⟨some 5, .mv (.tmp 16), none⟩] [])
(.seq (.seq (.region [⟨some 17, .mv (.tmp 5), none⟩,
   ⟨some 18, .len (.tmp 17), none⟩,
   ⟨some 19, .bin .lss (.tmp 18) (.con (.int .i64 1)), none⟩,
   ⟨some 20, .mv (.tmp 19), none⟩,
   ⟨some 21, .mv (.tmp 5), some (20, false)⟩,
   ⟨some 22, .len (.tmp 21), some (20, false)⟩,
   ⟨some 23, .bin .gtr (.tmp 22) (.con (.int .i64 4)), some (20, false)⟩,
   ⟨some 24, .pick (.tmp 20) (.con (.bool true)) (.tmp 23), none⟩] [])
 (.cond (.tmp 24)
  (.seq (.region [⟨some 4, .mv (.con (.bool false)), none⟩] [])
  .ret)
  .skip))
(.seq (.region [⟨some 25, .mv (.tmp 5), none⟩,
  ⟨some 26, .len (.tmp 25), none⟩,
  ⟨some 27, .mksl [(.bool false)] 1 1 (.tmp 26) (.tmp 26), none⟩,
  ⟨some 6, .mv (.tmp 27), none⟩] [])
(.seq (.seq (.region [⟨some 28, .mv (.tmp 5), none⟩,
   ⟨some 29, .len (.tmp 28), none⟩,
   ⟨some 30, .mv (.con (.int .i64 0)), none⟩] [])
 (.block 0 (.loop (.seq (.region [⟨some 31, .bin .lss (.tmp 30) (.tmp 29), none⟩] [])
   (.seq (.cond (.tmp 31)
     .skip
     (.exit 0))
   (.seq (.block 1 (.seq (.region [⟨some 32, .mv (.tmp 30), none⟩,
       ⟨some 33, .isl 19 (.tmp 28) (.tmp 30), none⟩,
       ⟨some 34, .load false 19 (.tmp 33), none⟩,
       ⟨some 8, .alloc [(.int .i64 0), (.int .u32 0), (.int .u8 0), (.int .u8 0), (.int .u8 0), (.int .u8 0), (.int .u8 0), (.int .u8 0), (.int .u8 0), (.int .u8 0), (.int .u8 0), (.int .u8 0), (.int .u8 0), (.int .u8 0), (.int .u8 0), (.int .u8 0), (.int .u8 0), (.int .u8 0), (.int .i64 0)], none⟩,
       ⟨some 7, .mv (.tmp 32), none⟩,
       ⟨none, .store 19 (.tmp 8) (.tmp 34), none⟩] [])
     (.seq (.seq (.region [⟨some 35, .faddr (.tmp 8) 18, none⟩,
        ⟨some 36, .load true 1 (.tmp 35), none⟩,
        ⟨some 37, .bin .lss (.tmp 36) (.con (.int .i64 0)), none⟩,
        ⟨some 38, .mv (.tmp 37), none⟩,
        ⟨some 39, .faddr (.tmp 8) 18, some (38, false)⟩,
        ⟨some 40, .load true 1 (.tmp 39), some (38, false)⟩,
        ⟨some 41, .mv (.tmp 5), some (38, false)⟩,
        ⟨some 42, .len (.tmp 41), some (38, false)⟩,
        ⟨some 43, .bin .geq (.tmp 40) (.tmp 42), some (38, false)⟩,
        ⟨some 44, .pick (.tmp 38) (.con (.bool true)) (.tmp 43), none⟩,
        ⟨some 45, .mv (.tmp 44), none⟩,
        ⟨some 46, .mv (.tmp 6), some (45, false)⟩,
        ⟨some 47, .faddr (.tmp 8) 18, some (45, false)⟩,
        ⟨some 48, .load true 1 (.tmp 47), some (45, false)⟩,
        ⟨some 49, .isl 1 (.tmp 46) (.tmp 48), some (45, false)⟩,
        ⟨some 50, .load true 1 (.tmp 49), some (45, false)⟩,
        ⟨some 51, .pick (.tmp 45) (.con (.bool true)) (.tmp 50), none⟩,
        ⟨some 52, .mv (.tmp 51), none⟩,
        ⟨some 53, .faddr (.tmp 8) 0, some (52, false)⟩,
        ⟨some 54, .load true 1 (.tmp 53), some (52, false)⟩,
        ⟨some 55, .bin .lss (.tmp 54) (.con (.int .i64 0)), some (52, false)⟩,
        ⟨some 56, .pick (.tmp 52) (.con (.bool true)) (.tmp 55), none⟩,
        ⟨some 57, .mv (.tmp 56), none⟩,
        ⟨some 58, .faddr (.tmp 8) 0, some (57, false)⟩,
        ⟨some 59, .load true 1 (.tmp 58), some (57, false)⟩,
        ⟨some 60, .bin .gtr (.tmp 59) (.con (.int .i64 3)), some (57, false)⟩,
        ⟨some 61, .pick (.tmp 57) (.con (.bool true)) (.tmp 60), none⟩] [])
      (.cond (.tmp 61)
       (.seq (.region [⟨some 4, .mv (.con (.bool false)), none⟩] [])
       .ret)
       .skip))
     (.seq (.region [⟨some 62, .mv (.tmp 6), none⟩,
       ⟨some 63, .faddr (.tmp 8) 18, none⟩,
       ⟨some 64, .load true 1 (.tmp 63), none⟩,
       ⟨some 65, .isl 1 (.tmp 62) (.tmp 64), none⟩,
       ⟨none, .store 1 (.tmp 65) (.con (.bool true)), none⟩] [])
     (.seq (.seq (.region [⟨some 66, .faddr (.tmp 8) 0, none⟩,
        ⟨some 67, .load true 1 (.tmp 66), none⟩,
        ⟨some 68, .bin .eql (.tmp 67) (.con (.int .i64 0)), none⟩,
        ⟨some 69, .mv (.tmp 68), none⟩,
        ⟨some 70, .load false 19 (.tmp 8), some (69, true)⟩,
        ⟨some 71, .faddr (.tmp 8) 18, some (69, true)⟩,
        ⟨some 72, .load true 1 (.tmp 71), some (69, true)⟩,
        ⟨some 73, .build [(.int .i64 0), (.int .u32 0), (.int .u8 0), (.int .u8 0), (.int .u8 0), (.int .u8 0), (.int .u8 0), (.int .u8 0), (.int .u8 0), (.int .u8 0), (.int .u8 0), (.int .u8 0), (.int .u8 0), (.int .u8 0), (.int .u8 0), (.int .u8 0), (.int .u8 0), (.int .u8 0), (.int .i64 0)] [(18, 1, (.tmp 72))], some (69, true)⟩,
        ⟨some 74, .aeq true [some .i64, some .u32, some .u8, some .u8, some .u8, some .u8, some .u8, some .u8, some .u8, some .u8, some .u8, some .u8, some .u8, some .u8, some .u8, some .u8, some .u8, some .u8, some .i64] (.tmp 70) (.tmp 73), some (69, true)⟩,
        ⟨some 75, .pick (.tmp 69) (.tmp 74) (.con (.bool false)), none⟩] [])
      (.cond (.tmp 75)
       (.seq (.region [⟨some 4, .mv (.con (.bool false)), none⟩] [])
       .ret)
       .skip))
     (.seq (.seq (.region [⟨some 76, .faddr (.tmp 8) 0, none⟩,
        ⟨some 77, .load true 1 (.tmp 76), none⟩,
        ⟨some 78, .bin .eql (.tmp 77) (.con (.int .i64 0)), none⟩] [])
      (.cond (.tmp 78)
       (.exit 1)
       .skip))
     (.seq (.region [⟨some 80, .load false 1 (.tmp 2), none⟩,
       ⟨some 81, .faddr (.tmp 8) 1, none⟩,
       ⟨some 82, .load true 1 (.tmp 81), none⟩,
       ⟨some 83, .call 58 [(.tmp 80), (.tmp 82)], none⟩,
       ⟨some 79, .mv (.tmp 83), none⟩,
       ⟨some 84, .extract (.tmp 79) 0, none⟩,
       ⟨some 85, .extract (.tmp 79) 1, none⟩,
       ⟨some 86, .extract (.tmp 79) 2, none⟩,
       ⟨some 9, .mv (.tmp 84), none⟩,
       ⟨some 10, .mv (.tmp 85), none⟩,
       ⟨some 11, .mv (.tmp 86), none⟩] [])
     (.seq (.region [⟨some 87, .load false 1 (.tmp 2), none⟩,
       ⟨some 88, .faddr (.tmp 8) 1, none⟩,
       ⟨some 89, .load true 1 (.tmp 88), none⟩,
       ⟨some 90, .call 63 [(.tmp 87), (.tmp 89)], none⟩,
       ⟨some 91, .mv (.tmp 1), none⟩,
       ⟨some 92, .bin .neq (.tmp 90) (.tmp 91), none⟩,
       ⟨some 93, .mv (.tmp 92), none⟩,
       ⟨some 94, .mv (.tmp 10), some (93, false)⟩,
       ⟨some 95, .mv (.tmp 7), some (93, false)⟩,
       ⟨some 96, .bin .neq (.tmp 94) (.tmp 95), some (93, false)⟩,
       ⟨some 97, .pick (.tmp 93) (.con (.bool true)) (.tmp 96), none⟩] [])
     (.cond (.tmp 97)
      (.seq (.region [⟨some 4, .mv (.con (.bool false)), none⟩] [])
      .ret)
      .skip)))))))))
   (.region [⟨some 98, .bin .add (.tmp 30) (.con (.int .i64 1)), none⟩,
    ⟨some 30, .mv (.tmp 98), none⟩] [])))))))
(.seq (.region [⟨some 4, .mv (.con (.bool true)), none⟩] [])
.ret)))))), [.tmp 4], true, none, false⟩
/-- cotterel/mesi.Legal -/
def f49 : AFun := ⟨38, (.seq (.region [⟨some 2, .mv (.con (.bool false)), none⟩] [])
(.seq (.region [⟨some 3, .mv (.con (.int .i64 0)), none⟩,
  ⟨some 4, .mv (.con (.bool false)), none⟩] [])
(.seq (.seq (.region [⟨some 7, .mv (.tmp 0), none⟩,
   ⟨some 8, .len (.tmp 7), none⟩,
   ⟨some 9, .mv (.con (.int .i64 0)), none⟩] [])
 (.block 0 (.loop (.seq (.region [⟨some 10, .bin .lss (.tmp 9) (.tmp 8), none⟩] [])
   (.seq (.cond (.tmp 10)
     .skip
     (.exit 0))
   (.seq (.block 1 (.seq (.region [⟨some 11, .isl 1 (.tmp 7) (.tmp 9), none⟩,
       ⟨some 12, .load true 1 (.tmp 11), none⟩,
       ⟨some 6, .mv (.tmp 12), none⟩] [])
     (.seq (.seq (.region [⟨some 13, .mv (.tmp 6), none⟩,
        ⟨some 14, .bin .neq (.tmp 13) (.con (.int .i64 0)), none⟩] [])
      (.cond (.tmp 14)
       (.region [⟨some 15, .mv (.tmp 3), none⟩,
        ⟨some 16, .bin .add (.tmp 15) (.con (.int .i64 1)), none⟩,
        ⟨some 3, .mv (.tmp 16), none⟩] [])
       .skip))
     (.region [⟨some 17, .mv (.tmp 4), none⟩,
      ⟨some 18, .mv (.tmp 17), none⟩,
      ⟨some 19, .mv (.tmp 6), some (18, false)⟩,
      ⟨some 20, .bin .eql (.tmp 19) (.con (.int .i64 2)), some (18, false)⟩,
      ⟨some 21, .pick (.tmp 18) (.con (.bool true)) (.tmp 20), none⟩,
      ⟨some 22, .mv (.tmp 21), none⟩,
      ⟨some 23, .mv (.tmp 6), some (22, false)⟩,
      ⟨some 24, .bin .eql (.tmp 23) (.con (.int .i64 3)), some (22, false)⟩,
      ⟨some 25, .pick (.tmp 22) (.con (.bool true)) (.tmp 24), none⟩,
      ⟨some 4, .mv (.tmp 25), none⟩] []))))
   (.region [⟨some 26, .bin .add (.tmp 9) (.con (.int .i64 1)), none⟩,
    ⟨some 9, .mv (.tmp 26), none⟩] [])))))))
(.seq (.region [⟨some 27, .mv (.tmp 0), none⟩,
  ⟨some 28, .call 64 [(.tmp 27), (.con (.fn 65 [] []))], none⟩,
  ⟨some 29, .un .not (.tmp 28), none⟩,
  ⟨some 30, .mv (.tmp 29), none⟩,
  ⟨some 31, .mv (.tmp 4), some (30, true)⟩,
  ⟨some 32, .un .not (.tmp 31), some (30, true)⟩,
  ⟨some 33, .mv (.tmp 32), some (30, true)⟩,
  ⟨some 34, .mv (.tmp 3), some (33, false)⟩,
  ⟨some 35, .bin .eql (.tmp 34) (.con (.int .i64 1)), some (33, false)⟩,
  ⟨some 36, .pick (.tmp 33) (.con (.bool true)) (.tmp 35), some (30, true)⟩,
  ⟨some 37, .pick (.tmp 30) (.tmp 36) (.con (.bool false)), none⟩,
  ⟨some 2, .mv (.tmp 37), none⟩] [])
.ret)))), [.tmp 2], true, none, false⟩
/-- cotterel/coh.states -/
def f50 : AFun := ⟨42, (.seq (.region [⟨some 2, .box (.tmp 0), none⟩,
  ⟨some 4, .mv (.con (.imm true 0 [])), none⟩] [])
(.seq (.region [⟨some 5, .mv (.con (.imm true 0 [])), none⟩] [])
(.seq (.seq (.region [⟨some 12, .faddr (.tmp 2) 1, none⟩,
   ⟨some 13, .load true 1 (.tmp 12), none⟩,
   ⟨some 14, .len (.tmp 13), none⟩,
   ⟨some 15, .mv (.con (.int .i64 0)), none⟩] [])
 (.block 0 (.loop (.seq (.region [⟨some 16, .bin .lss (.tmp 15) (.tmp 14), none⟩] [])
   (.seq (.cond (.tmp 16)
     .skip
     (.exit 0))
   (.seq (.block 1 (.seq (.region [⟨some 17, .isl 1 (.tmp 13) (.tmp 15), none⟩,
       ⟨some 18, .load false 1 (.tmp 17), none⟩,
       ⟨some 7, .alloc [(.imm true 0 [])], none⟩,
       ⟨none, .store 1 (.tmp 7) (.tmp 18), none⟩] [])
     (.seq (.region [⟨some 8, .mv (.con (.int .i64 0)), none⟩] [])
     (.seq (.seq (.region [⟨some 20, .load false 1 (.tmp 7), none⟩,
        ⟨some 21, .mv (.tmp 1), none⟩,
        ⟨some 22, .call 58 [(.tmp 20), (.tmp 21)], none⟩,
        ⟨some 19, .mv (.tmp 22), none⟩,
        ⟨some 23, .extract (.tmp 19) 0, none⟩,
        ⟨some 24, .extract (.tmp 19) 1, none⟩,
        ⟨some 25, .extract (.tmp 19) 2, none⟩,
        ⟨some 9, .mv (.tmp 23), none⟩,
        ⟨some 10, .mv (.tmp 24), none⟩,
        ⟨some 11, .mv (.tmp 25), none⟩] [])
      (.seq (.region [⟨some 26, .mv (.tmp 11), none⟩] [])
      (.cond (.tmp 26)
       (.region [⟨some 27, .faddr (.tmp 7) 0, none⟩,
        ⟨some 28, .load true 1 (.tmp 27), none⟩,
        ⟨some 29, .mv (.tmp 9), none⟩,
        ⟨some 30, .isl 1 (.tmp 28) (.tmp 29), none⟩,
        ⟨some 31, .load true 1 (.tmp 30), none⟩,
        ⟨some 32, .mv (.tmp 10), none⟩,
        ⟨some 33, .isl 19 (.tmp 31) (.tmp 32), none⟩,
        ⟨some 34, .faddr (.tmp 33) 0, none⟩,
        ⟨some 35, .load true 1 (.tmp 34), none⟩,
        ⟨some 8, .mv (.tmp 35), none⟩] [])
       .skip)))
     (.region [⟨some 36, .mv (.tmp 5), none⟩,
      ⟨some 37, .mv (.tmp 8), none⟩,
      ⟨some 38, .bsl [(.int .i64 0)] 1 1 [(0, 1, (.tmp 37))], none⟩,
      ⟨some 39, .append 1 8 (.tmp 36) (.tmp 38), none⟩,
      ⟨some 5, .mv (.tmp 39), none⟩] [])))))
   (.region [⟨some 40, .bin .add (.tmp 15) (.con (.int .i64 1)), none⟩,
    ⟨some 15, .mv (.tmp 40), none⟩] [])))))))
(.seq (.region [⟨some 41, .mv (.tmp 5), none⟩,
  ⟨some 4, .mv (.tmp 41), none⟩] [])
.ret)))), [.tmp 4], true, none, false⟩
/-- cotterel/mem.Check -/
def f51 : AFun := ⟨28, (.seq (.region [⟨some 6, .mv (.con (.int .i64 0)), none⟩] [])
(.seq (.seq (.region [⟨some 7, .mv (.tmp 2), none⟩,
   ⟨some 8, .bin .neq (.tmp 7) (.con (.int .i64 1)), none⟩,
   ⟨some 9, .mv (.tmp 8), none⟩,
   ⟨some 10, .mv (.tmp 2), some (9, true)⟩,
   ⟨some 11, .bin .neq (.tmp 10) (.con (.int .i64 2)), some (9, true)⟩,
   ⟨some 12, .pick (.tmp 9) (.tmp 11) (.con (.bool false)), none⟩,
   ⟨some 13, .mv (.tmp 12), none⟩,
   ⟨some 14, .mv (.tmp 2), some (13, true)⟩,
   ⟨some 15, .bin .neq (.tmp 14) (.con (.int .i64 4)), some (13, true)⟩,
   ⟨some 16, .pick (.tmp 13) (.tmp 15) (.con (.bool false)), none⟩,
   ⟨some 17, .mv (.tmp 16), none⟩,
   ⟨some 18, .mv (.tmp 1), some (17, false)⟩,
   ⟨some 19, .conv .u64 (.tmp 18), some (17, false)⟩,
   ⟨some 20, .mv (.tmp 2), some (17, false)⟩,
   ⟨some 21, .conv .u64 (.tmp 20), some (17, false)⟩,
   ⟨some 22, .bin .add (.tmp 19) (.tmp 21), some (17, false)⟩,
   ⟨some 23, .mv (.tmp 0), some (17, false)⟩,
   ⟨some 24, .len (.tmp 23), some (17, false)⟩,
   ⟨some 25, .conv .u64 (.tmp 24), some (17, false)⟩,
   ⟨some 26, .bin .gtr (.tmp 22) (.tmp 25), some (17, false)⟩,
   ⟨some 27, .pick (.tmp 17) (.con (.bool true)) (.tmp 26), none⟩] [])
 (.cond (.tmp 27)
  (.seq (.region [⟨some 6, .mv (.con (.int .i64 9)), none⟩] [])
  .ret)
  .skip))
(.seq (.region [⟨some 6, .mv (.con (.int .i64 0)), none⟩] [])
.ret))), [.tmp 6], true, none, false⟩
/-- cotterel/bus.Want -/
def f52 : AFun := ⟨29, (.seq (.region [⟨some 4, .box (.tmp 0), none⟩,
  ⟨some 8, .alloc [(.int .i64 0), (.int .u32 0)], none⟩] [])
(.seq (.seq (.region [⟨some 9, .mv (.tmp 1), none⟩,
   ⟨some 10, .bin .lss (.tmp 9) (.con (.int .i64 0)), none⟩,
   ⟨some 11, .mv (.tmp 10), none⟩,
   ⟨some 12, .mv (.tmp 1), some (11, false)⟩,
   ⟨some 13, .faddr (.tmp 4) 1, some (11, false)⟩,
   ⟨some 14, .load true 1 (.tmp 13), some (11, false)⟩,
   ⟨some 15, .len (.tmp 14), some (11, false)⟩,
   ⟨some 16, .bin .geq (.tmp 12) (.tmp 15), some (11, false)⟩,
   ⟨some 17, .pick (.tmp 11) (.con (.bool true)) (.tmp 16), none⟩] [])
 (.cond (.tmp 17)
  (.seq (.region [⟨some 18, .build [(.int .i64 0), (.int .u32 0)] [], none⟩,
    ⟨none, .store 2 (.tmp 8) (.tmp 18), none⟩] [])
  .ret)
  .skip))
(.seq (.region [⟨some 19, .load false 2 (.tmp 4), none⟩,
  ⟨some 20, .mv (.tmp 2), none⟩,
  ⟨some 21, .build [(.imm true 0 []), (.imm true 0 []), (.int .u32 0)] [(0, 2, (.tmp 19)), (2, 1, (.tmp 20))], none⟩,
  ⟨some 22, .mv (.tmp 1), none⟩,
  ⟨some 23, .call 68 [(.tmp 21), (.tmp 22)], none⟩,
  ⟨some 24, .field true 0 1 (.tmp 23), none⟩,
  ⟨some 25, .mv (.tmp 3), none⟩,
  ⟨some 26, .call 67 [(.tmp 24), (.tmp 25)], none⟩,
  ⟨some 27, .mv (.tmp 2), none⟩,
  ⟨some 28, .build [(.int .i64 0), (.int .u32 0)] [(0, 1, (.tmp 26)), (1, 1, (.tmp 27))], none⟩,
  ⟨none, .store 2 (.tmp 8) (.tmp 28), none⟩] [])
.ret))), [.cell 8 false 2], true, none, false⟩
/-- cotterel/bus.Do -/
def f53 : AFun := ⟨163, (.seq (.region [⟨some 3, .box (.tmp 0), none⟩,
  ⟨some 5, .box (.tmp 2), none⟩,
  ⟨some 6, .alloc [(.imm true 0 []), (.imm true 0 [])], none⟩] [])
(.seq (.seq (.region [⟨some 15, .mv (.tmp 1), none⟩,
   ⟨some 16, .bin .lss (.tmp 15) (.con (.int .i64 0)), none⟩,
   ⟨some 17, .mv (.tmp 16), none⟩,
   ⟨some 18, .mv (.tmp 1), some (17, false)⟩,
   ⟨some 19, .faddr (.tmp 3) 1, some (17, false)⟩,
   ⟨some 20, .load true 1 (.tmp 19), some (17, false)⟩,
   ⟨some 21, .len (.tmp 20), some (17, false)⟩,
   ⟨some 22, .bin .geq (.tmp 18) (.tmp 21), some (17, false)⟩,
   ⟨some 23, .pick (.tmp 17) (.con (.bool true)) (.tmp 22), none⟩,
   ⟨some 24, .mv (.tmp 23), none⟩,
   ⟨some 25, .faddr (.tmp 5) 0, some (24, false)⟩,
   ⟨some 26, .load true 1 (.tmp 25), some (24, false)⟩,
   ⟨some 27, .bin .lss (.tmp 26) (.con (.int .i64 1)), some (24, false)⟩,
   ⟨some 28, .pick (.tmp 24) (.con (.bool true)) (.tmp 27), none⟩,
   ⟨some 29, .mv (.tmp 28), none⟩,
   ⟨some 30, .faddr (.tmp 5) 0, some (29, false)⟩,
   ⟨some 31, .load true 1 (.tmp 30), some (29, false)⟩,
   ⟨some 32, .bin .gtr (.tmp 31) (.con (.int .i64 3)), some (29, false)⟩,
   ⟨some 33, .pick (.tmp 29) (.con (.bool true)) (.tmp 32), none⟩,
   ⟨some 34, .mv (.tmp 33), none⟩,
   ⟨some 35, .load false 2 (.tmp 3), some (34, false)⟩,
   ⟨some 36, .faddr (.tmp 5) 1, some (34, false)⟩,
   ⟨some 37, .load true 1 (.tmp 36), some (34, false)⟩,
   ⟨some 38, .call 69 [(.tmp 35), (.tmp 37)], some (34, false)⟩,
   ⟨some 39, .un .not (.tmp 38), some (34, false)⟩,
   ⟨some 40, .pick (.tmp 34) (.con (.bool true)) (.tmp 39), none⟩] [])
 (.cond (.tmp 40)
  (.seq (.region [⟨some 41, .load false 2 (.tmp 3), none⟩,
    ⟨none, .store 2 (.tmp 6) (.tmp 41), none⟩] [])
  .ret)
  .skip))
(.seq (.region [⟨some 42, .faddr (.tmp 3) 1, none⟩,
  ⟨some 43, .load true 1 (.tmp 42), none⟩,
  ⟨some 44, .append 1 24 (.con (.imm true 0 [])) (.tmp 43), none⟩,
  ⟨some 45, .faddr (.tmp 3) 1, none⟩,
  ⟨none, .store 1 (.tmp 45) (.tmp 44), none⟩] [])
(.seq (.seq (.region [⟨some 46, .faddr (.tmp 3) 1, none⟩,
   ⟨some 47, .load true 1 (.tmp 46), none⟩,
   ⟨some 48, .len (.tmp 47), none⟩,
   ⟨some 49, .mv (.con (.int .i64 0)), none⟩] [])
 (.block 0 (.loop (.seq (.region [⟨some 50, .bin .lss (.tmp 49) (.tmp 48), none⟩] [])
   (.seq (.cond (.tmp 50)
     .skip
     (.exit 0))
   (.seq (.block 1 (.seq (.region [⟨some 51, .mv (.tmp 49), none⟩,
       ⟨some 7, .mv (.tmp 51), none⟩] [])
     (.seq (.region [⟨some 52, .load false 2 (.tmp 3), none⟩,
       ⟨some 53, .faddr (.tmp 5) 1, none⟩,
       ⟨some 54, .load true 1 (.tmp 53), none⟩,
       ⟨some 55, .build [(.imm true 0 []), (.imm true 0 []), (.int .u32 0)] [(0, 2, (.tmp 52)), (2, 1, (.tmp 54))], none⟩,
       ⟨some 56, .mv (.tmp 7), none⟩,
       ⟨some 57, .call 68 [(.tmp 55), (.tmp 56)], none⟩,
       ⟨some 8, .alloc [(.int .i64 0), (.int .u32 0), (.int .u8 0), (.int .u8 0), (.int .u8 0), (.int .u8 0), (.int .u8 0), (.int .u8 0), (.int .u8 0), (.int .u8 0), (.int .u8 0), (.int .u8 0), (.int .u8 0), (.int .u8 0), (.int .u8 0), (.int .u8 0), (.int .u8 0), (.int .u8 0), (.int .i64 0)], none⟩,
       ⟨none, .store 19 (.tmp 8) (.tmp 57), none⟩] [])
     (.seq (.seq (.region [⟨some 58, .mv (.tmp 7), none⟩,
        ⟨some 59, .mv (.tmp 1), none⟩,
        ⟨some 60, .bin .eql (.tmp 58) (.tmp 59), none⟩,
        ⟨some 61, .mv (.tmp 60), none⟩,
        ⟨some 62, .faddr (.tmp 8) 0, some (61, false)⟩,
        ⟨some 63, .load true 1 (.tmp 62), some (61, false)⟩,
        ⟨some 64, .bin .eql (.tmp 63) (.con (.int .i64 0)), some (61, false)⟩,
        ⟨some 65, .pick (.tmp 61) (.con (.bool true)) (.tmp 64), none⟩] [])
      (.cond (.tmp 65)
       (.exit 1)
       .skip))
     (.seq (.region [⟨some 67, .faddr (.tmp 8) 0, none⟩,
       ⟨some 68, .load true 1 (.tmp 67), none⟩,
       ⟨some 69, .faddr (.tmp 5) 0, none⟩,
       ⟨some 70, .load true 1 (.tmp 69), none⟩,
       ⟨some 71, .call 70 [(.tmp 68), (.tmp 70)], none⟩,
       ⟨some 66, .mv (.tmp 71), none⟩,
       ⟨some 72, .extract (.tmp 66) 0, none⟩,
       ⟨some 73, .extract (.tmp 66) 1, none⟩,
       ⟨some 9, .mv (.tmp 72), none⟩,
       ⟨some 10, .mv (.tmp 73), none⟩] [])
     (.seq (.seq (.region [⟨some 74, .mv (.tmp 10), none⟩] [])
      (.cond (.tmp 74)
       (.seq (.region [⟨some 75, .faddr (.tmp 5) 1, none⟩,
         ⟨some 76, .load true 1 (.tmp 75), none⟩,
         ⟨some 77, .faddr (.tmp 8) 0, none⟩,
         ⟨none, .store 1 (.tmp 77) (.con (.int .i64 3)), none⟩,
         ⟨some 78, .faddr (.tmp 8) 1, none⟩,
         ⟨none, .store 1 (.tmp 78) (.tmp 76), none⟩] [(1, 3)])
       (.region [⟨some 79, .load false 2 (.tmp 3), none⟩,
        ⟨some 80, .mv (.tmp 1), none⟩,
        ⟨some 81, .load false 19 (.tmp 8), none⟩,
        ⟨some 82, .call 71 [(.tmp 79), (.tmp 80), (.tmp 81)], none⟩,
        ⟨none, .store 2 (.tmp 3) (.tmp 82), none⟩] []))
       .skip))
     (.region [⟨some 83, .faddr (.tmp 3) 1, none⟩,
      ⟨some 84, .load true 1 (.tmp 83), none⟩,
      ⟨some 85, .mv (.tmp 7), none⟩,
      ⟨some 86, .faddr (.tmp 3) 1, none⟩,
      ⟨some 87, .load true 1 (.tmp 86), none⟩,
      ⟨some 88, .mv (.tmp 7), none⟩,
      ⟨some 89, .isl 1 (.tmp 87) (.tmp 88), none⟩,
      ⟨some 90, .load false 1 (.tmp 89), none⟩,
      ⟨some 91, .faddr (.tmp 5) 1, none⟩,
      ⟨some 92, .load true 1 (.tmp 91), none⟩,
      ⟨some 93, .mv (.tmp 9), none⟩,
      ⟨some 94, .call 72 [(.tmp 90), (.tmp 92), (.tmp 93)], none⟩,
      ⟨some 95, .isl 1 (.tmp 84) (.tmp 85), none⟩,
      ⟨none, .store 1 (.tmp 95) (.tmp 94), none⟩] [(1, 11)])))))))
   (.region [⟨some 96, .bin .add (.tmp 49) (.con (.int .i64 1)), none⟩,
    ⟨some 49, .mv (.tmp 96), none⟩] [])))))))
(.seq (.region [⟨some 97, .faddr (.tmp 5) 0, none⟩,
  ⟨some 98, .load true 1 (.tmp 97), none⟩,
  ⟨some 99, .load false 2 (.tmp 3), none⟩,
  ⟨some 100, .mv (.tmp 1), none⟩,
  ⟨some 101, .faddr (.tmp 5) 1, none⟩,
  ⟨some 102, .load true 1 (.tmp 101), none⟩,
  ⟨some 103, .call 74 [(.tmp 99), (.tmp 100), (.tmp 102)], none⟩,
  ⟨some 104, .call 73 [(.tmp 98), (.tmp 103)], none⟩,
  ⟨some 11, .mv (.tmp 104), none⟩] [(1, 6)])
(.seq (.seq (.region [⟨some 105, .faddr (.tmp 5) 0, none⟩,
   ⟨some 106, .load true 1 (.tmp 105), none⟩,
   ⟨some 107, .bin .eql (.tmp 106) (.con (.int .i64 3)), none⟩,
   ⟨some 108, .mv (.tmp 107), none⟩,
   ⟨some 109, .load false 2 (.tmp 3), some (108, true)⟩,
   ⟨some 110, .faddr (.tmp 5) 1, some (108, true)⟩,
   ⟨some 111, .load true 1 (.tmp 110), some (108, true)⟩,
   ⟨some 112, .build [(.imm true 0 []), (.imm true 0 []), (.int .u32 0)] [(0, 2, (.tmp 109)), (2, 1, (.tmp 111))], some (108, true)⟩,
   ⟨some 113, .mv (.tmp 1), some (108, true)⟩,
   ⟨some 114, .call 68 [(.tmp 112), (.tmp 113)], some (108, true)⟩,
   ⟨some 115, .field true 0 1 (.tmp 114), some (108, true)⟩,
   ⟨some 116, .bin .neq (.tmp 115) (.con (.int .i64 0)), some (108, true)⟩,
   ⟨some 117, .pick (.tmp 108) (.tmp 116) (.con (.bool false)), none⟩] [])
 (.cond (.tmp 117)
  (.seq (.region [⟨some 118, .faddr (.tmp 3) 1, none⟩,
    ⟨some 119, .load true 1 (.tmp 118), none⟩,
    ⟨some 120, .mv (.tmp 1), none⟩,
    ⟨some 121, .faddr (.tmp 3) 1, none⟩,
    ⟨some 122, .load true 1 (.tmp 121), none⟩,
    ⟨some 123, .mv (.tmp 1), none⟩,
    ⟨some 124, .isl 1 (.tmp 122) (.tmp 123), none⟩,
    ⟨some 125, .load false 1 (.tmp 124), none⟩,
    ⟨some 126, .faddr (.tmp 5) 1, none⟩,
    ⟨some 127, .load true 1 (.tmp 126), none⟩,
    ⟨some 128, .mv (.tmp 11), none⟩,
    ⟨some 129, .call 72 [(.tmp 125), (.tmp 127), (.tmp 128)], none⟩,
    ⟨some 130, .isl 1 (.tmp 119) (.tmp 120), none⟩,
    ⟨none, .store 1 (.tmp 130) (.tmp 129), none⟩] [(1, 11)])
  (.seq (.region [⟨some 131, .load false 2 (.tmp 3), none⟩,
    ⟨none, .store 2 (.tmp 6) (.tmp 131), none⟩] [])
  .ret))
  .skip))
(.seq (.region [⟨some 12, .alloc (List.replicate 16 (.int .u8 0)), none⟩] [])
(.seq (.region [⟨some 132, .slArr 16 1 (.tmp 12) none none none, none⟩,
  ⟨some 133, .faddr (.tmp 3) 0, none⟩,
  ⟨some 134, .load true 1 (.tmp 133), none⟩,
  ⟨some 135, .faddr (.tmp 5) 1, none⟩,
  ⟨some 136, .load true 1 (.tmp 135), none⟩,
  ⟨some 137, .conv .i64 (.tmp 136), none⟩,
  ⟨some 138, .bin .mul (.tmp 137) (.con (.int .i64 16)), none⟩,
  ⟨some 139, .slSl 1 (.tmp 134) (some (.tmp 138)) none none, none⟩,
  ⟨some 140, .copy 1 (.tmp 132) (.tmp 139), none⟩] [])
(.seq (.region [⟨some 142, .faddr (.tmp 3) 1, none⟩,
  ⟨some 143, .load true 1 (.tmp 142), none⟩,
  ⟨some 144, .mv (.tmp 1), none⟩,
  ⟨some 145, .isl 1 (.tmp 143) (.tmp 144), none⟩,
  ⟨some 146, .load false 1 (.tmp 145), none⟩,
  ⟨some 147, .faddr (.tmp 5) 1, none⟩,
  ⟨some 148, .load true 1 (.tmp 147), none⟩,
  ⟨some 149, .mv (.tmp 11), none⟩,
  ⟨some 150, .load false 16 (.tmp 12), none⟩,
  ⟨some 151, .call 75 [(.tmp 146), (.tmp 148), (.tmp 149), (.tmp 150)], none⟩,
  ⟨some 141, .mv (.tmp 151), none⟩,
  ⟨some 152, .extract (.tmp 141) 0, none⟩,
  ⟨some 153, .extract (.tmp 141) 1, none⟩,
  ⟨some 13, .alloc [(.imm true 0 [])], none⟩,
  ⟨some 14, .alloc [(.int .i64 0), (.int .u32 0), (.int .u8 0), (.int .u8 0), (.int .u8 0), (.int .u8 0), (.int .u8 0), (.int .u8 0), (.int .u8 0), (.int .u8 0), (.int .u8 0), (.int .u8 0), (.int .u8 0), (.int .u8 0), (.int .u8 0), (.int .u8 0), (.int .u8 0), (.int .u8 0), (.int .i64 0)], none⟩,
  ⟨none, .store 1 (.tmp 13) (.tmp 152), none⟩,
  ⟨none, .store 19 (.tmp 14) (.tmp 153), none⟩] [(1, 13), (4, 13), (6, 13), (8, 13), (9, 13), (1, 14), (4, 14), (6, 14), (8, 14), (9, 14), (13, 14)])
(.seq (.region [⟨some 154, .faddr (.tmp 3) 1, none⟩,
  ⟨some 155, .load true 1 (.tmp 154), none⟩,
  ⟨some 156, .mv (.tmp 1), none⟩,
  ⟨some 157, .load false 1 (.tmp 13), none⟩,
  ⟨some 158, .isl 1 (.tmp 155) (.tmp 156), none⟩,
  ⟨none, .store 1 (.tmp 158) (.tmp 157), none⟩] [])
(.seq (.region [⟨some 159, .load false 2 (.tmp 3), none⟩,
  ⟨some 160, .mv (.tmp 1), none⟩,
  ⟨some 161, .load false 19 (.tmp 14), none⟩,
  ⟨some 162, .call 71 [(.tmp 159), (.tmp 160), (.tmp 161)], none⟩,
  ⟨none, .store 2 (.tmp 6) (.tmp 162), none⟩] [])
.ret))))))))))), [.cell 6 false 2], true, none, false⟩
/-- cotterel/cache.place -/
def f54 : AFun := ⟨45, (.seq (.region [⟨some 3, .box (.tmp 0), none⟩,
  ⟨some 6, .mv (.con (.int .i64 0)), none⟩,
  ⟨some 7, .mv (.con (.int .i64 0)), none⟩,
  ⟨some 8, .mv (.con (.int .i64 0)), none⟩,
  ⟨some 9, .mv (.con (.bool false)), none⟩] [])
(.seq (.region [⟨some 14, .mv (.tmp 1), none⟩,
  ⟨some 15, .bin .rem (.tmp 14) (.con (.int .u32 16)), none⟩,
  ⟨some 16, .conv .i64 (.tmp 15), none⟩,
  ⟨some 10, .mv (.tmp 16), none⟩] [])
(.seq (.seq (.region [⟨some 17, .mv (.tmp 2), none⟩,
   ⟨some 18, .bin .neq (.tmp 17) (.con (.int .i64 1)), none⟩,
   ⟨some 19, .mv (.tmp 18), none⟩,
   ⟨some 20, .mv (.tmp 2), some (19, true)⟩,
   ⟨some 21, .bin .neq (.tmp 20) (.con (.int .i64 2)), some (19, true)⟩,
   ⟨some 22, .pick (.tmp 19) (.tmp 21) (.con (.bool false)), none⟩,
   ⟨some 23, .mv (.tmp 22), none⟩,
   ⟨some 24, .mv (.tmp 2), some (23, true)⟩,
   ⟨some 25, .bin .neq (.tmp 24) (.con (.int .i64 4)), some (23, true)⟩,
   ⟨some 26, .pick (.tmp 23) (.tmp 25) (.con (.bool false)), none⟩,
   ⟨some 27, .mv (.tmp 26), none⟩,
   ⟨some 28, .mv (.tmp 10), some (27, false)⟩,
   ⟨some 29, .mv (.tmp 2), some (27, false)⟩,
   ⟨some 30, .bin .add (.tmp 28) (.tmp 29), some (27, false)⟩,
   ⟨some 31, .bin .gtr (.tmp 30) (.con (.int .i64 16)), some (27, false)⟩,
   ⟨some 32, .pick (.tmp 27) (.con (.bool true)) (.tmp 31), none⟩] [])
 (.cond (.tmp 32)
  (.seq (.region [⟨some 6, .mv (.con (.int .i64 0)), none⟩,
    ⟨some 7, .mv (.con (.int .i64 0)), none⟩,
    ⟨some 8, .mv (.con (.int .i64 0)), none⟩,
    ⟨some 9, .mv (.con (.bool false)), none⟩] [])
  .ret)
  .skip))
(.seq (.region [⟨some 34, .load false 1 (.tmp 3), none⟩,
  ⟨some 35, .mv (.tmp 1), none⟩,
  ⟨some 36, .call 34 [(.tmp 35)], none⟩,
  ⟨some 37, .call 58 [(.tmp 34), (.tmp 36)], none⟩,
  ⟨some 33, .mv (.tmp 37), none⟩,
  ⟨some 38, .extract (.tmp 33) 0, none⟩,
  ⟨some 39, .extract (.tmp 33) 1, none⟩,
  ⟨some 40, .extract (.tmp 33) 2, none⟩,
  ⟨some 11, .mv (.tmp 38), none⟩,
  ⟨some 12, .mv (.tmp 39), none⟩,
  ⟨some 13, .mv (.tmp 40), none⟩] [(0, 2)])
(.seq (.region [⟨some 41, .mv (.tmp 11), none⟩,
  ⟨some 42, .mv (.tmp 12), none⟩,
  ⟨some 43, .mv (.tmp 10), none⟩,
  ⟨some 44, .mv (.tmp 13), none⟩,
  ⟨some 6, .mv (.tmp 41), none⟩,
  ⟨some 7, .mv (.tmp 42), none⟩,
  ⟨some 8, .mv (.tmp 43), none⟩,
  ⟨some 9, .mv (.tmp 44), none⟩] [])
.ret))))), [.tmp 6, .tmp 7, .tmp 8, .tmp 9], true, none, false⟩
/-- cotterel/cache.with -/
def f55 : AFun := ⟨21, (.seq (.region [⟨some 2, .box (.tmp 0), none⟩,
  ⟨some 4, .alloc [(.imm true 0 [])], none⟩] [])
(.seq (.region [⟨some 6, .faddr (.tmp 2) 0, none⟩,
  ⟨some 7, .load true 1 (.tmp 6), none⟩,
  ⟨some 8, .call 76 [(.tmp 7)], none⟩,
  ⟨some 9, .build [(.imm true 0 [])] [(0, 1, (.tmp 8))], none⟩,
  ⟨some 5, .alloc [(.imm true 0 [])], none⟩,
  ⟨none, .store 1 (.tmp 5) (.tmp 9), none⟩] [])
(.seq (.region [⟨some 10, .faddr (.tmp 5) 0, none⟩,
  ⟨some 11, .load true 1 (.tmp 10), none⟩,
  ⟨some 12, .mv (.tmp 1), none⟩,
  ⟨some 13, .faddr (.tmp 2) 0, none⟩,
  ⟨some 14, .load true 1 (.tmp 13), none⟩,
  ⟨some 15, .mv (.tmp 1), none⟩,
  ⟨some 16, .isl 1 (.tmp 14) (.tmp 15), none⟩,
  ⟨some 17, .load true 1 (.tmp 16), none⟩,
  ⟨some 18, .call 77 [(.tmp 17)], none⟩,
  ⟨some 19, .isl 1 (.tmp 11) (.tmp 12), none⟩,
  ⟨none, .store 1 (.tmp 19) (.tmp 18), none⟩] [(1, 8)])
(.seq (.region [⟨some 20, .load false 1 (.tmp 5), none⟩,
  ⟨none, .store 1 (.tmp 4) (.tmp 20), none⟩] [])
.ret)))), [.cell 4 false 1], false, none, false⟩
/-- cotterel/bits.Bytes -/
def f56 : AFun := ⟨25, (.seq (.region [⟨some 4, .mv (.con (.imm true 0 [])), none⟩] [])
(.seq (.region [⟨some 7, .mv (.tmp 1), none⟩,
  ⟨some 8, .call 78 [(.tmp 7), (.con (.int .i64 0)), (.con (.int .i64 4))], none⟩,
  ⟨some 9, .mksl [(.int .u8 0)] 1 1 (.tmp 8) (.tmp 8), none⟩,
  ⟨some 5, .mv (.tmp 9), none⟩] [])
(.seq (.seq (.region [⟨some 10, .mv (.tmp 5), none⟩,
   ⟨some 11, .len (.tmp 10), none⟩,
   ⟨some 12, .mv (.con (.int .i64 0)), none⟩] [])
 (.block 0 (.loop (.seq (.region [⟨some 13, .bin .lss (.tmp 12) (.tmp 11), none⟩] [])
   (.seq (.cond (.tmp 13)
     .skip
     (.exit 0))
   (.seq (.block 1 (.seq (.region [⟨some 14, .mv (.tmp 12), none⟩,
       ⟨some 6, .mv (.tmp 14), none⟩] [])
     (.region [⟨some 15, .mv (.tmp 5), none⟩,
      ⟨some 16, .mv (.tmp 6), none⟩,
      ⟨some 17, .mv (.tmp 0), none⟩,
      ⟨some 18, .mv (.tmp 6), none⟩,
      ⟨some 19, .bin .mul (.con (.int .i64 8)) (.tmp 18), none⟩,
      ⟨some 20, .bin .shr (.tmp 17) (.tmp 19), none⟩,
      ⟨some 21, .conv .u8 (.tmp 20), none⟩,
      ⟨some 22, .isl 1 (.tmp 15) (.tmp 16), none⟩,
      ⟨none, .store 1 (.tmp 22) (.tmp 21), none⟩] [])))
   (.region [⟨some 23, .bin .add (.tmp 12) (.con (.int .i64 1)), none⟩,
    ⟨some 12, .mv (.tmp 23), none⟩] [])))))))
(.seq (.region [⟨some 24, .mv (.tmp 5), none⟩,
  ⟨some 4, .mv (.tmp 24), none⟩] [])
.ret)))), [.tmp 4], true, none, false⟩
/-- cotterel/cache.Find -/
def f58 : AFun := ⟨19, (.seq (.region [⟨some 2, .box (.tmp 0), none⟩,
  ⟨some 3, .box (.tmp 1), none⟩,
  ⟨some 4, .mv (.con (.int .i64 0)), none⟩,
  ⟨some 5, .mv (.con (.int .i64 0)), none⟩,
  ⟨some 6, .mv (.con (.bool false)), none⟩] [])
(.seq (.region [⟨some 8, .load false 1 (.tmp 2), none⟩,
  ⟨some 9, .load true 1 (.tmp 3), none⟩,
  ⟨some 10, .call 80 [(.tmp 8), (.tmp 9)], none⟩,
  ⟨some 11, .mkfn 81 [] [(.tmp 3)], none⟩,
  ⟨some 12, .call 79 [(.tmp 10), (.tmp 11)], none⟩,
  ⟨some 7, .mv (.tmp 12), none⟩] [])
(.seq (.seq (.region [⟨some 13, .mv (.tmp 7), none⟩,
   ⟨some 14, .bin .lss (.tmp 13) (.con (.int .i64 0)), none⟩] [])
 (.cond (.tmp 14)
  (.seq (.region [⟨some 4, .mv (.con (.int .i64 0)), none⟩,
    ⟨some 5, .mv (.con (.int .i64 0)), none⟩,
    ⟨some 6, .mv (.con (.bool false)), none⟩] [])
  .ret)
  .skip))
(.seq (.region [⟨some 15, .load false 1 (.tmp 2), none⟩,
  ⟨some 16, .load true 1 (.tmp 3), none⟩,
  ⟨some 17, .call 63 [(.tmp 15), (.tmp 16)], none⟩,
  ⟨some 18, .mv (.tmp 7), none⟩,
  ⟨some 4, .mv (.tmp 17), none⟩,
  ⟨some 5, .mv (.tmp 18), none⟩,
  ⟨some 6, .mv (.con (.bool true)), none⟩] [])
.ret)))), [.tmp 4, .tmp 5, .tmp 6], true, none, false⟩
/-- cotterel/cache.Touch -/
def f59 : AFun := ⟨86, (.seq (.region [⟨some 3, .box (.tmp 0), none⟩,
  ⟨some 6, .alloc [(.imm true 0 [])], none⟩] [])
(.seq (.seq (.region [⟨some 11, .mv (.tmp 1), none⟩,
   ⟨some 12, .bin .lss (.tmp 11) (.con (.int .i64 0)), none⟩,
   ⟨some 13, .mv (.tmp 12), none⟩,
   ⟨some 14, .mv (.tmp 1), some (13, false)⟩,
   ⟨some 15, .faddr (.tmp 3) 0, some (13, false)⟩,
   ⟨some 16, .load true 1 (.tmp 15), some (13, false)⟩,
   ⟨some 17, .len (.tmp 16), some (13, false)⟩,
   ⟨some 18, .bin .geq (.tmp 14) (.tmp 17), some (13, false)⟩,
   ⟨some 19, .pick (.tmp 13) (.con (.bool true)) (.tmp 18), none⟩,
   ⟨some 20, .mv (.tmp 19), none⟩,
   ⟨some 21, .mv (.tmp 2), some (20, false)⟩,
   ⟨some 22, .bin .lss (.tmp 21) (.con (.int .i64 0)), some (20, false)⟩,
   ⟨some 23, .pick (.tmp 20) (.con (.bool true)) (.tmp 22), none⟩,
   ⟨some 24, .mv (.tmp 23), none⟩,
   ⟨some 25, .mv (.tmp 2), some (24, false)⟩,
   ⟨some 26, .faddr (.tmp 3) 0, some (24, false)⟩,
   ⟨some 27, .load true 1 (.tmp 26), some (24, false)⟩,
   ⟨some 28, .mv (.tmp 1), some (24, false)⟩,
   ⟨some 29, .isl 1 (.tmp 27) (.tmp 28), some (24, false)⟩,
   ⟨some 30, .load true 1 (.tmp 29), some (24, false)⟩,
   ⟨some 31, .len (.tmp 30), some (24, false)⟩,
   ⟨some 32, .bin .geq (.tmp 25) (.tmp 31), some (24, false)⟩,
   ⟨some 33, .pick (.tmp 24) (.con (.bool true)) (.tmp 32), none⟩] [])
 (.cond (.tmp 33)
  (.seq (.region [⟨some 34, .load false 1 (.tmp 3), none⟩,
    ⟨none, .store 1 (.tmp 6) (.tmp 34), none⟩] [])
  .ret)
  .skip))
(.seq (.region [⟨some 35, .load false 1 (.tmp 3), none⟩,
  ⟨some 36, .mv (.tmp 1), none⟩,
  ⟨some 37, .call 55 [(.tmp 35), (.tmp 36)], none⟩,
  ⟨some 7, .alloc [(.imm true 0 [])], none⟩,
  ⟨none, .store 1 (.tmp 7) (.tmp 37), none⟩] [])
(.seq (.region [⟨some 38, .faddr (.tmp 7) 0, none⟩,
  ⟨some 39, .load true 1 (.tmp 38), none⟩,
  ⟨some 40, .mv (.tmp 1), none⟩,
  ⟨some 41, .isl 1 (.tmp 39) (.tmp 40), none⟩,
  ⟨some 42, .load true 1 (.tmp 41), none⟩,
  ⟨some 43, .mv (.tmp 2), none⟩,
  ⟨some 44, .isl 19 (.tmp 42) (.tmp 43), none⟩,
  ⟨some 45, .faddr (.tmp 44) 18, none⟩,
  ⟨some 46, .load true 1 (.tmp 45), none⟩,
  ⟨some 8, .mv (.tmp 46), none⟩] [])
(.seq (.seq (.region [⟨some 47, .faddr (.tmp 7) 0, none⟩,
   ⟨some 48, .load true 1 (.tmp 47), none⟩,
   ⟨some 49, .mv (.tmp 1), none⟩,
   ⟨some 50, .isl 1 (.tmp 48) (.tmp 49), none⟩,
   ⟨some 51, .load true 1 (.tmp 50), none⟩,
   ⟨some 52, .len (.tmp 51), none⟩,
   ⟨some 53, .mv (.con (.int .i64 0)), none⟩] [])
 (.block 0 (.loop (.seq (.region [⟨some 54, .bin .lss (.tmp 53) (.tmp 52), none⟩] [])
   (.seq (.cond (.tmp 54)
     .skip
     (.exit 0))
   (.seq (.block 1 (.seq (.region [⟨some 55, .mv (.tmp 53), none⟩,
       ⟨some 9, .mv (.tmp 55), none⟩] [])
     (.seq (.region [⟨some 56, .faddr (.tmp 7) 0, none⟩,
       ⟨some 57, .load true 1 (.tmp 56), none⟩,
       ⟨some 58, .mv (.tmp 1), none⟩,
       ⟨some 59, .isl 1 (.tmp 57) (.tmp 58), none⟩,
       ⟨some 60, .load true 1 (.tmp 59), none⟩,
       ⟨some 61, .mv (.tmp 9), none⟩,
       ⟨some 62, .isl 19 (.tmp 60) (.tmp 61), none⟩,
       ⟨some 10, .mv (.tmp 62), none⟩] [])
     (.seq (.region [⟨some 63, .mv (.tmp 10), none⟩,
       ⟨some 64, .nilchk (.tmp 63), none⟩,
       ⟨some 65, .faddr (.tmp 64) 18, none⟩,
       ⟨some 66, .load true 1 (.tmp 65), none⟩,
       ⟨some 67, .mv (.tmp 8), none⟩,
       ⟨some 68, .bin .lss (.tmp 66) (.tmp 67), none⟩] [])
     (.cond (.tmp 68)
      (.region [⟨some 69, .mv (.tmp 10), none⟩,
       ⟨some 70, .nilchk (.tmp 69), none⟩,
       ⟨some 71, .faddr (.tmp 70) 18, none⟩,
       ⟨some 72, .load true 1 (.tmp 71), none⟩,
       ⟨some 73, .bin .add (.tmp 72) (.con (.int .i64 1)), none⟩,
       ⟨some 74, .nilchk (.tmp 69), none⟩,
       ⟨some 75, .faddr (.tmp 74) 18, none⟩,
       ⟨none, .store 1 (.tmp 75) (.tmp 73), none⟩] [])
      .skip)))))
   (.region [⟨some 76, .bin .add (.tmp 53) (.con (.int .i64 1)), none⟩,
    ⟨some 53, .mv (.tmp 76), none⟩] [])))))))
(.seq (.region [⟨some 77, .faddr (.tmp 7) 0, none⟩,
  ⟨some 78, .load true 1 (.tmp 77), none⟩,
  ⟨some 79, .mv (.tmp 1), none⟩,
  ⟨some 80, .isl 1 (.tmp 78) (.tmp 79), none⟩,
  ⟨some 81, .load true 1 (.tmp 80), none⟩,
  ⟨some 82, .mv (.tmp 2), none⟩,
  ⟨some 83, .isl 19 (.tmp 81) (.tmp 82), none⟩,
  ⟨some 84, .faddr (.tmp 83) 18, none⟩,
  ⟨none, .store 1 (.tmp 84) (.con (.int .i64 0)), none⟩] [])
(.seq (.region [⟨some 85, .load false 1 (.tmp 7), none⟩,
  ⟨none, .store 1 (.tmp 6) (.tmp 85), none⟩] [])
.ret))))))), [.cell 6 false 1], true, none, false⟩
/-- cotterel/bits.Of -/
def f60 : AFun := ⟨26, (.seq (.region [⟨some 2, .mv (.con (.int .u32 0)), none⟩] [])
(.seq (.region [⟨some 3, .mv (.con (.int .u32 0)), none⟩] [])
(.seq (.seq (.region [⟨some 6, .mv (.tmp 0), none⟩,
   ⟨some 7, .mv (.tmp 0), none⟩,
   ⟨some 8, .len (.tmp 7), none⟩,
   ⟨some 9, .mn [(.tmp 8), (.con (.int .i64 4))], none⟩,
   ⟨some 10, .slSl 1 (.tmp 6) none (some (.tmp 9)) none, none⟩,
   ⟨some 11, .len (.tmp 10), none⟩,
   ⟨some 12, .mv (.con (.int .i64 0)), none⟩] [])
 (.block 0 (.loop (.seq (.region [⟨some 13, .bin .lss (.tmp 12) (.tmp 11), none⟩] [])
   (.seq (.cond (.tmp 13)
     .skip
     (.exit 0))
   (.seq (.block 1 (.seq (.region [⟨some 14, .mv (.tmp 12), none⟩,
       ⟨some 15, .isl 1 (.tmp 10) (.tmp 12), none⟩,
       ⟨some 16, .load true 1 (.tmp 15), none⟩,
       ⟨some 4, .mv (.tmp 14), none⟩,
       ⟨some 5, .mv (.tmp 16), none⟩] [])
     (.region [⟨some 17, .mv (.tmp 3), none⟩,
      ⟨some 18, .mv (.tmp 5), none⟩,
      ⟨some 19, .conv .u32 (.tmp 18), none⟩,
      ⟨some 20, .mv (.tmp 4), none⟩,
      ⟨some 21, .bin .mul (.con (.int .i64 8)) (.tmp 20), none⟩,
      ⟨some 22, .bin .shl (.tmp 19) (.tmp 21), none⟩,
      ⟨some 23, .bin .or (.tmp 17) (.tmp 22), none⟩,
      ⟨some 3, .mv (.tmp 23), none⟩] [])))
   (.region [⟨some 24, .bin .add (.tmp 12) (.con (.int .i64 1)), none⟩,
    ⟨some 12, .mv (.tmp 24), none⟩] [])))))))
(.seq (.region [⟨some 25, .mv (.tmp 3), none⟩,
  ⟨some 2, .mv (.tmp 25), none⟩] [])
.ret)))), [.tmp 2], true, none, false⟩
/-- cotterel/cotterelref40.Has -/
def f61 : AFun := ⟨14, (.seq (.region [⟨some 2, .box (.tmp 0), none⟩,
  ⟨some 4, .mv (.con (.bool false)), none⟩] [])
(.seq (.region [⟨some 5, .mv (.tmp 1), none⟩,
  ⟨some 6, .bin .geq (.tmp 5) (.con (.int .i64 0)), none⟩,
  ⟨some 7, .mv (.tmp 6), none⟩,
  ⟨some 8, .mv (.tmp 1), some (7, true)⟩,
  ⟨some 9, .faddr (.tmp 2) 1, some (7, true)⟩,
  ⟨some 10, .load true 1 (.tmp 9), some (7, true)⟩,
  ⟨some 11, .len (.tmp 10), some (7, true)⟩,
  ⟨some 12, .bin .lss (.tmp 8) (.tmp 11), some (7, true)⟩,
  ⟨some 13, .pick (.tmp 7) (.tmp 12) (.con (.bool false)), none⟩,
  ⟨some 4, .mv (.tmp 13), none⟩] [])
.ret)), [.tmp 4], true, none, false⟩
/-- cotterel/cotterelref40.way -/
def f62 : AFun := ⟨26, (.seq (.region [⟨some 2, .box (.tmp 0), none⟩,
  ⟨some 4, .alloc [(.int .i64 0), (.int .u32 0), (.int .u8 0), (.int .u8 0), (.int .u8 0), (.int .u8 0), (.int .u8 0), (.int .u8 0), (.int .u8 0), (.int .u8 0), (.int .u8 0), (.int .u8 0), (.int .u8 0), (.int .u8 0), (.int .u8 0), (.int .u8 0), (.int .u8 0), (.int .u8 0), (.int .i64 0)], none⟩] [])
(.seq (.region [⟨some 9, .load false 1 (.tmp 2), none⟩,
  ⟨some 10, .mv (.tmp 1), none⟩,
  ⟨some 11, .call 82 [(.tmp 9), (.tmp 10)], none⟩,
  ⟨some 8, .mv (.tmp 11), none⟩,
  ⟨some 12, .extract (.tmp 8) 0, none⟩,
  ⟨some 13, .extract (.tmp 8) 1, none⟩,
  ⟨some 14, .extract (.tmp 8) 2, none⟩,
  ⟨some 5, .mv (.tmp 12), none⟩,
  ⟨some 6, .mv (.tmp 13), none⟩,
  ⟨some 7, .mv (.tmp 14), none⟩] [])
(.seq (.seq (.region [⟨some 15, .mv (.tmp 7), none⟩,
   ⟨some 16, .un .not (.tmp 15), none⟩] [])
 (.cond (.tmp 16)
  (.seq (.region [⟨some 17, .build [(.int .i64 0), (.int .u32 0), (.int .u8 0), (.int .u8 0), (.int .u8 0), (.int .u8 0), (.int .u8 0), (.int .u8 0), (.int .u8 0), (.int .u8 0), (.int .u8 0), (.int .u8 0), (.int .u8 0), (.int .u8 0), (.int .u8 0), (.int .u8 0), (.int .u8 0), (.int .u8 0), (.int .i64 0)] [], none⟩,
    ⟨none, .store 19 (.tmp 4) (.tmp 17), none⟩] [])
  .ret)
  .skip))
(.seq (.region [⟨some 18, .faddr (.tmp 2) 0, none⟩,
  ⟨some 19, .load true 1 (.tmp 18), none⟩,
  ⟨some 20, .mv (.tmp 5), none⟩,
  ⟨some 21, .isl 1 (.tmp 19) (.tmp 20), none⟩,
  ⟨some 22, .load true 1 (.tmp 21), none⟩,
  ⟨some 23, .mv (.tmp 6), none⟩,
  ⟨some 24, .isl 19 (.tmp 22) (.tmp 23), none⟩,
  ⟨some 25, .load false 19 (.tmp 24), none⟩,
  ⟨none, .store 19 (.tmp 4) (.tmp 25), none⟩] [])
.ret)))), [.cell 4 false 19], true, none, false⟩
/-- cotterel/cache.setOf -/
def f63 : AFun := ⟨17, (.seq (.region [⟨some 2, .box (.tmp 0), none⟩,
  ⟨some 4, .mv (.con (.int .i64 0)), none⟩] [])
(.seq (.seq (.region [⟨some 5, .faddr (.tmp 2) 0, none⟩,
   ⟨some 6, .load true 1 (.tmp 5), none⟩,
   ⟨some 7, .len (.tmp 6), none⟩,
   ⟨some 8, .bin .eql (.tmp 7) (.con (.int .i64 0)), none⟩] [])
 (.cond (.tmp 8)
  (.seq (.region [⟨some 4, .mv (.con (.int .i64 0)), none⟩] [])
  .ret)
  .skip))
(.seq (.region [⟨some 9, .mv (.tmp 1), none⟩,
  ⟨some 10, .conv .u64 (.tmp 9), none⟩,
  ⟨some 11, .faddr (.tmp 2) 0, none⟩,
  ⟨some 12, .load true 1 (.tmp 11), none⟩,
  ⟨some 13, .len (.tmp 12), none⟩,
  ⟨some 14, .conv .u64 (.tmp 13), none⟩,
  ⟨some 15, .bin .rem (.tmp 10) (.tmp 14), none⟩,
  ⟨some 16, .conv .i64 (.tmp 15), none⟩,
  ⟨some 4, .mv (.tmp 16), none⟩] [])
.ret))), [.tmp 4], true, none, false⟩
/-- slices.ContainsFunc[[]int,int] -/
def f64 : AFun := ⟨9, (.seq (.region [⟨some 4, .mv (.con (.bool false)), none⟩] [])
(.seq (.region [⟨some 5, .mv (.tmp 0), none⟩,
  ⟨some 6, .mv (.tmp 1), none⟩,
  ⟨some 7, .call 83 [(.tmp 5), (.tmp 6)], none⟩,
  ⟨some 8, .bin .geq (.tmp 7) (.con (.int .i64 0)), none⟩,
  ⟨some 4, .mv (.tmp 8), none⟩] [])
.ret)), [.tmp 4], true, none, false⟩
/-- cotterel/mesi.Legal$1 -/
def f65 : AFun := ⟨6, (.seq (.region [⟨some 2, .mv (.con (.bool false)), none⟩] [])
(.seq (.region [⟨some 3, .mv (.tmp 0), none⟩,
  ⟨some 4, .call 66 [(.tmp 3)], none⟩,
  ⟨some 5, .un .not (.tmp 4), none⟩,
  ⟨some 2, .mv (.tmp 5), none⟩] [])
.ret)), [.tmp 2], false, none, false⟩
/-- cotterel/mesi.known -/
def f66 : AFun := ⟨9, (.seq (.region [⟨some 2, .mv (.con (.bool false)), none⟩] [])
(.seq (.region [⟨some 3, .mv (.tmp 0), none⟩,
  ⟨some 4, .bin .geq (.tmp 3) (.con (.int .i64 0)), none⟩,
  ⟨some 5, .mv (.tmp 4), none⟩,
  ⟨some 6, .mv (.tmp 0), some (5, true)⟩,
  ⟨some 7, .bin .leq (.tmp 6) (.con (.int .i64 3)), some (5, true)⟩,
  ⟨some 8, .pick (.tmp 5) (.tmp 7) (.con (.bool false)), none⟩,
  ⟨some 2, .mv (.tmp 8), none⟩] [])
.ret)), [.tmp 2], true, none, false⟩
/-- cotterel/mesi.Ask -/
def f67 : AFun := ⟨28, (.seq (.region [⟨some 4, .mv (.con (.int .i64 0)), none⟩] [])
(.seq (.region [⟨some 5, .mv (.tmp 0), none⟩,
  ⟨some 6, .call 84 [(.tmp 5)], none⟩,
  ⟨some 0, .mv (.tmp 6), none⟩] [])
(.seq (.block 0 (.seq (.region [⟨some 8, .mv (.tmp 1), none⟩,
    ⟨some 9, .bin .eql (.tmp 8) (.con (.int .i64 1)), none⟩,
    ⟨some 10, .mv (.tmp 9), none⟩,
    ⟨some 11, .mv (.tmp 0), some (10, true)⟩,
    ⟨some 12, .bin .eql (.tmp 11) (.con (.int .i64 0)), some (10, true)⟩,
    ⟨some 13, .pick (.tmp 10) (.tmp 12) (.con (.bool false)), none⟩,
    ⟨some 7, .mv (.tmp 13), none⟩] [])
  (.cond (.tmp 7)
   (.seq (.region [⟨some 4, .mv (.con (.int .i64 1)), none⟩] [])
   .ret)
   (.seq (.region [⟨some 15, .mv (.tmp 1), none⟩,
     ⟨some 16, .bin .eql (.tmp 15) (.con (.int .i64 2)), none⟩,
     ⟨some 17, .mv (.tmp 16), none⟩,
     ⟨some 18, .mv (.tmp 0), some (17, true)⟩,
     ⟨some 19, .bin .eql (.tmp 18) (.con (.int .i64 0)), some (17, true)⟩,
     ⟨some 20, .pick (.tmp 17) (.tmp 19) (.con (.bool false)), none⟩,
     ⟨some 14, .mv (.tmp 20), none⟩] [])
   (.cond (.tmp 14)
    (.seq (.region [⟨some 4, .mv (.con (.int .i64 2)), none⟩] [])
    .ret)
    (.seq (.region [⟨some 22, .mv (.tmp 1), none⟩,
      ⟨some 23, .bin .eql (.tmp 22) (.con (.int .i64 2)), none⟩,
      ⟨some 24, .mv (.tmp 23), none⟩,
      ⟨some 25, .mv (.tmp 0), some (24, true)⟩,
      ⟨some 26, .bin .eql (.tmp 25) (.con (.int .i64 1)), some (24, true)⟩,
      ⟨some 27, .pick (.tmp 24) (.tmp 26) (.con (.bool false)), none⟩,
      ⟨some 21, .mv (.tmp 27), none⟩] [])
    (.cond (.tmp 21)
     (.seq (.region [⟨some 4, .mv (.con (.int .i64 3)), none⟩] [])
     .ret)
     .skip)))))))
(.seq (.region [⟨some 4, .mv (.con (.int .i64 0)), none⟩] [])
.ret)))), [.tmp 4], true, none, false⟩
/-- (cotterel/bus.lines).way -/
def f68 : AFun := ⟨48, (.seq (.region [⟨some 2, .box (.tmp 0), none⟩,
  ⟨some 4, .alloc [(.int .i64 0), (.int .u32 0), (.int .u8 0), (.int .u8 0), (.int .u8 0), (.int .u8 0), (.int .u8 0), (.int .u8 0), (.int .u8 0), (.int .u8 0), (.int .u8 0), (.int .u8 0), (.int .u8 0), (.int .u8 0), (.int .u8 0), (.int .u8 0), (.int .u8 0), (.int .u8 0), (.int .i64 0)], none⟩] [])
(.seq (.seq (.region [⟨some 8, .mv (.tmp 1), none⟩,
   ⟨some 9, .bin .lss (.tmp 8) (.con (.int .i64 0)), none⟩,
   ⟨some 10, .mv (.tmp 9), none⟩,
   ⟨some 11, .mv (.tmp 1), some (10, false)⟩,
   ⟨some 12, .faddr (.tmp 2) 0, some (10, false)⟩,
   ⟨some 13, .faddr (.tmp 12) 1, some (10, false)⟩,
   ⟨some 14, .load true 1 (.tmp 13), some (10, false)⟩,
   ⟨some 15, .len (.tmp 14), some (10, false)⟩,
   ⟨some 16, .bin .geq (.tmp 11) (.tmp 15), some (10, false)⟩,
   ⟨some 17, .pick (.tmp 10) (.con (.bool true)) (.tmp 16), none⟩] [])
 (.cond (.tmp 17)
  (.seq (.region [⟨some 18, .build [(.int .i64 0), (.int .u32 0), (.int .u8 0), (.int .u8 0), (.int .u8 0), (.int .u8 0), (.int .u8 0), (.int .u8 0), (.int .u8 0), (.int .u8 0), (.int .u8 0), (.int .u8 0), (.int .u8 0), (.int .u8 0), (.int .u8 0), (.int .u8 0), (.int .u8 0), (.int .u8 0), (.int .i64 0)] [], none⟩,
    ⟨none, .store 19 (.tmp 4) (.tmp 18), none⟩] [])
  .ret)
  .skip))
(.seq (.region [⟨some 20, .faddr (.tmp 2) 0, none⟩,
  ⟨some 21, .faddr (.tmp 20) 1, none⟩,
  ⟨some 22, .load true 1 (.tmp 21), none⟩,
  ⟨some 23, .mv (.tmp 1), none⟩,
  ⟨some 24, .isl 1 (.tmp 22) (.tmp 23), none⟩,
  ⟨some 25, .load false 1 (.tmp 24), none⟩,
  ⟨some 26, .faddr (.tmp 2) 2, none⟩,
  ⟨some 27, .load true 1 (.tmp 26), none⟩,
  ⟨some 28, .call 58 [(.tmp 25), (.tmp 27)], none⟩,
  ⟨some 19, .mv (.tmp 28), none⟩,
  ⟨some 29, .extract (.tmp 19) 0, none⟩,
  ⟨some 30, .extract (.tmp 19) 1, none⟩,
  ⟨some 31, .extract (.tmp 19) 2, none⟩,
  ⟨some 5, .mv (.tmp 29), none⟩,
  ⟨some 6, .mv (.tmp 30), none⟩,
  ⟨some 7, .mv (.tmp 31), none⟩] [])
(.seq (.seq (.region [⟨some 32, .mv (.tmp 7), none⟩,
   ⟨some 33, .un .not (.tmp 32), none⟩] [])
 (.cond (.tmp 33)
  (.seq (.region [⟨some 34, .build [(.int .i64 0), (.int .u32 0), (.int .u8 0), (.int .u8 0), (.int .u8 0), (.int .u8 0), (.int .u8 0), (.int .u8 0), (.int .u8 0), (.int .u8 0), (.int .u8 0), (.int .u8 0), (.int .u8 0), (.int .u8 0), (.int .u8 0), (.int .u8 0), (.int .u8 0), (.int .u8 0), (.int .i64 0)] [], none⟩,
    ⟨none, .store 19 (.tmp 4) (.tmp 34), none⟩] [])
  .ret)
  .skip))
(.seq (.region [⟨some 35, .faddr (.tmp 2) 0, none⟩,
  ⟨some 36, .faddr (.tmp 35) 1, none⟩,
  ⟨some 37, .load true 1 (.tmp 36), none⟩,
  ⟨some 38, .mv (.tmp 1), none⟩,
  ⟨some 39, .isl 1 (.tmp 37) (.tmp 38), none⟩,
  ⟨some 40, .faddr (.tmp 39) 0, none⟩,
  ⟨some 41, .load true 1 (.tmp 40), none⟩,
  ⟨some 42, .mv (.tmp 5), none⟩,
  ⟨some 43, .isl 1 (.tmp 41) (.tmp 42), none⟩,
  ⟨some 44, .load true 1 (.tmp 43), none⟩,
  ⟨some 45, .mv (.tmp 6), none⟩,
  ⟨some 46, .isl 19 (.tmp 44) (.tmp 45), none⟩,
  ⟨some 47, .load false 19 (.tmp 46), none⟩,
  ⟨none, .store 19 (.tmp 4) (.tmp 47), none⟩] [])
.ret))))), [.cell 4 false 19], true, none, false⟩
/-- cotterel/bus.lies -/
def f69 : AFun := ⟨14, (.seq (.region [⟨some 2, .box (.tmp 0), none⟩,
  ⟨some 4, .mv (.con (.bool false)), none⟩] [])
(.seq (.region [⟨some 5, .mv (.tmp 1), none⟩,
  ⟨some 6, .conv .u64 (.tmp 5), none⟩,
  ⟨some 7, .bin .add (.tmp 6) (.con (.int .u64 1)), none⟩,
  ⟨some 8, .bin .mul (.tmp 7) (.con (.int .u64 16)), none⟩,
  ⟨some 9, .faddr (.tmp 2) 0, none⟩,
  ⟨some 10, .load true 1 (.tmp 9), none⟩,
  ⟨some 11, .len (.tmp 10), none⟩,
  ⟨some 12, .conv .u64 (.tmp 11), none⟩,
  ⟨some 13, .bin .leq (.tmp 8) (.tmp 12), none⟩,
  ⟨some 4, .mv (.tmp 13), none⟩] [])
.ret)), [.tmp 4], true, none, false⟩
/-- cotterel/mesi.Snoop -/
def f70 : AFun := ⟨22, (.seq (.region [⟨some 4, .mv (.con (.int .i64 0)), none⟩,
  ⟨some 5, .mv (.con (.bool false)), none⟩] [])
(.seq (.region [⟨some 7, .mv (.tmp 0), none⟩,
  ⟨some 8, .call 84 [(.tmp 7)], none⟩,
  ⟨some 0, .mv (.tmp 8), none⟩] [])
(.seq (.region [⟨some 9, .mv (.tmp 0), none⟩,
  ⟨some 10, .bin .eql (.tmp 9) (.con (.int .i64 3)), none⟩,
  ⟨some 6, .mv (.tmp 10), none⟩] [])
(.seq (.seq (.region [⟨some 11, .mv (.tmp 1), none⟩] [])
 (.block 0 (.seq (.region [⟨some 13, .bin .eql (.tmp 11) (.con (.int .i64 1)), none⟩,
    ⟨some 12, .mv (.tmp 13), none⟩] [])
  (.cond (.tmp 12)
   (.seq (.region [⟨some 14, .mv (.tmp 0), none⟩,
     ⟨some 15, .mn [(.tmp 14), (.con (.int .i64 1))], none⟩,
     ⟨some 16, .mv (.tmp 6), none⟩,
     ⟨some 4, .mv (.tmp 15), none⟩,
     ⟨some 5, .mv (.tmp 16), none⟩] [])
   .ret)
   (.seq (.seq (.region [⟨some 18, .bin .eql (.tmp 11) (.con (.int .i64 2)), none⟩,
      ⟨some 17, .mv (.tmp 18), none⟩] [])
    (.cond (.tmp 17)
     .skip
     (.region [⟨some 19, .bin .eql (.tmp 11) (.con (.int .i64 3)), none⟩,
      ⟨some 17, .mv (.tmp 19), none⟩] [])))
   (.cond (.tmp 17)
    (.seq (.region [⟨some 20, .mv (.tmp 6), none⟩,
      ⟨some 4, .mv (.con (.int .i64 0)), none⟩,
      ⟨some 5, .mv (.tmp 20), none⟩] [])
    .ret)
    .skip))))))
(.seq (.region [⟨some 21, .mv (.tmp 0), none⟩,
  ⟨some 4, .mv (.tmp 21), none⟩,
  ⟨some 5, .mv (.con (.bool false)), none⟩] [])
.ret))))), [.tmp 4, .tmp 5], true, none, false⟩
/-- cotterel/bus.Back -/
def f71 : AFun := ⟨33, (.seq (.region [⟨some 3, .box (.tmp 0), none⟩,
  ⟨some 5, .box (.tmp 2), none⟩,
  ⟨some 6, .alloc [(.imm true 0 []), (.imm true 0 [])], none⟩] [])
(.seq (.seq (.region [⟨some 7, .faddr (.tmp 5) 0, none⟩,
   ⟨some 8, .load true 1 (.tmp 7), none⟩,
   ⟨some 9, .bin .neq (.tmp 8) (.con (.int .i64 3)), none⟩,
   ⟨some 10, .mv (.tmp 9), none⟩,
   ⟨some 11, .load false 2 (.tmp 3), some (10, false)⟩,
   ⟨some 12, .faddr (.tmp 5) 1, some (10, false)⟩,
   ⟨some 13, .load true 1 (.tmp 12), some (10, false)⟩,
   ⟨some 14, .call 69 [(.tmp 11), (.tmp 13)], some (10, false)⟩,
   ⟨some 15, .un .not (.tmp 14), some (10, false)⟩,
   ⟨some 16, .pick (.tmp 10) (.con (.bool true)) (.tmp 15), none⟩] [])
 (.cond (.tmp 16)
  (.seq (.region [⟨some 17, .load false 2 (.tmp 3), none⟩,
    ⟨none, .store 2 (.tmp 6) (.tmp 17), none⟩] [])
  .ret)
  .skip))
(.seq (.region [⟨some 18, .faddr (.tmp 3) 0, none⟩,
  ⟨some 19, .load true 1 (.tmp 18), none⟩,
  ⟨some 20, .append 1 1 (.con (.imm true 0 [])) (.tmp 19), none⟩,
  ⟨some 21, .faddr (.tmp 3) 0, none⟩,
  ⟨none, .store 1 (.tmp 21) (.tmp 20), none⟩] [])
(.seq (.region [⟨some 22, .faddr (.tmp 3) 0, none⟩,
  ⟨some 23, .load true 1 (.tmp 22), none⟩,
  ⟨some 24, .faddr (.tmp 5) 1, none⟩,
  ⟨some 25, .load true 1 (.tmp 24), none⟩,
  ⟨some 26, .conv .i64 (.tmp 25), none⟩,
  ⟨some 27, .bin .mul (.tmp 26) (.con (.int .i64 16)), none⟩,
  ⟨some 28, .slSl 1 (.tmp 23) (some (.tmp 27)) none none, none⟩,
  ⟨some 29, .faddr (.tmp 5) 2, none⟩,
  ⟨some 30, .slArr 16 1 (.tmp 29) none none none, none⟩,
  ⟨some 31, .copy 1 (.tmp 28) (.tmp 30), none⟩] [])
(.seq (.region [⟨some 32, .load false 2 (.tmp 3), none⟩,
  ⟨none, .store 2 (.tmp 6) (.tmp 32), none⟩] [])
.ret))))), [.cell 6 false 2], false, none, true⟩
/-- cotterel/cache.Set -/
def f72 : AFun := ⟨54, (.seq (.region [⟨some 3, .box (.tmp 0), none⟩,
  ⟨some 6, .alloc [(.imm true 0 [])], none⟩] [])
(.seq (.region [⟨some 13, .load false 1 (.tmp 3), none⟩,
  ⟨some 14, .mv (.tmp 1), none⟩,
  ⟨some 15, .call 58 [(.tmp 13), (.tmp 14)], none⟩,
  ⟨some 12, .mv (.tmp 15), none⟩,
  ⟨some 16, .extract (.tmp 12) 0, none⟩,
  ⟨some 17, .extract (.tmp 12) 1, none⟩,
  ⟨some 18, .extract (.tmp 12) 2, none⟩,
  ⟨some 7, .mv (.tmp 16), none⟩,
  ⟨some 8, .mv (.tmp 17), none⟩,
  ⟨some 9, .mv (.tmp 18), none⟩] [])
(.seq (.seq (.region [⟨some 19, .mv (.tmp 9), none⟩,
   ⟨some 20, .un .not (.tmp 19), none⟩,
   ⟨some 21, .mv (.tmp 20), none⟩,
   ⟨some 22, .mv (.tmp 2), some (21, false)⟩,
   ⟨some 23, .bin .lss (.tmp 22) (.con (.int .i64 0)), some (21, false)⟩,
   ⟨some 24, .pick (.tmp 21) (.con (.bool true)) (.tmp 23), none⟩,
   ⟨some 25, .mv (.tmp 24), none⟩,
   ⟨some 26, .mv (.tmp 2), some (25, false)⟩,
   ⟨some 27, .bin .gtr (.tmp 26) (.con (.int .i64 3)), some (25, false)⟩,
   ⟨some 28, .pick (.tmp 25) (.con (.bool true)) (.tmp 27), none⟩] [])
 (.cond (.tmp 28)
  (.seq (.region [⟨some 29, .load false 1 (.tmp 3), none⟩,
    ⟨none, .store 1 (.tmp 6) (.tmp 29), none⟩] [])
  .ret)
  .skip))
(.seq (.region [⟨some 30, .load false 1 (.tmp 3), none⟩,
  ⟨some 31, .mv (.tmp 7), none⟩,
  ⟨some 32, .call 55 [(.tmp 30), (.tmp 31)], none⟩,
  ⟨some 10, .alloc [(.imm true 0 [])], none⟩,
  ⟨none, .store 1 (.tmp 10) (.tmp 32), none⟩] [])
(.seq (.region [⟨some 33, .faddr (.tmp 10) 0, none⟩,
  ⟨some 34, .load true 1 (.tmp 33), none⟩,
  ⟨some 35, .mv (.tmp 7), none⟩,
  ⟨some 36, .isl 1 (.tmp 34) (.tmp 35), none⟩,
  ⟨some 37, .load true 1 (.tmp 36), none⟩,
  ⟨some 38, .mv (.tmp 8), none⟩,
  ⟨some 39, .isl 19 (.tmp 37) (.tmp 38), none⟩,
  ⟨some 11, .mv (.tmp 39), none⟩] [])
(.seq (.region [⟨some 40, .mv (.tmp 11), none⟩,
  ⟨some 41, .mv (.tmp 2), none⟩,
  ⟨some 42, .nilchk (.tmp 40), none⟩,
  ⟨some 43, .faddr (.tmp 42) 0, none⟩,
  ⟨none, .store 1 (.tmp 43) (.tmp 41), none⟩] [])
(.seq (.seq (.region [⟨some 44, .mv (.tmp 2), none⟩,
   ⟨some 45, .bin .eql (.tmp 44) (.con (.int .i64 0)), none⟩] [])
 (.cond (.tmp 45)
  (.region [⟨some 46, .mv (.tmp 11), none⟩,
   ⟨some 47, .mv (.tmp 11), none⟩,
   ⟨some 48, .nilchk (.tmp 47), none⟩,
   ⟨some 49, .faddr (.tmp 48) 18, none⟩,
   ⟨some 50, .load true 1 (.tmp 49), none⟩,
   ⟨some 51, .build [(.int .i64 0), (.int .u32 0), (.int .u8 0), (.int .u8 0), (.int .u8 0), (.int .u8 0), (.int .u8 0), (.int .u8 0), (.int .u8 0), (.int .u8 0), (.int .u8 0), (.int .u8 0), (.int .u8 0), (.int .u8 0), (.int .u8 0), (.int .u8 0), (.int .u8 0), (.int .u8 0), (.int .i64 0)] [(18, 1, (.tmp 50))], none⟩,
   ⟨some 52, .nilchk (.tmp 46), none⟩,
   ⟨none, .store 19 (.tmp 52) (.tmp 51), none⟩] [])
  .skip))
(.seq (.region [⟨some 53, .load false 1 (.tmp 10), none⟩,
  ⟨none, .store 1 (.tmp 6) (.tmp 53), none⟩] [])
.ret)))))))), [.cell 6 false 1], true, none, false⟩
/-- cotterel/mesi.Got -/
def f73 : AFun := ⟨17, (.seq (.region [⟨some 4, .mv (.con (.int .i64 0)), none⟩] [])
(.seq (.block 0 (.seq (.region [⟨some 6, .mv (.tmp 0), none⟩,
    ⟨some 7, .bin .eql (.tmp 6) (.con (.int .i64 2)), none⟩,
    ⟨some 8, .mv (.tmp 7), none⟩,
    ⟨some 9, .mv (.tmp 0), some (8, false)⟩,
    ⟨some 10, .bin .eql (.tmp 9) (.con (.int .i64 3)), some (8, false)⟩,
    ⟨some 11, .pick (.tmp 8) (.con (.bool true)) (.tmp 10), none⟩,
    ⟨some 5, .mv (.tmp 11), none⟩] [])
  (.cond (.tmp 5)
   (.seq (.region [⟨some 4, .mv (.con (.int .i64 3)), none⟩] [])
   .ret)
   (.seq (.region [⟨some 13, .mv (.tmp 0), none⟩,
     ⟨some 14, .bin .neq (.tmp 13) (.con (.int .i64 1)), none⟩,
     ⟨some 12, .mv (.tmp 14), none⟩] [])
   (.cond (.tmp 12)
    (.seq (.region [⟨some 4, .mv (.con (.int .i64 0)), none⟩] [])
    .ret)
    (.seq (.region [⟨some 16, .mv (.tmp 1), none⟩,
      ⟨some 15, .mv (.tmp 16), none⟩] [])
    (.cond (.tmp 15)
     (.seq (.region [⟨some 4, .mv (.con (.int .i64 1)), none⟩] [])
     .ret)
     .skip)))))))
(.seq (.region [⟨some 4, .mv (.con (.int .i64 2)), none⟩] [])
.ret))), [.tmp 4], true, none, false⟩
/-- cotterel/bus.Shared -/
def f74 : AFun := ⟨30, (.seq (.region [⟨some 3, .box (.tmp 0), none⟩,
  ⟨some 6, .mv (.con (.bool false)), none⟩] [])
(.seq (.region [⟨some 9, .load false 2 (.tmp 3), none⟩,
  ⟨some 10, .mv (.tmp 2), none⟩,
  ⟨some 11, .build [(.imm true 0 []), (.imm true 0 []), (.int .u32 0)] [(0, 2, (.tmp 9)), (2, 1, (.tmp 10))], none⟩,
  ⟨some 12, .mkfn 68 [(.tmp 11)] [], none⟩,
  ⟨some 7, .mv (.tmp 12), none⟩] [])
(.seq (.seq (.region [⟨some 13, .faddr (.tmp 3) 1, none⟩,
   ⟨some 14, .load true 1 (.tmp 13), none⟩,
   ⟨some 15, .len (.tmp 14), none⟩,
   ⟨some 16, .mv (.con (.int .i64 0)), none⟩] [])
 (.block 0 (.loop (.seq (.region [⟨some 17, .bin .lss (.tmp 16) (.tmp 15), none⟩] [])
   (.seq (.cond (.tmp 17)
     .skip
     (.exit 0))
   (.seq (.block 1 (.seq (.region [⟨some 18, .mv (.tmp 16), none⟩,
       ⟨some 8, .mv (.tmp 18), none⟩] [])
     (.seq (.region [⟨some 19, .mv (.tmp 8), none⟩,
       ⟨some 20, .mv (.tmp 1), none⟩,
       ⟨some 21, .bin .neq (.tmp 19) (.tmp 20), none⟩,
       ⟨some 22, .mv (.tmp 21), none⟩,
       ⟨some 23, .mv (.tmp 7), some (22, true)⟩,
       ⟨some 24, .mv (.tmp 8), some (22, true)⟩,
       ⟨some 25, .callv (.tmp 23) [(.tmp 24)], some (22, true)⟩,
       ⟨some 26, .field true 0 1 (.tmp 25), some (22, true)⟩,
       ⟨some 27, .bin .neq (.tmp 26) (.con (.int .i64 0)), some (22, true)⟩,
       ⟨some 28, .pick (.tmp 22) (.tmp 27) (.con (.bool false)), none⟩] [])
     (.cond (.tmp 28)
      (.seq (.region [⟨some 6, .mv (.con (.bool true)), none⟩] [])
      .ret)
      .skip))))
   (.region [⟨some 29, .bin .add (.tmp 16) (.con (.int .i64 1)), none⟩,
    ⟨some 16, .mv (.tmp 29), none⟩] [])))))))
(.seq (.region [⟨some 6, .mv (.con (.bool false)), none⟩] [])
.ret)))), [.tmp 6], true, none, false⟩
/-- cotterel/cache.Fill -/
def f75 : AFun := ⟨76, (.seq (.region [⟨some 4, .box (.tmp 0), none⟩,
  ⟨some 7, .box (.tmp 3), none⟩,
  ⟨some 8, .alloc [(.imm true 0 [])], none⟩,
  ⟨some 9, .alloc [(.int .i64 0), (.int .u32 0), (.int .u8 0), (.int .u8 0), (.int .u8 0), (.int .u8 0), (.int .u8 0), (.int .u8 0), (.int .u8 0), (.int .u8 0), (.int .u8 0), (.int .u8 0), (.int .u8 0), (.int .u8 0), (.int .u8 0), (.int .u8 0), (.int .u8 0), (.int .u8 0), (.int .i64 0)], none⟩] [])
(.seq (.seq (.region [⟨some 15, .mv (.tmp 2), none⟩,
   ⟨some 16, .bin .lss (.tmp 15) (.con (.int .i64 1)), none⟩,
   ⟨some 17, .mv (.tmp 16), none⟩,
   ⟨some 18, .mv (.tmp 2), some (17, false)⟩,
   ⟨some 19, .bin .gtr (.tmp 18) (.con (.int .i64 3)), some (17, false)⟩,
   ⟨some 20, .pick (.tmp 17) (.con (.bool true)) (.tmp 19), none⟩,
   ⟨some 21, .mv (.tmp 20), none⟩,
   ⟨some 22, .load false 1 (.tmp 4), some (21, false)⟩,
   ⟨some 23, .mv (.tmp 1), some (21, false)⟩,
   ⟨some 24, .call 80 [(.tmp 22), (.tmp 23)], some (21, false)⟩,
   ⟨some 25, .len (.tmp 24), some (21, false)⟩,
   ⟨some 26, .bin .eql (.tmp 25) (.con (.int .i64 0)), some (21, false)⟩,
   ⟨some 27, .pick (.tmp 21) (.con (.bool true)) (.tmp 26), none⟩] [])
 (.cond (.tmp 27)
  (.seq (.region [⟨some 28, .load false 1 (.tmp 4), none⟩,
    ⟨some 29, .build [(.int .i64 0), (.int .u32 0), (.int .u8 0), (.int .u8 0), (.int .u8 0), (.int .u8 0), (.int .u8 0), (.int .u8 0), (.int .u8 0), (.int .u8 0), (.int .u8 0), (.int .u8 0), (.int .u8 0), (.int .u8 0), (.int .u8 0), (.int .u8 0), (.int .u8 0), (.int .u8 0), (.int .i64 0)] [], none⟩,
    ⟨none, .store 1 (.tmp 8) (.tmp 28), none⟩,
    ⟨none, .store 19 (.tmp 9) (.tmp 29), none⟩] [])
  .ret)
  .skip))
(.seq (.region [⟨some 31, .load false 1 (.tmp 4), none⟩,
  ⟨some 32, .mv (.tmp 1), none⟩,
  ⟨some 33, .call 85 [(.tmp 31), (.tmp 32)], none⟩,
  ⟨some 30, .mv (.tmp 33), none⟩,
  ⟨some 34, .extract (.tmp 30) 0, none⟩,
  ⟨some 35, .extract (.tmp 30) 1, none⟩,
  ⟨some 10, .mv (.tmp 34), none⟩,
  ⟨some 11, .mv (.tmp 35), none⟩] [])
(.seq (.region [⟨some 36, .load false 1 (.tmp 4), none⟩,
  ⟨some 37, .mv (.tmp 10), none⟩,
  ⟨some 38, .call 55 [(.tmp 36), (.tmp 37)], none⟩,
  ⟨some 12, .alloc [(.imm true 0 [])], none⟩,
  ⟨none, .store 1 (.tmp 12) (.tmp 38), none⟩] [])
(.seq (.region [⟨some 39, .faddr (.tmp 12) 0, none⟩,
  ⟨some 40, .load true 1 (.tmp 39), none⟩,
  ⟨some 41, .mv (.tmp 10), none⟩,
  ⟨some 42, .isl 1 (.tmp 40) (.tmp 41), none⟩,
  ⟨some 43, .load true 1 (.tmp 42), none⟩,
  ⟨some 44, .mv (.tmp 11), none⟩,
  ⟨some 45, .isl 19 (.tmp 43) (.tmp 44), none⟩,
  ⟨some 13, .mv (.tmp 45), none⟩] [])
(.seq (.region [⟨some 46, .mv (.tmp 13), none⟩,
  ⟨some 47, .nilchk (.tmp 46), none⟩,
  ⟨some 48, .load false 19 (.tmp 47), none⟩,
  ⟨some 14, .alloc [(.int .i64 0), (.int .u32 0), (.int .u8 0), (.int .u8 0), (.int .u8 0), (.int .u8 0), (.int .u8 0), (.int .u8 0), (.int .u8 0), (.int .u8 0), (.int .u8 0), (.int .u8 0), (.int .u8 0), (.int .u8 0), (.int .u8 0), (.int .u8 0), (.int .u8 0), (.int .u8 0), (.int .i64 0)], none⟩,
  ⟨none, .store 19 (.tmp 14) (.tmp 48), none⟩] [])
(.seq (.seq (.region [⟨some 49, .faddr (.tmp 14) 0, none⟩,
   ⟨some 50, .load true 1 (.tmp 49), none⟩,
   ⟨some 51, .bin .eql (.tmp 50) (.con (.int .i64 0)), none⟩,
   ⟨some 52, .mv (.tmp 51), none⟩,
   ⟨some 53, .faddr (.tmp 14) 1, some (52, false)⟩,
   ⟨some 54, .load true 1 (.tmp 53), some (52, false)⟩,
   ⟨some 55, .mv (.tmp 1), some (52, false)⟩,
   ⟨some 56, .bin .eql (.tmp 54) (.tmp 55), some (52, false)⟩,
   ⟨some 57, .pick (.tmp 52) (.con (.bool true)) (.tmp 56), none⟩] [])
 (.cond (.tmp 57)
  (.region [⟨some 58, .build [(.int .i64 0), (.int .u32 0), (.int .u8 0), (.int .u8 0), (.int .u8 0), (.int .u8 0), (.int .u8 0), (.int .u8 0), (.int .u8 0), (.int .u8 0), (.int .u8 0), (.int .u8 0), (.int .u8 0), (.int .u8 0), (.int .u8 0), (.int .u8 0), (.int .u8 0), (.int .u8 0), (.int .i64 0)] [], none⟩,
   ⟨none, .store 19 (.tmp 14) (.tmp 58), none⟩] [])
  .skip))
(.seq (.region [⟨some 59, .mv (.tmp 13), none⟩,
  ⟨some 60, .mv (.tmp 13), none⟩,
  ⟨some 61, .mv (.tmp 13), none⟩,
  ⟨some 62, .mv (.tmp 2), none⟩,
  ⟨some 63, .mv (.tmp 1), none⟩,
  ⟨some 64, .load false 16 (.tmp 7), none⟩,
  ⟨some 65, .nilchk (.tmp 59), none⟩,
  ⟨some 66, .faddr (.tmp 65) 0, none⟩,
  ⟨none, .store 1 (.tmp 66) (.tmp 62), none⟩,
  ⟨some 67, .nilchk (.tmp 60), none⟩,
  ⟨some 68, .faddr (.tmp 67) 1, none⟩,
  ⟨none, .store 1 (.tmp 68) (.tmp 63), none⟩,
  ⟨some 69, .nilchk (.tmp 61), none⟩,
  ⟨some 70, .faddr (.tmp 69) 2, none⟩,
  ⟨none, .store 16 (.tmp 70) (.tmp 64), none⟩] [(5, 8), (5, 11)])
(.seq (.region [⟨some 71, .load false 1 (.tmp 12), none⟩,
  ⟨some 72, .mv (.tmp 10), none⟩,
  ⟨some 73, .mv (.tmp 11), none⟩,
  ⟨some 74, .call 59 [(.tmp 71), (.tmp 72), (.tmp 73)], none⟩,
  ⟨some 75, .load false 19 (.tmp 14), none⟩,
  ⟨none, .store 1 (.tmp 8) (.tmp 74), none⟩,
  ⟨none, .store 19 (.tmp 9) (.tmp 75), none⟩] [(3, 4), (4, 5)])
.ret))))))))), [.cell 8 false 1, .cell 9 false 19], true, none, false⟩
/-- cotterel/bits.clamp -/
def f78 : AFun := ⟨12, (.seq (.region [⟨some 6, .mv (.con (.int .i64 0)), none⟩] [])
(.seq (.region [⟨some 7, .mv (.tmp 0), none⟩,
  ⟨some 8, .mv (.tmp 1), none⟩,
  ⟨some 9, .mx [(.tmp 7), (.tmp 8)], none⟩,
  ⟨some 10, .mv (.tmp 2), none⟩,
  ⟨some 11, .mn [(.tmp 9), (.tmp 10)], none⟩,
  ⟨some 6, .mv (.tmp 11), none⟩] [])
.ret)), [.tmp 6], true, none, false⟩
/-- slices.IndexFunc[[]cotterel/api.Way,cotterel/api.Way] -/
def f79 : AFun := ⟨19, (.seq (.region [⟨some 4, .mv (.con (.int .i64 0)), none⟩] [])
(.seq (.seq (.region [⟨some 6, .mv (.tmp 0), none⟩,
   ⟨some 7, .len (.tmp 6), none⟩,
   ⟨some 8, .mv (.con (.int .i64 0)), none⟩] [])
 (.block 0 (.loop (.seq (.region [⟨some 9, .bin .lss (.tmp 8) (.tmp 7), none⟩] [])
   (.seq (.cond (.tmp 9)
     .skip
     (.exit 0))
   (.seq (.block 1 (.seq (.region [⟨some 10, .mv (.tmp 8), none⟩,
       ⟨some 5, .mv (.tmp 10), none⟩] [])
     (.seq (.region [⟨some 11, .mv (.tmp 1), none⟩,
       ⟨some 12, .mv (.tmp 0), none⟩,
       ⟨some 13, .mv (.tmp 5), none⟩,
       ⟨some 14, .isl 19 (.tmp 12) (.tmp 13), none⟩,
       ⟨some 15, .load false 19 (.tmp 14), none⟩,
       ⟨some 16, .callv (.tmp 11) [(.tmp 15)], none⟩] [])
     (.cond (.tmp 16)
      (.seq (.region [⟨some 17, .mv (.tmp 5), none⟩,
        ⟨some 4, .mv (.tmp 17), none⟩] [])
      .ret)
      .skip))))
   (.region [⟨some 18, .bin .add (.tmp 8) (.con (.int .i64 1)), none⟩,
    ⟨some 8, .mv (.tmp 18), none⟩] [])))))))
(.seq (.region [⟨some 4, .mv (.con (.int .i64 (-1))), none⟩] [])
.ret))), [.tmp 4], false, none, false⟩
/-- cotterel/cache.ways -/
def f80 : AFun := ⟨16, (.seq (.region [⟨some 2, .box (.tmp 0), none⟩,
  ⟨some 4, .mv (.con (.imm true 0 [])), none⟩] [])
(.seq (.seq (.region [⟨some 5, .faddr (.tmp 2) 0, none⟩,
   ⟨some 6, .load true 1 (.tmp 5), none⟩,
   ⟨some 7, .len (.tmp 6), none⟩,
   ⟨some 8, .bin .eql (.tmp 7) (.con (.int .i64 0)), none⟩] [])
 (.cond (.tmp 8)
  (.seq (.region [⟨some 4, .mv (.con (.imm true 0 [])), none⟩] [])
  .ret)
  .skip))
(.seq (.region [⟨some 9, .faddr (.tmp 2) 0, none⟩,
  ⟨some 10, .load true 1 (.tmp 9), none⟩,
  ⟨some 11, .load false 1 (.tmp 2), none⟩,
  ⟨some 12, .mv (.tmp 1), none⟩,
  ⟨some 13, .call 63 [(.tmp 11), (.tmp 12)], none⟩,
  ⟨some 14, .isl 1 (.tmp 10) (.tmp 13), none⟩,
  ⟨some 15, .load true 1 (.tmp 14), none⟩,
  ⟨some 4, .mv (.tmp 15), none⟩] [(1, 4)])
.ret))), [.tmp 4], true, none, false⟩
/-- cotterel/cache.Find$1 -/
def f81 : AFun := ⟨13, (.seq (.region [⟨some 2, .box (.tmp 0), none⟩,
  ⟨some 3, .mv (.con (.bool false)), none⟩] [])
(.seq (.region [⟨some 4, .faddr (.tmp 2) 1, none⟩,
  ⟨some 5, .load true 1 (.tmp 4), none⟩,
  ⟨some 6, .load true 1 (.tmp 1), none⟩,
  ⟨some 7, .bin .eql (.tmp 5) (.tmp 6), none⟩,
  ⟨some 8, .mv (.tmp 7), none⟩,
  ⟨some 9, .faddr (.tmp 2) 0, some (8, true)⟩,
  ⟨some 10, .load true 1 (.tmp 9), some (8, true)⟩,
  ⟨some 11, .bin .neq (.tmp 10) (.con (.int .i64 0)), some (8, true)⟩,
  ⟨some 12, .pick (.tmp 8) (.tmp 11) (.con (.bool false)), none⟩,
  ⟨some 3, .mv (.tmp 12), none⟩] [])
.ret)), [.tmp 3], false, none, false⟩
/-- cotterel/cotterelref39.Find -/
def f82 : AFun := ⟨49, (.seq (.region [⟨some 2, .box (.tmp 0), none⟩,
  ⟨some 4, .mv (.con (.int .i64 0)), none⟩,
  ⟨some 5, .mv (.con (.int .i64 0)), none⟩,
  ⟨some 6, .mv (.con (.bool false)), none⟩] [])
(.seq (.region [⟨some 9, .load false 1 (.tmp 2), none⟩,
  ⟨some 10, .mv (.tmp 1), none⟩,
  ⟨some 11, .call 86 [(.tmp 9), (.tmp 10)], none⟩,
  ⟨some 7, .mv (.tmp 11), none⟩] [])
(.seq (.seq (.region [⟨some 12, .mv (.tmp 7), none⟩,
   ⟨some 13, .bin .lss (.tmp 12) (.con (.int .i64 0)), none⟩] [])
 (.cond (.tmp 13)
  (.seq (.region [⟨some 4, .mv (.con (.int .i64 0)), none⟩,
    ⟨some 5, .mv (.con (.int .i64 0)), none⟩,
    ⟨some 6, .mv (.con (.bool false)), none⟩] [])
  .ret)
  .skip))
(.seq (.seq (.region [⟨some 8, .mv (.con (.int .i64 0)), none⟩] [])
 (.block 0 (.loop (.seq (.seq (.region [⟨some 14, .mv (.tmp 8), none⟩,
      ⟨some 15, .faddr (.tmp 2) 0, none⟩,
      ⟨some 16, .load true 1 (.tmp 15), none⟩,
      ⟨some 17, .mv (.tmp 7), none⟩,
      ⟨some 18, .isl 1 (.tmp 16) (.tmp 17), none⟩,
      ⟨some 19, .load true 1 (.tmp 18), none⟩,
      ⟨some 20, .len (.tmp 19), none⟩,
      ⟨some 21, .bin .lss (.tmp 14) (.tmp 20), none⟩] [])
    (.cond (.tmp 21)
     .skip
     (.exit 0)))
   (.seq (.block 1 (.seq (.region [⟨some 24, .faddr (.tmp 2) 0, none⟩,
       ⟨some 25, .load true 1 (.tmp 24), none⟩,
       ⟨some 26, .mv (.tmp 7), none⟩,
       ⟨some 27, .isl 1 (.tmp 25) (.tmp 26), none⟩,
       ⟨some 28, .load true 1 (.tmp 27), none⟩,
       ⟨some 29, .mv (.tmp 8), none⟩,
       ⟨some 30, .isl 19 (.tmp 28) (.tmp 29), none⟩,
       ⟨some 31, .faddr (.tmp 30) 1, none⟩,
       ⟨some 32, .load true 1 (.tmp 31), none⟩,
       ⟨some 33, .mv (.tmp 1), none⟩,
       ⟨some 34, .bin .eql (.tmp 32) (.tmp 33), none⟩,
       ⟨some 35, .mv (.tmp 34), none⟩,
       ⟨some 36, .faddr (.tmp 2) 0, some (35, true)⟩,
       ⟨some 37, .load true 1 (.tmp 36), some (35, true)⟩,
       ⟨some 38, .mv (.tmp 7), some (35, true)⟩,
       ⟨some 39, .isl 1 (.tmp 37) (.tmp 38), some (35, true)⟩,
       ⟨some 40, .load true 1 (.tmp 39), some (35, true)⟩,
       ⟨some 41, .mv (.tmp 8), some (35, true)⟩,
       ⟨some 42, .isl 19 (.tmp 40) (.tmp 41), some (35, true)⟩,
       ⟨some 43, .faddr (.tmp 42) 0, some (35, true)⟩,
       ⟨some 44, .load true 1 (.tmp 43), some (35, true)⟩,
       ⟨some 45, .bin .neq (.tmp 44) (.con (.int .i64 0)), some (35, true)⟩,
       ⟨some 46, .pick (.tmp 35) (.tmp 45) (.con (.bool false)), none⟩] [])
     (.cond (.tmp 46)
      (.seq (.region [⟨some 47, .mv (.tmp 7), none⟩,
        ⟨some 48, .mv (.tmp 8), none⟩,
        ⟨some 4, .mv (.tmp 47), none⟩,
        ⟨some 5, .mv (.tmp 48), none⟩,
        ⟨some 6, .mv (.con (.bool true)), none⟩] [])
      .ret)
      .skip)))
   (.region [⟨some 22, .mv (.tmp 8), none⟩,
    ⟨some 23, .bin .add (.tmp 22) (.con (.int .i64 1)), none⟩,
    ⟨some 8, .mv (.tmp 23), none⟩] []))))))
(.seq (.region [⟨some 4, .mv (.con (.int .i64 0)), none⟩,
  ⟨some 5, .mv (.con (.int .i64 0)), none⟩,
  ⟨some 6, .mv (.con (.bool false)), none⟩] [])
.ret))))), [.tmp 4, .tmp 5, .tmp 6], true, none, false⟩
/-- slices.IndexFunc[[]int,int] -/
def f83 : AFun := ⟨19, (.seq (.region [⟨some 4, .mv (.con (.int .i64 0)), none⟩] [])
(.seq (.seq (.region [⟨some 6, .mv (.tmp 0), none⟩,
   ⟨some 7, .len (.tmp 6), none⟩,
   ⟨some 8, .mv (.con (.int .i64 0)), none⟩] [])
 (.block 0 (.loop (.seq (.region [⟨some 9, .bin .lss (.tmp 8) (.tmp 7), none⟩] [])
   (.seq (.cond (.tmp 9)
     .skip
     (.exit 0))
   (.seq (.block 1 (.seq (.region [⟨some 10, .mv (.tmp 8), none⟩,
       ⟨some 5, .mv (.tmp 10), none⟩] [])
     (.seq (.region [⟨some 11, .mv (.tmp 1), none⟩,
       ⟨some 12, .mv (.tmp 0), none⟩,
       ⟨some 13, .mv (.tmp 5), none⟩,
       ⟨some 14, .isl 1 (.tmp 12) (.tmp 13), none⟩,
       ⟨some 15, .load true 1 (.tmp 14), none⟩,
       ⟨some 16, .callv (.tmp 11) [(.tmp 15)], none⟩] [])
     (.cond (.tmp 16)
      (.seq (.region [⟨some 17, .mv (.tmp 5), none⟩,
        ⟨some 4, .mv (.tmp 17), none⟩] [])
      .ret)
      .skip))))
   (.region [⟨some 18, .bin .add (.tmp 8) (.con (.int .i64 1)), none⟩,
    ⟨some 8, .mv (.tmp 18), none⟩] [])))))))
(.seq (.region [⟨some 4, .mv (.con (.int .i64 (-1))), none⟩] [])
.ret))), [.tmp 4], false, none, false⟩
/-- cotterel/mesi.of -/
def f84 : AFun := ⟨7, (.seq (.region [⟨some 2, .mv (.con (.int .i64 0)), none⟩] [])
(.seq (.seq (.region [⟨some 3, .mv (.tmp 0), none⟩,
   ⟨some 4, .call 66 [(.tmp 3)], none⟩,
   ⟨some 5, .un .not (.tmp 4), none⟩] [])
 (.cond (.tmp 5)
  (.seq (.region [⟨some 2, .mv (.con (.int .i64 0)), none⟩] [])
  .ret)
  .skip))
(.seq (.region [⟨some 6, .mv (.tmp 0), none⟩,
  ⟨some 2, .mv (.tmp 6), none⟩] [])
.ret))), [.tmp 2], true, none, false⟩
/-- cotterel/cache.Victim -/
def f85 : AFun := ⟨56, (.seq (.region [⟨some 2, .box (.tmp 0), none⟩,
  ⟨some 4, .mv (.con (.int .i64 0)), none⟩,
  ⟨some 5, .mv (.con (.int .i64 0)), none⟩] [])
(.seq (.region [⟨some 14, .load false 1 (.tmp 2), none⟩,
  ⟨some 15, .mv (.tmp 1), none⟩,
  ⟨some 16, .call 80 [(.tmp 14), (.tmp 15)], none⟩,
  ⟨some 6, .mv (.tmp 16), none⟩] [])
(.seq (.seq (.region [⟨some 18, .load false 1 (.tmp 2), none⟩,
   ⟨some 19, .mv (.tmp 1), none⟩,
   ⟨some 20, .call 58 [(.tmp 18), (.tmp 19)], none⟩,
   ⟨some 17, .mv (.tmp 20), none⟩,
   ⟨some 21, .extract (.tmp 17) 0, none⟩,
   ⟨some 22, .extract (.tmp 17) 1, none⟩,
   ⟨some 23, .extract (.tmp 17) 2, none⟩,
   ⟨some 7, .mv (.tmp 21), none⟩,
   ⟨some 8, .mv (.tmp 22), none⟩,
   ⟨some 9, .mv (.tmp 23), none⟩] [])
 (.seq (.region [⟨some 24, .mv (.tmp 9), none⟩] [])
 (.cond (.tmp 24)
  (.seq (.region [⟨some 25, .mv (.tmp 7), none⟩,
    ⟨some 26, .mv (.tmp 8), none⟩,
    ⟨some 4, .mv (.tmp 25), none⟩,
    ⟨some 5, .mv (.tmp 26), none⟩] [])
  .ret)
  .skip)))
(.seq (.seq (.region [⟨some 27, .mv (.tmp 6), none⟩,
   ⟨some 28, .call 79 [(.tmp 27), (.con (.fn 87 [] []))], none⟩,
   ⟨some 10, .mv (.tmp 28), none⟩] [])
 (.seq (.region [⟨some 29, .mv (.tmp 10), none⟩,
   ⟨some 30, .bin .geq (.tmp 29) (.con (.int .i64 0)), none⟩] [])
 (.cond (.tmp 30)
  (.seq (.region [⟨some 31, .load false 1 (.tmp 2), none⟩,
    ⟨some 32, .mv (.tmp 1), none⟩,
    ⟨some 33, .call 63 [(.tmp 31), (.tmp 32)], none⟩,
    ⟨some 34, .mv (.tmp 10), none⟩,
    ⟨some 4, .mv (.tmp 33), none⟩,
    ⟨some 5, .mv (.tmp 34), none⟩] [])
  .ret)
  .skip)))
(.seq (.region [⟨some 11, .mv (.con (.int .i64 0)), none⟩] [])
(.seq (.seq (.region [⟨some 35, .mv (.tmp 6), none⟩,
   ⟨some 36, .len (.tmp 35), none⟩,
   ⟨some 37, .mv (.con (.int .i64 0)), none⟩] [])
 (.block 0 (.loop (.seq (.region [⟨some 38, .bin .lss (.tmp 37) (.tmp 36), none⟩] [])
   (.seq (.cond (.tmp 38)
     .skip
     (.exit 0))
   (.seq (.block 1 (.seq (.region [⟨some 39, .mv (.tmp 37), none⟩,
       ⟨some 40, .isl 19 (.tmp 35) (.tmp 37), none⟩,
       ⟨some 41, .load false 19 (.tmp 40), none⟩,
       ⟨some 13, .alloc [(.int .i64 0), (.int .u32 0), (.int .u8 0), (.int .u8 0), (.int .u8 0), (.int .u8 0), (.int .u8 0), (.int .u8 0), (.int .u8 0), (.int .u8 0), (.int .u8 0), (.int .u8 0), (.int .u8 0), (.int .u8 0), (.int .u8 0), (.int .u8 0), (.int .u8 0), (.int .u8 0), (.int .i64 0)], none⟩,
       ⟨some 12, .mv (.tmp 39), none⟩,
       ⟨none, .store 19 (.tmp 13) (.tmp 41), none⟩] [])
     (.seq (.region [⟨some 42, .faddr (.tmp 13) 18, none⟩,
       ⟨some 43, .load true 1 (.tmp 42), none⟩,
       ⟨some 44, .mv (.tmp 6), none⟩,
       ⟨some 45, .mv (.tmp 11), none⟩,
       ⟨some 46, .isl 19 (.tmp 44) (.tmp 45), none⟩,
       ⟨some 47, .faddr (.tmp 46) 18, none⟩,
       ⟨some 48, .load true 1 (.tmp 47), none⟩,
       ⟨some 49, .bin .gtr (.tmp 43) (.tmp 48), none⟩] [])
     (.cond (.tmp 49)
      (.region [⟨some 50, .mv (.tmp 12), none⟩,
       ⟨some 11, .mv (.tmp 50), none⟩] [])
      .skip))))
   (.region [⟨some 51, .bin .add (.tmp 37) (.con (.int .i64 1)), none⟩,
    ⟨some 37, .mv (.tmp 51), none⟩] [])))))))
(.seq (.region [⟨some 52, .load false 1 (.tmp 2), none⟩,
  ⟨some 53, .mv (.tmp 1), none⟩,
  ⟨some 54, .call 63 [(.tmp 52), (.tmp 53)], none⟩,
  ⟨some 55, .mv (.tmp 11), none⟩,
  ⟨some 4, .mv (.tmp 54), none⟩,
  ⟨some 5, .mv (.tmp 55), none⟩] [])
.ret))))))), [.tmp 4, .tmp 5], true, none, false⟩
/-- cotterel/cotterelref39.set -/
def f86 : AFun := ⟨15, (.seq (.region [⟨some 2, .box (.tmp 0), none⟩,
  ⟨some 4, .mv (.con (.int .i64 0)), none⟩] [])
(.seq (.seq (.region [⟨some 5, .faddr (.tmp 2) 0, none⟩,
   ⟨some 6, .load true 1 (.tmp 5), none⟩,
   ⟨some 7, .len (.tmp 6), none⟩,
   ⟨some 8, .bin .eql (.tmp 7) (.con (.int .i64 0)), none⟩] [])
 (.cond (.tmp 8)
  (.seq (.region [⟨some 4, .mv (.con (.int .i64 (-1))), none⟩] [])
  .ret)
  .skip))
(.seq (.region [⟨some 9, .mv (.tmp 1), none⟩,
  ⟨some 10, .conv .i64 (.tmp 9), none⟩,
  ⟨some 11, .faddr (.tmp 2) 0, none⟩,
  ⟨some 12, .load true 1 (.tmp 11), none⟩,
  ⟨some 13, .len (.tmp 12), none⟩,
  ⟨some 14, .bin .rem (.tmp 10) (.tmp 13), none⟩,
  ⟨some 4, .mv (.tmp 14), none⟩] [])
.ret))), [.tmp 4], true, none, false⟩
/-- cotterel/cache.Victim$1 -/
def f87 : AFun := ⟨6, (.seq (.region [⟨some 1, .box (.tmp 0), none⟩,
  ⟨some 2, .mv (.con (.bool false)), none⟩] [])
(.seq (.region [⟨some 3, .faddr (.tmp 1) 0, none⟩,
  ⟨some 4, .load true 1 (.tmp 3), none⟩,
  ⟨some 5, .bin .eql (.tmp 4) (.con (.int .i64 0)), none⟩,
  ⟨some 2, .mv (.tmp 5), none⟩] [])
.ret)), [.tmp 2], false, none, false⟩
-- CLONE 22 22
-- CLONE 57 26
-- CLONE 76 52
-- CLONE 77 57
/-- slices.Clone[[]byte,byte] -/
def f22 : AFun := ⟨0, .skip, [], true, some (1, 1), false⟩
/-- slices.Clone[[]cotterel/api.Cache,cotterel/api.Cache] -/
def f57 : AFun := ⟨0, .skip, [], true, some (1, 24), false⟩
/-- slices.Clone[[][]cotterel/api.Way,[]cotterel/api.Way] -/
def f76 : AFun := ⟨0, .skip, [], true, some (1, 24), false⟩
/-- slices.Clone[[]cotterel/api.Way,cotterel/api.Way] -/
def f77 : AFun := ⟨0, .skip, [], true, some (19, 40), false⟩
end Fn
open Fn
theorem autos : True ∧ f27.auto = false ∧ f28.auto = false ∧ f30.auto = false ∧ f43.auto = false ∧ f45.auto = false ∧ f55.auto = false ∧ f65.auto = false ∧ f71.auto = true ∧ f79.auto = false ∧ f81.auto = false ∧ f83.auto = false ∧ f87.auto = false := ⟨trivial, rfl, rfl, rfl, rfl, rfl, rfl, rfl, rfl, rfl, rfl, rfl, rfl⟩
def ap : AProg
  | 4 => some f4
  | 5 => some f5
  | 6 => some f6
  | 8 => some f8
  | 10 => some f10
  | 11 => some f11
  | 12 => some f12
  | 13 => some f13
  | 14 => some f14
  | 15 => some f15
  | 16 => some f16
  | 17 => some f17
  | 18 => some f18
  | 19 => some f19
  | 20 => some f20
  | 22 => some f22
  | 23 => some f23
  | 25 => some f25
  | 26 => some f26
  | 27 => some f27
  | 28 => some f28
  | 29 => some f29
  | 30 => some f30
  | 31 => some f31
  | 32 => some f32
  | 33 => some f33
  | 34 => some f34
  | 35 => some f35
  | 36 => some f36
  | 37 => some f37
  | 38 => some f38
  | 39 => some f39
  | 40 => some f40
  | 41 => some f41
  | 42 => some f42
  | 43 => some f43
  | 44 => some f44
  | 45 => some f45
  | 46 => some f46
  | 47 => some f47
  | 48 => some f48
  | 49 => some f49
  | 50 => some f50
  | 51 => some f51
  | 52 => some f52
  | 53 => some f53
  | 54 => some f54
  | 55 => some f55
  | 56 => some f56
  | 57 => some f57
  | 58 => some f58
  | 59 => some f59
  | 60 => some f60
  | 61 => some f61
  | 62 => some f62
  | 63 => some f63
  | 64 => some f64
  | 65 => some f65
  | 66 => some f66
  | 67 => some f67
  | 68 => some f68
  | 69 => some f69
  | 70 => some f70
  | 71 => some f71
  | 72 => some f72
  | 73 => some f73
  | 74 => some f74
  | 75 => some f75
  | 76 => some f76
  | 77 => some f77
  | 78 => some f78
  | 79 => some f79
  | 80 => some f80
  | 81 => some f81
  | 82 => some f82
  | 83 => some f83
  | 84 => some f84
  | 85 => some f85
  | 86 => some f86
  | 87 => some f87
  | _ => none
theorem ok4 : FnOk Try.prog 4 f4 := fnOk_of (fn := Try.f4) Try.func4 (by kernel_rfl) rfl (by kernel_rfl) rfl (by kernel_rfl) rfl
theorem ok5 : FnOk Try.prog 5 f5 := fnOk_of (fn := Try.f5) Try.func5 (by kernel_rfl) rfl (by kernel_rfl) rfl (by kernel_rfl) rfl
theorem ok6 : FnOk Try.prog 6 f6 := fnOk_of (fn := Try.f6) Try.func6 (by kernel_rfl) rfl (by kernel_rfl) rfl (by kernel_rfl) rfl
theorem ok8 : FnOk Try.prog 8 f8 := fnOk_of (fn := Try.f8) Try.func8 (by kernel_rfl) rfl (by kernel_rfl) rfl (by kernel_rfl) rfl
theorem ok10 : FnOk Try.prog 10 f10 := fnOk_of (fn := Try.f10) Try.func10 (by kernel_rfl) rfl (by kernel_rfl) rfl (by kernel_rfl) rfl
theorem ok11 : FnOk Try.prog 11 f11 := fnOk_of (fn := Try.f11) Try.func11 (by kernel_rfl) rfl (by kernel_rfl) rfl (by kernel_rfl) rfl
theorem ok12 : FnOk Try.prog 12 f12 := fnOk_of (fn := Try.f12) Try.func12 (by kernel_rfl) rfl (by kernel_rfl) rfl (by kernel_rfl) rfl
theorem ok13 : FnOk Try.prog 13 f13 := fnOk_of (fn := Try.f13) Try.func13 (by kernel_rfl) rfl (by kernel_rfl) rfl (by kernel_rfl) rfl
theorem ok14 : FnOk Try.prog 14 f14 := fnOk_of (fn := Try.f14) Try.func14 (by kernel_rfl) rfl (by kernel_rfl) rfl (by kernel_rfl) rfl
theorem ok15 : FnOk Try.prog 15 f15 := fnOk_of (fn := Try.f15) Try.func15 (by kernel_rfl) rfl (by kernel_rfl) rfl (by kernel_rfl) rfl
theorem ok16 : FnOk Try.prog 16 f16 := fnOk_of (fn := Try.f16) Try.func16 (by kernel_rfl) rfl (by kernel_rfl) rfl (by kernel_rfl) rfl
theorem ok17 : FnOk Try.prog 17 f17 := fnOk_of (fn := Try.f17) Try.func17 (by kernel_rfl) rfl (by kernel_rfl) rfl (by kernel_rfl) rfl
theorem ok18 : FnOk Try.prog 18 f18 := fnOk_of (fn := Try.f18) Try.func18 (by kernel_rfl) rfl (by kernel_rfl) rfl (by kernel_rfl) rfl
theorem ok19 : FnOk Try.prog 19 f19 := fnOk_of (fn := Try.f19) Try.func19 (by kernel_rfl) rfl (by kernel_rfl) rfl (by kernel_rfl) rfl
theorem ok20 : FnOk Try.prog 20 f20 := fnOk_of (fn := Try.f20) Try.func20 (by kernel_rfl) rfl (by kernel_rfl) rfl (by kernel_rfl) rfl
theorem ok22 : FnOk Try.prog 22 f22 := .inl ⟨_, _, rfl, rfl, clone_ok2 Try.func22 rfl ⟨rfl, rfl, rfl⟩ ⟨rfl, rfl, rfl⟩ ⟨rfl, rfl, rfl⟩ ⟨rfl, rfl, rfl⟩ ⟨rfl, rfl, rfl⟩ ⟨rfl, rfl, rfl⟩ ⟨rfl, rfl, rfl⟩ ⟨rfl, rfl, rfl⟩ rfl rfl Try.underlying22 (by kernel_rfl) (by kernel_rfl), Try.f22, Try.func22, by kernel_rfl, rfl⟩
theorem ok23 : FnOk Try.prog 23 f23 := fnOk_of (fn := Try.f23) Try.func23 (by kernel_rfl) rfl (by kernel_rfl) rfl (by kernel_rfl) rfl
theorem ok25 : FnOk Try.prog 25 f25 := fnOk_of (fn := Try.f25) Try.func25 (by kernel_rfl) rfl (by kernel_rfl) rfl (by kernel_rfl) rfl
theorem ok26 : FnOk Try.prog 26 f26 := fnOk_of (fn := Try.f26) Try.func26 (by kernel_rfl) rfl (by kernel_rfl) rfl (by kernel_rfl) rfl
theorem ok27 : FnOk Try.prog 27 f27 := fnOk_of (fn := Try.f27) Try.func27 (by kernel_rfl) rfl (by kernel_rfl) rfl (by kernel_rfl) rfl
theorem ok28 : FnOk Try.prog 28 f28 := fnOk_of (fn := Try.f28) Try.func28 (by kernel_rfl) rfl (by kernel_rfl) rfl (by kernel_rfl) rfl
theorem ok29 : FnOk Try.prog 29 f29 := fnOk_of (fn := Try.f29) Try.func29 (by kernel_rfl) rfl (by kernel_rfl) rfl (by kernel_rfl) rfl
theorem ok30 : FnOk Try.prog 30 f30 := fnOk_of (fn := Try.f30) Try.func30 (by kernel_rfl) rfl (by kernel_rfl) rfl (by kernel_rfl) rfl
theorem ok31 : FnOk Try.prog 31 f31 := fnOk_of (fn := Try.f31) Try.func31 (by kernel_rfl) rfl (by kernel_rfl) rfl (by kernel_rfl) rfl
theorem ok32 : FnOk Try.prog 32 f32 := fnOk_of (fn := Try.f32) Try.func32 (by kernel_rfl) rfl (by kernel_rfl) rfl (by kernel_rfl) rfl
theorem ok33 : FnOk Try.prog 33 f33 := fnOk_of (fn := Try.f33) Try.func33 (by kernel_rfl) rfl (by kernel_rfl) rfl (by kernel_rfl) rfl
theorem ok34 : FnOk Try.prog 34 f34 := fnOk_of (fn := Try.f34) Try.func34 (by kernel_rfl) rfl (by kernel_rfl) rfl (by kernel_rfl) rfl
theorem ok35 : FnOk Try.prog 35 f35 := fnOk_of (fn := Try.f35) Try.func35 (by kernel_rfl) rfl (by kernel_rfl) rfl (by kernel_rfl) rfl
theorem ok36 : FnOk Try.prog 36 f36 := fnOk_of (fn := Try.f36) Try.func36 (by kernel_rfl) rfl (by kernel_rfl) rfl (by kernel_rfl) rfl
theorem ok37 : FnOk Try.prog 37 f37 := fnOk_of (fn := Try.f37) Try.func37 (by kernel_rfl) rfl (by kernel_rfl) rfl (by kernel_rfl) rfl
theorem ok38 : FnOk Try.prog 38 f38 := fnOk_of (fn := Try.f38) Try.func38 (by kernel_rfl) rfl (by kernel_rfl) rfl (by kernel_rfl) rfl
theorem ok39 : FnOk Try.prog 39 f39 := fnOk_of (fn := Try.f39) Try.func39 (by kernel_rfl) rfl (by kernel_rfl) rfl (by kernel_rfl) rfl
theorem ok40 : FnOk Try.prog 40 f40 := fnOk_of (fn := Try.f40) Try.func40 (by kernel_rfl) rfl (by kernel_rfl) rfl (by kernel_rfl) rfl
theorem ok41 : FnOk Try.prog 41 f41 := fnOk_of (fn := Try.f41) Try.func41 (by kernel_rfl) rfl (by kernel_rfl) rfl (by kernel_rfl) rfl
theorem ok42 : FnOk Try.prog 42 f42 := fnOk_of (fn := Try.f42) Try.func42 (by kernel_rfl) rfl (by kernel_rfl) rfl (by kernel_rfl) rfl
theorem ok43 : FnOk Try.prog 43 f43 := fnOk_of (fn := Try.f43) Try.func43 (by kernel_rfl) rfl (by kernel_rfl) rfl (by kernel_rfl) rfl
theorem ok44 : FnOk Try.prog 44 f44 := fnOk_of (fn := Try.f44) Try.func44 (by kernel_rfl) rfl (by kernel_rfl) rfl (by kernel_rfl) rfl
theorem ok45 : FnOk Try.prog 45 f45 := fnOk_of (fn := Try.f45) Try.func45 (by kernel_rfl) rfl (by kernel_rfl) rfl (by kernel_rfl) rfl
theorem ok46 : FnOk Try.prog 46 f46 := fnOk_of (fn := Try.f46) Try.func46 (by kernel_rfl) rfl (by kernel_rfl) rfl (by kernel_rfl) rfl
theorem ok47 : FnOk Try.prog 47 f47 := fnOk_of (fn := Try.f47) Try.func47 (by kernel_rfl) rfl (by kernel_rfl) rfl (by kernel_rfl) rfl
theorem ok48 : FnOk Try.prog 48 f48 := fnOk_of (fn := Try.f48) Try.func48 (by kernel_rfl) rfl (by kernel_rfl) rfl (by kernel_rfl) rfl
theorem ok49 : FnOk Try.prog 49 f49 := fnOk_of (fn := Try.f49) Try.func49 (by kernel_rfl) rfl (by kernel_rfl) rfl (by kernel_rfl) rfl
theorem ok50 : FnOk Try.prog 50 f50 := fnOk_of (fn := Try.f50) Try.func50 (by kernel_rfl) rfl (by kernel_rfl) rfl (by kernel_rfl) rfl
theorem ok51 : FnOk Try.prog 51 f51 := fnOk_of (fn := Try.f51) Try.func51 (by kernel_rfl) rfl (by kernel_rfl) rfl (by kernel_rfl) rfl
theorem ok52 : FnOk Try.prog 52 f52 := fnOk_of (fn := Try.f52) Try.func52 (by kernel_rfl) rfl (by kernel_rfl) rfl (by kernel_rfl) rfl
theorem ok53 : FnOk Try.prog 53 f53 := fnOk_of (fn := Try.f53) Try.func53 (by kernel_rfl) rfl (by kernel_rfl) rfl (by kernel_rfl) rfl
theorem ok54 : FnOk Try.prog 54 f54 := fnOk_of (fn := Try.f54) Try.func54 (by kernel_rfl) rfl (by kernel_rfl) rfl (by kernel_rfl) rfl
theorem ok55 : FnOk Try.prog 55 f55 := fnOk_of (fn := Try.f55) Try.func55 (by kernel_rfl) rfl (by kernel_rfl) rfl (by kernel_rfl) rfl
theorem ok56 : FnOk Try.prog 56 f56 := fnOk_of (fn := Try.f56) Try.func56 (by kernel_rfl) rfl (by kernel_rfl) rfl (by kernel_rfl) rfl
theorem ok57 : FnOk Try.prog 57 f57 := .inl ⟨_, _, rfl, rfl, clone_ok2 Try.func57 rfl ⟨rfl, rfl, rfl⟩ ⟨rfl, rfl, rfl⟩ ⟨rfl, rfl, rfl⟩ ⟨rfl, rfl, rfl⟩ ⟨rfl, rfl, rfl⟩ ⟨rfl, rfl, rfl⟩ ⟨rfl, rfl, rfl⟩ ⟨rfl, rfl, rfl⟩ rfl rfl Try.underlying26 (by kernel_rfl) (by kernel_rfl), Try.f57, Try.func57, by kernel_rfl, rfl⟩
theorem ok58 : FnOk Try.prog 58 f58 := fnOk_of (fn := Try.f58) Try.func58 (by kernel_rfl) rfl (by kernel_rfl) rfl (by kernel_rfl) rfl
theorem ok59 : FnOk Try.prog 59 f59 := fnOk_of (fn := Try.f59) Try.func59 (by kernel_rfl) rfl (by kernel_rfl) rfl (by kernel_rfl) rfl
theorem ok60 : FnOk Try.prog 60 f60 := fnOk_of (fn := Try.f60) Try.func60 (by kernel_rfl) rfl (by kernel_rfl) rfl (by kernel_rfl) rfl
theorem ok61 : FnOk Try.prog 61 f61 := fnOk_of (fn := Try.f61) Try.func61 (by kernel_rfl) rfl (by kernel_rfl) rfl (by kernel_rfl) rfl
theorem ok62 : FnOk Try.prog 62 f62 := fnOk_of (fn := Try.f62) Try.func62 (by kernel_rfl) rfl (by kernel_rfl) rfl (by kernel_rfl) rfl
theorem ok63 : FnOk Try.prog 63 f63 := fnOk_of (fn := Try.f63) Try.func63 (by kernel_rfl) rfl (by kernel_rfl) rfl (by kernel_rfl) rfl
theorem ok64 : FnOk Try.prog 64 f64 := fnOk_of (fn := Try.f64) Try.func64 (by kernel_rfl) rfl (by kernel_rfl) rfl (by kernel_rfl) rfl
theorem ok65 : FnOk Try.prog 65 f65 := fnOk_of (fn := Try.f65) Try.func65 (by kernel_rfl) rfl (by kernel_rfl) rfl (by kernel_rfl) rfl
theorem ok66 : FnOk Try.prog 66 f66 := fnOk_of (fn := Try.f66) Try.func66 (by kernel_rfl) rfl (by kernel_rfl) rfl (by kernel_rfl) rfl
theorem ok67 : FnOk Try.prog 67 f67 := fnOk_of (fn := Try.f67) Try.func67 (by kernel_rfl) rfl (by kernel_rfl) rfl (by kernel_rfl) rfl
theorem ok68 : FnOk Try.prog 68 f68 := fnOk_of (fn := Try.f68) Try.func68 (by kernel_rfl) rfl (by kernel_rfl) rfl (by kernel_rfl) rfl
theorem ok69 : FnOk Try.prog 69 f69 := fnOk_of (fn := Try.f69) Try.func69 (by kernel_rfl) rfl (by kernel_rfl) rfl (by kernel_rfl) rfl
theorem ok70 : FnOk Try.prog 70 f70 := fnOk_of (fn := Try.f70) Try.func70 (by kernel_rfl) rfl (by kernel_rfl) rfl (by kernel_rfl) rfl
theorem ok71 : FnOk Try.prog 71 f71 := fnOk_of (fn := Try.f71) Try.func71 (by kernel_rfl) rfl (by kernel_rfl) rfl (by kernel_rfl) rfl
theorem ok72 : FnOk Try.prog 72 f72 := fnOk_of (fn := Try.f72) Try.func72 (by kernel_rfl) rfl (by kernel_rfl) rfl (by kernel_rfl) rfl
theorem ok73 : FnOk Try.prog 73 f73 := fnOk_of (fn := Try.f73) Try.func73 (by kernel_rfl) rfl (by kernel_rfl) rfl (by kernel_rfl) rfl
theorem ok74 : FnOk Try.prog 74 f74 := fnOk_of (fn := Try.f74) Try.func74 (by kernel_rfl) rfl (by kernel_rfl) rfl (by kernel_rfl) rfl
theorem ok75 : FnOk Try.prog 75 f75 := fnOk_of (fn := Try.f75) Try.func75 (by kernel_rfl) rfl (by kernel_rfl) rfl (by kernel_rfl) rfl
theorem ok76 : FnOk Try.prog 76 f76 := .inl ⟨_, _, rfl, rfl, clone_ok2 Try.func76 rfl ⟨rfl, rfl, rfl⟩ ⟨rfl, rfl, rfl⟩ ⟨rfl, rfl, rfl⟩ ⟨rfl, rfl, rfl⟩ ⟨rfl, rfl, rfl⟩ ⟨rfl, rfl, rfl⟩ ⟨rfl, rfl, rfl⟩ ⟨rfl, rfl, rfl⟩ rfl rfl Try.underlying52 (by kernel_rfl) (by kernel_rfl), Try.f76, Try.func76, by kernel_rfl, rfl⟩
theorem ok77 : FnOk Try.prog 77 f77 := .inl ⟨_, _, rfl, rfl, clone_ok2 Try.func77 rfl ⟨rfl, rfl, rfl⟩ ⟨rfl, rfl, rfl⟩ ⟨rfl, rfl, rfl⟩ ⟨rfl, rfl, rfl⟩ ⟨rfl, rfl, rfl⟩ ⟨rfl, rfl, rfl⟩ ⟨rfl, rfl, rfl⟩ ⟨rfl, rfl, rfl⟩ rfl rfl Try.underlying57 (by kernel_rfl) (by kernel_rfl), Try.f77, Try.func77, by kernel_rfl, rfl⟩
theorem ok78 : FnOk Try.prog 78 f78 := fnOk_of (fn := Try.f78) Try.func78 (by kernel_rfl) rfl (by kernel_rfl) rfl (by kernel_rfl) rfl
theorem ok79 : FnOk Try.prog 79 f79 := fnOk_of (fn := Try.f79) Try.func79 (by kernel_rfl) rfl (by kernel_rfl) rfl (by kernel_rfl) rfl
theorem ok80 : FnOk Try.prog 80 f80 := fnOk_of (fn := Try.f80) Try.func80 (by kernel_rfl) rfl (by kernel_rfl) rfl (by kernel_rfl) rfl
theorem ok81 : FnOk Try.prog 81 f81 := fnOk_of (fn := Try.f81) Try.func81 (by kernel_rfl) rfl (by kernel_rfl) rfl (by kernel_rfl) rfl
theorem ok82 : FnOk Try.prog 82 f82 := fnOk_of (fn := Try.f82) Try.func82 (by kernel_rfl) rfl (by kernel_rfl) rfl (by kernel_rfl) rfl
theorem ok83 : FnOk Try.prog 83 f83 := fnOk_of (fn := Try.f83) Try.func83 (by kernel_rfl) rfl (by kernel_rfl) rfl (by kernel_rfl) rfl
theorem ok84 : FnOk Try.prog 84 f84 := fnOk_of (fn := Try.f84) Try.func84 (by kernel_rfl) rfl (by kernel_rfl) rfl (by kernel_rfl) rfl
theorem ok85 : FnOk Try.prog 85 f85 := fnOk_of (fn := Try.f85) Try.func85 (by kernel_rfl) rfl (by kernel_rfl) rfl (by kernel_rfl) rfl
theorem ok86 : FnOk Try.prog 86 f86 := fnOk_of (fn := Try.f86) Try.func86 (by kernel_rfl) rfl (by kernel_rfl) rfl (by kernel_rfl) rfl
theorem ok87 : FnOk Try.prog 87 f87 := fnOk_of (fn := Try.f87) Try.func87 (by kernel_rfl) rfl (by kernel_rfl) rfl (by kernel_rfl) rfl
theorem ap_ok : ∀ f F, ap f = some F → FnOk Try.prog f F := by
  intro f F h
  unfold ap at h
  split at h
  · obtain rfl := Option.some.inj h; exact ok4
  · obtain rfl := Option.some.inj h; exact ok5
  · obtain rfl := Option.some.inj h; exact ok6
  · obtain rfl := Option.some.inj h; exact ok8
  · obtain rfl := Option.some.inj h; exact ok10
  · obtain rfl := Option.some.inj h; exact ok11
  · obtain rfl := Option.some.inj h; exact ok12
  · obtain rfl := Option.some.inj h; exact ok13
  · obtain rfl := Option.some.inj h; exact ok14
  · obtain rfl := Option.some.inj h; exact ok15
  · obtain rfl := Option.some.inj h; exact ok16
  · obtain rfl := Option.some.inj h; exact ok17
  · obtain rfl := Option.some.inj h; exact ok18
  · obtain rfl := Option.some.inj h; exact ok19
  · obtain rfl := Option.some.inj h; exact ok20
  · obtain rfl := Option.some.inj h; exact ok22
  · obtain rfl := Option.some.inj h; exact ok23
  · obtain rfl := Option.some.inj h; exact ok25
  · obtain rfl := Option.some.inj h; exact ok26
  · obtain rfl := Option.some.inj h; exact ok27
  · obtain rfl := Option.some.inj h; exact ok28
  · obtain rfl := Option.some.inj h; exact ok29
  · obtain rfl := Option.some.inj h; exact ok30
  · obtain rfl := Option.some.inj h; exact ok31
  · obtain rfl := Option.some.inj h; exact ok32
  · obtain rfl := Option.some.inj h; exact ok33
  · obtain rfl := Option.some.inj h; exact ok34
  · obtain rfl := Option.some.inj h; exact ok35
  · obtain rfl := Option.some.inj h; exact ok36
  · obtain rfl := Option.some.inj h; exact ok37
  · obtain rfl := Option.some.inj h; exact ok38
  · obtain rfl := Option.some.inj h; exact ok39
  · obtain rfl := Option.some.inj h; exact ok40
  · obtain rfl := Option.some.inj h; exact ok41
  · obtain rfl := Option.some.inj h; exact ok42
  · obtain rfl := Option.some.inj h; exact ok43
  · obtain rfl := Option.some.inj h; exact ok44
  · obtain rfl := Option.some.inj h; exact ok45
  · obtain rfl := Option.some.inj h; exact ok46
  · obtain rfl := Option.some.inj h; exact ok47
  · obtain rfl := Option.some.inj h; exact ok48
  · obtain rfl := Option.some.inj h; exact ok49
  · obtain rfl := Option.some.inj h; exact ok50
  · obtain rfl := Option.some.inj h; exact ok51
  · obtain rfl := Option.some.inj h; exact ok52
  · obtain rfl := Option.some.inj h; exact ok53
  · obtain rfl := Option.some.inj h; exact ok54
  · obtain rfl := Option.some.inj h; exact ok55
  · obtain rfl := Option.some.inj h; exact ok56
  · obtain rfl := Option.some.inj h; exact ok57
  · obtain rfl := Option.some.inj h; exact ok58
  · obtain rfl := Option.some.inj h; exact ok59
  · obtain rfl := Option.some.inj h; exact ok60
  · obtain rfl := Option.some.inj h; exact ok61
  · obtain rfl := Option.some.inj h; exact ok62
  · obtain rfl := Option.some.inj h; exact ok63
  · obtain rfl := Option.some.inj h; exact ok64
  · obtain rfl := Option.some.inj h; exact ok65
  · obtain rfl := Option.some.inj h; exact ok66
  · obtain rfl := Option.some.inj h; exact ok67
  · obtain rfl := Option.some.inj h; exact ok68
  · obtain rfl := Option.some.inj h; exact ok69
  · obtain rfl := Option.some.inj h; exact ok70
  · obtain rfl := Option.some.inj h; exact ok71
  · obtain rfl := Option.some.inj h; exact ok72
  · obtain rfl := Option.some.inj h; exact ok73
  · obtain rfl := Option.some.inj h; exact ok74
  · obtain rfl := Option.some.inj h; exact ok75
  · obtain rfl := Option.some.inj h; exact ok76
  · obtain rfl := Option.some.inj h; exact ok77
  · obtain rfl := Option.some.inj h; exact ok78
  · obtain rfl := Option.some.inj h; exact ok79
  · obtain rfl := Option.some.inj h; exact ok80
  · obtain rfl := Option.some.inj h; exact ok81
  · obtain rfl := Option.some.inj h; exact ok82
  · obtain rfl := Option.some.inj h; exact ok83
  · obtain rfl := Option.some.inj h; exact ok84
  · obtain rfl := Option.some.inj h; exact ok85
  · obtain rfl := Option.some.inj h; exact ok86
  · obtain rfl := Option.some.inj h; exact ok87
  · cases h
end Go.Proofs.Ytikeeegkndnnfaa.Abs
