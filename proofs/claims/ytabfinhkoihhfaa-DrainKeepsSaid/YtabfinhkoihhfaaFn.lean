/- The functions of the program, as the plain machine has them; each stands for the program's own. Written by this session's programs Comp.lean and genfn.py. -/
import Derived.Test.YtabfinhkoihhfaaC3
import Derived.Test.YtabfinhkoihhfaaProg
import Derived.KernelRfl
namespace Go.Proofs.Ytabfinhkoihhfaa.Abs
open Go Go.RowKit
set_option linter.unusedVariables false
set_option maxRecDepth 100000
namespace Fn
def f3 : AFun := ⟨110, (.seq (.region [⟨some 3, .box (.tmp 0), none⟩,
  ⟨some 4, .box (.tmp 1), none⟩,
  ⟨some 5, .box (.tmp 2), none⟩,
  ⟨some 6, .mv (.con (.bool false)), none⟩] [])
(.seq (.seq (.region [⟨some 14, .load false 112 (.tmp 3), none⟩,
   ⟨some 15, .load false 2 (.tmp 4), none⟩,
   ⟨some 16, .call 4 [(.tmp 14), (.tmp 15)], none⟩,
   ⟨some 17, .un .not (.tmp 16), none⟩,
   ⟨some 18, .mv (.tmp 17), none⟩,
   ⟨some 19, .load false 2 (.tmp 4), some (18, false)⟩,
   ⟨some 20, .call 5 [(.tmp 19)], some (18, false)⟩,
   ⟨some 21, .un .not (.tmp 20), some (18, false)⟩,
   ⟨some 22, .pick (.tmp 18) (.con (.bool true)) (.tmp 21), none⟩,
   ⟨some 23, .mv (.tmp 22), none⟩,
   ⟨some 24, .faddr (.tmp 4) 1, some (23, false)⟩,
   ⟨some 25, .load true 1 (.tmp 24), some (23, false)⟩,
   ⟨some 26, .len (.tmp 25), some (23, false)⟩,
   ⟨some 27, .bin .eql (.tmp 26) (.con (.int .i64 0)), some (23, false)⟩,
   ⟨some 28, .pick (.tmp 23) (.con (.bool true)) (.tmp 27), none⟩,
   ⟨some 29, .mv (.tmp 28), none⟩,
   ⟨some 30, .faddr (.tmp 3) 107, some (29, false)⟩,
   ⟨some 31, .load true 1 (.tmp 30), some (29, false)⟩,
   ⟨some 32, .faddr (.tmp 4) 0, some (29, false)⟩,
   ⟨some 33, .load true 1 (.tmp 32), some (29, false)⟩,
   ⟨some 34, .call 6 [(.tmp 31), (.tmp 33)], some (29, false)⟩,
   ⟨some 35, .un .not (.tmp 34), some (29, false)⟩,
   ⟨some 36, .pick (.tmp 29) (.con (.bool true)) (.tmp 35), none⟩] [])
 (.cond (.tmp 36)
  (.seq (.region [⟨some 37, .call 7 [], none⟩,
    ⟨some 6, .mv (.tmp 37), none⟩] [])
  .ret)
  .skip))
(.seq (.region [⟨some 38, .faddr (.tmp 3) 107, none⟩,
  ⟨some 39, .load true 1 (.tmp 38), none⟩,
  ⟨some 40, .load false 2 (.tmp 4), none⟩,
  ⟨some 41, .call 9 [(.tmp 40)], none⟩,
  ⟨some 42, .call 8 [(.tmp 39), (.tmp 41)], none⟩,
  ⟨some 7, .mv (.tmp 42), none⟩] [(1, 3)])
(.seq (.region [⟨some 44, .load false 112 (.tmp 3), none⟩,
  ⟨some 45, .load false 2 (.tmp 4), none⟩,
  ⟨some 46, .load false 5 (.tmp 5), none⟩,
  ⟨some 47, .call 10 [(.tmp 44), (.tmp 45), (.con (.int .i64 0)), (.tmp 46)], none⟩,
  ⟨some 43, .mv (.tmp 47), none⟩,
  ⟨some 48, .extract (.tmp 43) 0, none⟩,
  ⟨some 49, .extract (.tmp 43) 1, none⟩,
  ⟨some 50, .extract (.tmp 43) 2, none⟩,
  ⟨some 51, .extract (.tmp 43) 3, none⟩,
  ⟨some 8, .alloc [(.int .i64 0), (.int .i64 0), (.int .i64 0), (.int .i64 0), (.int .i64 0), (.int .i64 0), (.int .i64 0), (.int .i64 0), (.int .i64 0), (.int .i64 0), (.int .i64 0), (.int .i64 0), (.int .i64 0), (.int .i64 0), (.int .i64 0), (.int .i64 0), (.int .i64 0), (.int .i64 0), (.int .i64 0), (.int .i64 0), (.int .i64 0), (.bool false), (.int .u32 0), (.int .u32 0), (.int .u32 0), (.int .u32 0), (.int .u32 0), (.int .u32 0), (.int .u32 0), (.int .u32 0), (.int .u32 0), (.int .u32 0), (.int .u32 0), (.int .u32 0), (.int .u32 0), (.int .u32 0), (.int .u32 0), (.int .u32 0), (.int .u32 0), (.int .u32 0), (.int .u32 0), (.int .u32 0), (.int .u32 0), (.int .u32 0), (.int .u32 0), (.int .u32 0), (.int .u32 0), (.int .u32 0), (.int .u32 0), (.int .u32 0), (.int .u32 0), (.bool false), (.imm true 0 []), (.imm true 0 []), (.int .u32 0), (.bool false), (.int .u32 0), (.imm true 0 []), (.imm true 0 []), (.int .i64 0), (.imm true 0 []), (.int .i64 0), (.imm true 0 []), (.int .i64 0), (.imm true 0 []), (.int .i64 0), (.int .i64 0), (.int .i64 0), (.int .i64 0), (.int .i64 0), (.int .i64 0), (.int .i64 0), (.int .i64 0), (.int .i64 0), (.int .i64 0), (.int .i64 0), (.int .i64 0), (.int .i64 0), (.int .i64 0), (.int .i64 0), (.int .i64 0), (.int .i64 0), (.int .i64 0), (.int .i64 0), (.int .i64 0), (.int .i64 0), (.int .i64 0), (.int .i64 0), (.int .i64 0), (.int .i64 0), (.int .i64 0), (.int .i64 0), (.int .i64 0), (.int .i64 0), (.int .i64 0), (.int .i64 0), (.int .i64 0), (.imm true 0 []), (.int .i64 0), (.int .i64 0), (.int .u64 0), (.imm true 0 []), (.imm true 0 []), (.imm true 0 []), (.imm true 0 []), (.imm true 0 []), (.imm true 0 []), (.imm true 0 []), (.imm true 0 []), (.imm true 0 []), (.int .i64 0), (.int .i64 0)], none⟩,
  ⟨some 9, .alloc [(.imm true 0 []), (.imm true 0 [])], none⟩,
  ⟨none, .store 112 (.tmp 8) (.tmp 48), none⟩,
  ⟨none, .store 2 (.tmp 9) (.tmp 49), none⟩,
  ⟨some 10, .mv (.tmp 50), none⟩,
  ⟨some 11, .mv (.tmp 51), none⟩] [])
(.seq (.region [⟨some 53, .load false 112 (.tmp 8), none⟩,
  ⟨some 54, .load false 2 (.tmp 9), none⟩,
  ⟨some 55, .call 11 [(.tmp 53), (.tmp 54), (.con (.int .i64 0))], none⟩,
  ⟨some 52, .mv (.tmp 55), none⟩,
  ⟨some 56, .extract (.tmp 52) 0, none⟩,
  ⟨some 57, .extract (.tmp 52) 1, none⟩,
  ⟨some 12, .alloc [(.int .i64 0), (.int .i64 0), (.int .i64 0), (.int .i64 0), (.int .i64 0), (.int .i64 0), (.int .i64 0), (.int .i64 0), (.int .i64 0), (.int .i64 0), (.int .i64 0), (.int .i64 0), (.int .i64 0), (.int .i64 0), (.int .i64 0), (.int .i64 0), (.int .i64 0), (.int .i64 0), (.int .i64 0), (.int .i64 0), (.int .i64 0), (.bool false), (.int .u32 0), (.int .u32 0), (.int .u32 0), (.int .u32 0), (.int .u32 0), (.int .u32 0), (.int .u32 0), (.int .u32 0), (.int .u32 0), (.int .u32 0), (.int .u32 0), (.int .u32 0), (.int .u32 0), (.int .u32 0), (.int .u32 0), (.int .u32 0), (.int .u32 0), (.int .u32 0), (.int .u32 0), (.int .u32 0), (.int .u32 0), (.int .u32 0), (.int .u32 0), (.int .u32 0), (.int .u32 0), (.int .u32 0), (.int .u32 0), (.int .u32 0), (.int .u32 0), (.bool false), (.imm true 0 []), (.imm true 0 []), (.int .u32 0), (.bool false), (.int .u32 0), (.imm true 0 []), (.imm true 0 []), (.int .i64 0), (.imm true 0 []), (.int .i64 0), (.imm true 0 []), (.int .i64 0), (.imm true 0 []), (.int .i64 0), (.int .i64 0), (.int .i64 0), (.int .i64 0), (.int .i64 0), (.int .i64 0), (.int .i64 0), (.int .i64 0), (.int .i64 0), (.int .i64 0), (.int .i64 0), (.int .i64 0), (.int .i64 0), (.int .i64 0), (.int .i64 0), (.int .i64 0), (.int .i64 0), (.int .i64 0), (.int .i64 0), (.int .i64 0), (.int .i64 0), (.int .i64 0), (.int .i64 0), (.int .i64 0), (.int .i64 0), (.int .i64 0), (.int .i64 0), (.int .i64 0), (.int .i64 0), (.int .i64 0), (.int .i64 0), (.int .i64 0), (.imm true 0 []), (.int .i64 0), (.int .i64 0), (.int .u64 0), (.imm true 0 []), (.imm true 0 []), (.imm true 0 []), (.imm true 0 []), (.imm true 0 []), (.imm true 0 []), (.imm true 0 []), (.imm true 0 []), (.imm true 0 []), (.int .i64 0), (.int .i64 0)], none⟩,
  ⟨some 13, .alloc [(.imm true 0 []), (.imm true 0 [])], none⟩,
  ⟨none, .store 112 (.tmp 12) (.tmp 56), none⟩,
  ⟨none, .store 2 (.tmp 13) (.tmp 57), none⟩] [])
(.seq (.seq (.region [⟨some 58, .mv (.tmp 11), none⟩,
   ⟨some 59, .un .not (.tmp 58), none⟩,
   ⟨some 60, .mv (.tmp 59), none⟩,
   ⟨some 61, .faddr (.tmp 8) 107, some (60, true)⟩,
   ⟨some 62, .load true 1 (.tmp 61), some (60, true)⟩,
   ⟨some 63, .faddr (.tmp 3) 107, some (60, true)⟩,
   ⟨some 64, .load true 1 (.tmp 63), some (60, true)⟩,
   ⟨some 65, .call 12 [(.tmp 62), (.tmp 64)], some (60, true)⟩,
   ⟨some 66, .un .not (.tmp 65), some (60, true)⟩,
   ⟨some 67, .pick (.tmp 60) (.tmp 66) (.con (.bool false)), none⟩,
   ⟨some 68, .mv (.tmp 67), none⟩,
   ⟨some 69, .mv (.tmp 11), some (68, false)⟩,
   ⟨some 70, .mv (.tmp 69), some (68, false)⟩,
   ⟨some 71, .faddr (.tmp 8) 107, some (70, true)⟩,
   ⟨some 72, .load true 1 (.tmp 71), some (70, true)⟩,
   ⟨some 73, .len (.tmp 72), some (70, true)⟩,
   ⟨some 74, .bin .add (.tmp 73) (.con (.int .i64 1)), some (70, true)⟩,
   ⟨some 75, .faddr (.tmp 3) 107, some (70, true)⟩,
   ⟨some 76, .load true 1 (.tmp 75), some (70, true)⟩,
   ⟨some 77, .len (.tmp 76), some (70, true)⟩,
   ⟨some 78, .bin .neq (.tmp 74) (.tmp 77), some (70, true)⟩,
   ⟨some 79, .pick (.tmp 70) (.tmp 78) (.con (.bool false)), some (68, false)⟩,
   ⟨some 80, .pick (.tmp 68) (.con (.bool true)) (.tmp 79), none⟩] [])
 (.cond (.tmp 80)
  (.seq (.region [⟨some 6, .mv (.con (.bool false)), none⟩] [])
  .ret)
  .skip))
(.seq (.region [⟨some 81, .faddr (.tmp 8) 107, none⟩,
  ⟨some 82, .load true 1 (.tmp 81), none⟩,
  ⟨some 83, .load false 2 (.tmp 9), none⟩,
  ⟨some 84, .call 9 [(.tmp 83)], none⟩,
  ⟨some 85, .call 8 [(.tmp 82), (.tmp 84)], none⟩,
  ⟨some 86, .mv (.tmp 7), none⟩,
  ⟨some 87, .call 13 [(.tmp 85), (.tmp 86)], none⟩,
  ⟨some 88, .mv (.tmp 87), none⟩,
  ⟨some 89, .load false 2 (.tmp 13), some (88, true)⟩,
  ⟨some 90, .call 9 [(.tmp 89)], some (88, true)⟩,
  ⟨some 91, .mv (.tmp 7), some (88, true)⟩,
  ⟨some 92, .call 13 [(.tmp 90), (.tmp 91)], some (88, true)⟩,
  ⟨some 93, .pick (.tmp 88) (.tmp 92) (.con (.bool false)), none⟩,
  ⟨some 94, .mv (.tmp 93), none⟩,
  ⟨some 95, .faddr (.tmp 12) 107, some (94, true)⟩,
  ⟨some 96, .load true 1 (.tmp 95), some (94, true)⟩,
  ⟨some 97, .len (.tmp 96), some (94, true)⟩,
  ⟨some 98, .bin .eql (.tmp 97) (.con (.int .i64 0)), some (94, true)⟩,
  ⟨some 99, .pick (.tmp 94) (.tmp 98) (.con (.bool false)), none⟩,
  ⟨some 100, .mv (.tmp 99), none⟩,
  ⟨some 101, .faddr (.tmp 8) 22, some (100, true)⟩,
  ⟨some 102, .load false 30 (.tmp 101), some (100, true)⟩,
  ⟨some 103, .faddr (.tmp 3) 22, some (100, true)⟩,
  ⟨some 104, .load false 30 (.tmp 103), some (100, true)⟩,
  ⟨some 105, .aeq false [some .u32, some .u32, some .u32, some .u32, some .u32, some .u32, some .u32, some .u32, some .u32, some .u32, some .u32, some .u32, some .u32, some .u32, some .u32, some .u32, some .u32, some .u32, some .u32, some .u32, some .u32, some .u32, some .u32, some .u32, some .u32, some .u32, some .u32, some .u32, some .u32, none] (.tmp 102) (.tmp 104), some (100, true)⟩,
  ⟨some 106, .pick (.tmp 100) (.tmp 105) (.con (.bool false)), none⟩,
  ⟨some 107, .mv (.tmp 106), none⟩,
  ⟨some 108, .call 7 [], some (107, true)⟩,
  ⟨some 109, .pick (.tmp 107) (.tmp 108) (.con (.bool false)), none⟩,
  ⟨some 6, .mv (.tmp 109), none⟩] [(1, 3)])
.ret))))))), [.tmp 6], true, none, false⟩
def f4 : AFun := ⟨83, (.seq (.region [⟨some 2, .box (.tmp 0), none⟩,
  ⟨some 3, .box (.tmp 1), none⟩,
  ⟨some 4, .mv (.con (.bool false)), none⟩] [])
(.seq (.seq (.region [⟨some 7, .load false 112 (.tmp 2), none⟩,
   ⟨some 8, .call 14 [(.tmp 7)], none⟩,
   ⟨some 9, .un .not (.tmp 8), none⟩,
   ⟨some 10, .mv (.tmp 9), none⟩,
   ⟨some 11, .faddr (.tmp 2) 52, some (10, false)⟩,
   ⟨some 12, .load true 1 (.tmp 11), some (10, false)⟩,
   ⟨some 13, .len (.tmp 12), some (10, false)⟩,
   ⟨some 14, .bin .gtr (.tmp 13) (.con (.int .i64 4096)), some (10, false)⟩,
   ⟨some 15, .pick (.tmp 10) (.con (.bool true)) (.tmp 14), none⟩,
   ⟨some 16, .mv (.tmp 15), none⟩,
   ⟨some 17, .faddr (.tmp 2) 62, some (16, false)⟩,
   ⟨some 18, .load true 1 (.tmp 17), some (16, false)⟩,
   ⟨some 19, .len (.tmp 18), some (16, false)⟩,
   ⟨some 20, .bin .gtr (.tmp 19) (.con (.int .i64 20)), some (16, false)⟩,
   ⟨some 21, .pick (.tmp 16) (.con (.bool true)) (.tmp 20), none⟩,
   ⟨some 22, .mv (.tmp 21), none⟩,
   ⟨some 23, .faddr (.tmp 2) 107, some (22, false)⟩,
   ⟨some 24, .load true 1 (.tmp 23), some (22, false)⟩,
   ⟨some 25, .len (.tmp 24), some (22, false)⟩,
   ⟨some 26, .bin .gtr (.tmp 25) (.con (.int .i64 20)), some (22, false)⟩,
   ⟨some 27, .pick (.tmp 22) (.con (.bool true)) (.tmp 26), none⟩,
   ⟨some 28, .mv (.tmp 27), none⟩,
   ⟨some 29, .faddr (.tmp 2) 109, some (28, false)⟩,
   ⟨some 30, .load true 1 (.tmp 29), some (28, false)⟩,
   ⟨some 31, .len (.tmp 30), some (28, false)⟩,
   ⟨some 32, .bin .gtr (.tmp 31) (.con (.int .i64 40)), some (28, false)⟩,
   ⟨some 33, .pick (.tmp 28) (.con (.bool true)) (.tmp 32), none⟩,
   ⟨some 34, .mv (.tmp 33), none⟩,
   ⟨some 35, .faddr (.tmp 3) 0, some (34, false)⟩,
   ⟨some 36, .load true 1 (.tmp 35), some (34, false)⟩,
   ⟨some 37, .len (.tmp 36), some (34, false)⟩,
   ⟨some 38, .bin .gtr (.tmp 37) (.con (.int .i64 4096)), some (34, false)⟩,
   ⟨some 39, .pick (.tmp 34) (.con (.bool true)) (.tmp 38), none⟩,
   ⟨some 40, .mv (.tmp 39), none⟩,
   ⟨some 41, .faddr (.tmp 3) 1, some (40, false)⟩,
   ⟨some 42, .load true 1 (.tmp 41), some (40, false)⟩,
   ⟨some 43, .len (.tmp 42), some (40, false)⟩,
   ⟨some 44, .bin .gtr (.tmp 43) (.con (.int .i64 4)), some (40, false)⟩,
   ⟨some 45, .pick (.tmp 40) (.con (.bool true)) (.tmp 44), none⟩] [])
 (.cond (.tmp 45)
  (.seq (.region [⟨some 4, .mv (.con (.bool false)), none⟩] [])
  .ret)
  .skip))
(.seq (.seq (.region [⟨some 5, .mv (.con (.int .i64 0)), none⟩] [])
 (.block 0 (.loop (.seq (.seq (.region [⟨some 46, .mv (.tmp 5), none⟩,
      ⟨some 47, .faddr (.tmp 3) 1, none⟩,
      ⟨some 48, .load true 1 (.tmp 47), none⟩,
      ⟨some 49, .len (.tmp 48), none⟩,
      ⟨some 50, .bin .lss (.tmp 46) (.tmp 49), none⟩] [])
    (.cond (.tmp 50)
     .skip
     (.exit 0)))
   (.seq (.block 1 (.seq (.seq (.region [⟨some 53, .faddr (.tmp 3) 1, none⟩,
        ⟨some 54, .load true 1 (.tmp 53), none⟩,
        ⟨some 55, .mv (.tmp 5), none⟩,
        ⟨some 56, .isl 1 (.tmp 54) (.tmp 55), none⟩,
        ⟨some 57, .faddr (.tmp 56) 0, none⟩,
        ⟨some 58, .load true 1 (.tmp 57), none⟩,
        ⟨some 59, .len (.tmp 58), none⟩,
        ⟨some 60, .bin .gtr (.tmp 59) (.con (.int .i64 20)), none⟩] [])
      (.cond (.tmp 60)
       (.seq (.region [⟨some 4, .mv (.con (.bool false)), none⟩] [])
       .ret)
       .skip))
     (.seq (.region [⟨some 6, .mv (.con (.int .i64 0)), none⟩] [])
     (.block 2 (.loop (.seq (.seq (.region [⟨some 61, .mv (.tmp 6), none⟩,
          ⟨some 62, .faddr (.tmp 3) 1, none⟩,
          ⟨some 63, .load true 1 (.tmp 62), none⟩,
          ⟨some 64, .mv (.tmp 5), none⟩,
          ⟨some 65, .isl 1 (.tmp 63) (.tmp 64), none⟩,
          ⟨some 66, .faddr (.tmp 65) 0, none⟩,
          ⟨some 67, .load true 1 (.tmp 66), none⟩,
          ⟨some 68, .len (.tmp 67), none⟩,
          ⟨some 69, .bin .lss (.tmp 61) (.tmp 68), none⟩] [])
        (.cond (.tmp 69)
         .skip
         (.exit 2)))
       (.seq (.block 3 (.seq (.region [⟨some 72, .faddr (.tmp 3) 1, none⟩,
           ⟨some 73, .load true 1 (.tmp 72), none⟩,
           ⟨some 74, .mv (.tmp 5), none⟩,
           ⟨some 75, .isl 1 (.tmp 73) (.tmp 74), none⟩,
           ⟨some 76, .faddr (.tmp 75) 0, none⟩,
           ⟨some 77, .load true 1 (.tmp 76), none⟩,
           ⟨some 78, .mv (.tmp 6), none⟩,
           ⟨some 79, .isl 1 (.tmp 77) (.tmp 78), none⟩,
           ⟨some 80, .load true 1 (.tmp 79), none⟩,
           ⟨some 81, .len (.tmp 80), none⟩,
           ⟨some 82, .bin .gtr (.tmp 81) (.con (.int .i64 10)), none⟩] [])
         (.cond (.tmp 82)
          (.seq (.region [⟨some 4, .mv (.con (.bool false)), none⟩] [])
          .ret)
          .skip)))
       (.region [⟨some 70, .mv (.tmp 6), none⟩,
        ⟨some 71, .bin .add (.tmp 70) (.con (.int .i64 1)), none⟩,
        ⟨some 6, .mv (.tmp 71), none⟩] []))))))))
   (.region [⟨some 51, .mv (.tmp 5), none⟩,
    ⟨some 52, .bin .add (.tmp 51) (.con (.int .i64 1)), none⟩,
    ⟨some 5, .mv (.tmp 52), none⟩] []))))))
(.seq (.region [⟨some 4, .mv (.con (.bool true)), none⟩] [])
.ret)))), [.tmp 4], true, none, false⟩
def f5 : AFun := ⟨22, (.seq (.region [⟨some 1, .box (.tmp 0), none⟩,
  ⟨some 2, .mv (.con (.bool false)), none⟩] [])
(.seq (.region [⟨some 3, .faddr (.tmp 1) 0, none⟩,
  ⟨some 4, .load true 1 (.tmp 3), none⟩,
  ⟨some 5, .call 15 [(.tmp 4)], none⟩,
  ⟨some 6, .mv (.tmp 5), none⟩,
  ⟨some 7, .faddr (.tmp 1) 1, some (6, true)⟩,
  ⟨some 8, .load true 1 (.tmp 7), some (6, true)⟩,
  ⟨some 9, .len (.tmp 8), some (6, true)⟩,
  ⟨some 10, .bin .geq (.tmp 9) (.con (.int .i64 1)), some (6, true)⟩,
  ⟨some 11, .pick (.tmp 6) (.tmp 10) (.con (.bool false)), none⟩,
  ⟨some 12, .mv (.tmp 11), none⟩,
  ⟨some 13, .faddr (.tmp 1) 1, some (12, true)⟩,
  ⟨some 14, .load true 1 (.tmp 13), some (12, true)⟩,
  ⟨some 15, .len (.tmp 14), some (12, true)⟩,
  ⟨some 16, .bin .leq (.tmp 15) (.con (.int .i64 2)), some (12, true)⟩,
  ⟨some 17, .pick (.tmp 12) (.tmp 16) (.con (.bool false)), none⟩,
  ⟨some 18, .mv (.tmp 17), none⟩,
  ⟨some 19, .load false 2 (.tmp 1), some (18, true)⟩,
  ⟨some 20, .call 16 [(.tmp 19)], some (18, true)⟩,
  ⟨some 21, .pick (.tmp 18) (.tmp 20) (.con (.bool false)), none⟩,
  ⟨some 2, .mv (.tmp 21), none⟩] [])
.ret)), [.tmp 2], true, none, false⟩
def f6 : AFun := ⟨53, (.seq (.region [⟨some 4, .mv (.con (.bool false)), none⟩] [])
(.seq (.seq (.region [⟨some 7, .mv (.tmp 0), none⟩,
   ⟨some 8, .len (.tmp 7), none⟩,
   ⟨some 9, .bin .gtr (.tmp 8) (.con (.int .i64 8)), none⟩] [])
 (.cond (.tmp 9)
  (.seq (.region [⟨some 4, .mv (.con (.bool false)), none⟩] [])
  .ret)
  .skip))
(.seq (.seq (.region [⟨some 5, .mv (.con (.int .i64 0)), none⟩] [])
 (.block 0 (.loop (.seq (.seq (.region [⟨some 10, .mv (.tmp 5), none⟩,
      ⟨some 11, .mv (.tmp 0), none⟩,
      ⟨some 12, .len (.tmp 11), none⟩,
      ⟨some 13, .bin .lss (.tmp 10) (.tmp 12), none⟩] [])
    (.cond (.tmp 13)
     .skip
     (.exit 0)))
   (.seq (.block 1 (.seq (.region [⟨some 16, .mv (.tmp 0), none⟩,
       ⟨some 17, .mv (.tmp 5), none⟩,
       ⟨some 18, .isl 3 (.tmp 16) (.tmp 17), none⟩,
       ⟨some 19, .faddr (.tmp 18) 2, none⟩,
       ⟨some 20, .load true 1 (.tmp 19), none⟩,
       ⟨some 6, .mv (.tmp 20), none⟩] [])
     (.seq (.region [⟨some 21, .mv (.tmp 6), none⟩,
       ⟨some 22, .bin .neq (.tmp 21) (.con (.int .i64 1)), none⟩,
       ⟨some 23, .mv (.tmp 22), none⟩,
       ⟨some 24, .mv (.tmp 6), some (23, true)⟩,
       ⟨some 25, .bin .neq (.tmp 24) (.con (.int .i64 2)), some (23, true)⟩,
       ⟨some 26, .pick (.tmp 23) (.tmp 25) (.con (.bool false)), none⟩,
       ⟨some 27, .mv (.tmp 26), none⟩,
       ⟨some 28, .mv (.tmp 6), some (27, true)⟩,
       ⟨some 29, .bin .neq (.tmp 28) (.con (.int .i64 4)), some (27, true)⟩,
       ⟨some 30, .pick (.tmp 27) (.tmp 29) (.con (.bool false)), none⟩,
       ⟨some 31, .mv (.tmp 30), none⟩,
       ⟨some 32, .mv (.tmp 0), some (31, false)⟩,
       ⟨some 33, .mv (.tmp 5), some (31, false)⟩,
       ⟨some 34, .isl 3 (.tmp 32) (.tmp 33), some (31, false)⟩,
       ⟨some 35, .faddr (.tmp 34) 0, some (31, false)⟩,
       ⟨some 36, .load true 1 (.tmp 35), some (31, false)⟩,
       ⟨some 37, .mv (.tmp 6), some (31, false)⟩,
       ⟨some 38, .conv .u32 (.tmp 37), some (31, false)⟩,
       ⟨some 39, .bin .rem (.tmp 36) (.tmp 38), some (31, false)⟩,
       ⟨some 40, .bin .neq (.tmp 39) (.con (.int .u32 0)), some (31, false)⟩,
       ⟨some 41, .pick (.tmp 31) (.con (.bool true)) (.tmp 40), none⟩,
       ⟨some 42, .mv (.tmp 41), none⟩,
       ⟨some 43, .mv (.tmp 1), some (42, false)⟩,
       ⟨some 44, .mv (.tmp 0), some (42, false)⟩,
       ⟨some 45, .mv (.tmp 5), some (42, false)⟩,
       ⟨some 46, .isl 3 (.tmp 44) (.tmp 45), some (42, false)⟩,
       ⟨some 47, .faddr (.tmp 46) 0, some (42, false)⟩,
       ⟨some 48, .load true 1 (.tmp 47), some (42, false)⟩,
       ⟨some 49, .mv (.tmp 6), some (42, false)⟩,
       ⟨some 50, .call 17 [(.tmp 43), (.tmp 48), (.tmp 49)], some (42, false)⟩,
       ⟨some 51, .bin .neq (.tmp 50) (.con (.int .i64 0)), some (42, false)⟩,
       ⟨some 52, .pick (.tmp 42) (.con (.bool true)) (.tmp 51), none⟩] [])
     (.cond (.tmp 52)
      (.seq (.region [⟨some 4, .mv (.con (.bool false)), none⟩] [])
      .ret)
      .skip))))
   (.region [⟨some 14, .mv (.tmp 5), none⟩,
    ⟨some 15, .bin .add (.tmp 14) (.con (.int .i64 1)), none⟩,
    ⟨some 5, .mv (.tmp 15), none⟩] []))))))
(.seq (.region [⟨some 4, .mv (.con (.bool true)), none⟩] [])
.ret)))), [.tmp 4], true, none, false⟩
def f7 : AFun := ⟨75, (.seq (.region [⟨some 0, .mv (.con (.bool false)), none⟩] [])
(.seq (.region [⟨some 12, .build [(.int .i64 0), (.int .i64 0), (.int .i64 0), (.int .i64 0), (.int .i64 0), (.int .i64 0), (.int .i64 0), (.int .i64 0), (.int .i64 0), (.int .i64 0), (.int .i64 0), (.int .i64 0), (.int .i64 0), (.int .i64 0), (.int .i64 0), (.int .i64 0), (.int .i64 0), (.int .i64 0), (.int .i64 0), (.int .i64 0), (.int .i64 0), (.bool false)] [(18, 1, (.con (.int .i64 3)))], none⟩,
  ⟨some 13, .build [(.int .u32 0), (.int .u32 0), (.int .i64 0)] [(0, 1, (.con (.int .u32 20))), (1, 1, (.con (.int .u32 258))), (2, 1, (.con (.int .i64 2)))], none⟩,
  ⟨some 14, .bsl [(.int .u32 0), (.int .u32 0), (.int .i64 0)] 1 3 [(0, 3, (.tmp 13))], none⟩,
  ⟨some 15, .build [(.int .i64 0), (.int .i64 0), (.int .i64 0), (.int .i64 0), (.int .i64 0), (.int .i64 0), (.int .i64 0), (.int .i64 0), (.int .i64 0), (.int .i64 0), (.int .i64 0), (.int .i64 0), (.int .i64 0), (.int .i64 0), (.int .i64 0), (.int .i64 0), (.int .i64 0), (.int .i64 0), (.int .i64 0), (.int .i64 0), (.int .i64 0), (.bool false), (.int .u32 0), (.int .u32 0), (.int .u32 0), (.int .u32 0), (.int .u32 0), (.int .u32 0), (.int .u32 0), (.int .u32 0), (.int .u32 0), (.int .u32 0), (.int .u32 0), (.int .u32 0), (.int .u32 0), (.int .u32 0), (.int .u32 0), (.int .u32 0), (.int .u32 0), (.int .u32 0), (.int .u32 0), (.int .u32 0), (.int .u32 0), (.int .u32 0), (.int .u32 0), (.int .u32 0), (.int .u32 0), (.int .u32 0), (.int .u32 0), (.int .u32 0), (.int .u32 0), (.bool false), (.imm true 0 []), (.imm true 0 []), (.int .u32 0), (.bool false), (.int .u32 0), (.imm true 0 []), (.imm true 0 []), (.int .i64 0), (.imm true 0 []), (.int .i64 0), (.imm true 0 []), (.int .i64 0), (.imm true 0 []), (.int .i64 0), (.int .i64 0), (.int .i64 0), (.int .i64 0), (.int .i64 0), (.int .i64 0), (.int .i64 0), (.int .i64 0), (.int .i64 0), (.int .i64 0), (.int .i64 0), (.int .i64 0), (.int .i64 0), (.int .i64 0), (.int .i64 0), (.int .i64 0), (.int .i64 0), (.int .i64 0), (.int .i64 0), (.int .i64 0), (.int .i64 0), (.int .i64 0), (.int .i64 0), (.int .i64 0), (.int .i64 0), (.int .i64 0), (.int .i64 0), (.int .i64 0), (.int .i64 0), (.int .i64 0), (.int .i64 0), (.int .i64 0), (.imm true 0 []), (.int .i64 0), (.int .i64 0), (.int .u64 0), (.imm true 0 []), (.imm true 0 []), (.imm true 0 []), (.imm true 0 []), (.imm true 0 []), (.imm true 0 []), (.imm true 0 []), (.imm true 0 []), (.imm true 0 []), (.int .i64 0), (.int .i64 0)] [(0, 22, (.tmp 12)), (107, 1, (.tmp 14))], none⟩,
  ⟨some 1, .alloc [(.int .i64 0), (.int .i64 0), (.int .i64 0), (.int .i64 0), (.int .i64 0), (.int .i64 0), (.int .i64 0), (.int .i64 0), (.int .i64 0), (.int .i64 0), (.int .i64 0), (.int .i64 0), (.int .i64 0), (.int .i64 0), (.int .i64 0), (.int .i64 0), (.int .i64 0), (.int .i64 0), (.int .i64 0), (.int .i64 0), (.int .i64 0), (.bool false), (.int .u32 0), (.int .u32 0), (.int .u32 0), (.int .u32 0), (.int .u32 0), (.int .u32 0), (.int .u32 0), (.int .u32 0), (.int .u32 0), (.int .u32 0), (.int .u32 0), (.int .u32 0), (.int .u32 0), (.int .u32 0), (.int .u32 0), (.int .u32 0), (.int .u32 0), (.int .u32 0), (.int .u32 0), (.int .u32 0), (.int .u32 0), (.int .u32 0), (.int .u32 0), (.int .u32 0), (.int .u32 0), (.int .u32 0), (.int .u32 0), (.int .u32 0), (.int .u32 0), (.bool false), (.imm true 0 []), (.imm true 0 []), (.int .u32 0), (.bool false), (.int .u32 0), (.imm true 0 []), (.imm true 0 []), (.int .i64 0), (.imm true 0 []), (.int .i64 0), (.imm true 0 []), (.int .i64 0), (.imm true 0 []), (.int .i64 0), (.int .i64 0), (.int .i64 0), (.int .i64 0), (.int .i64 0), (.int .i64 0), (.int .i64 0), (.int .i64 0), (.int .i64 0), (.int .i64 0), (.int .i64 0), (.int .i64 0), (.int .i64 0), (.int .i64 0), (.int .i64 0), (.int .i64 0), (.int .i64 0), (.int .i64 0), (.int .i64 0), (.int .i64 0), (.int .i64 0), (.int .i64 0), (.int .i64 0), (.int .i64 0), (.int .i64 0), (.int .i64 0), (.int .i64 0), (.int .i64 0), (.int .i64 0), (.int .i64 0), (.int .i64 0), (.int .i64 0), (.imm true 0 []), (.int .i64 0), (.int .i64 0), (.int .u64 0), (.imm true 0 []), (.imm true 0 []), (.imm true 0 []), (.imm true 0 []), (.imm true 0 []), (.imm true 0 []), (.imm true 0 []), (.imm true 0 []), (.imm true 0 []), (.int .i64 0), (.int .i64 0)], none⟩,
  ⟨none, .store 112 (.tmp 1) (.tmp 15), none⟩] [])
(.seq (.region [⟨some 16, .mksl [(.int .u8 0)] 1 1 (.con (.int .i64 64)) (.con (.int .i64 64)), none⟩,
  ⟨some 17, .call 18 [(.tmp 16), (.con (.int .i64 1)), (.con (.int .i64 1)), (.con (.int .i64 1))], none⟩,
  ⟨some 2, .alloc [(.imm true 0 []), (.imm true 0 [])], none⟩,
  ⟨none, .store 2 (.tmp 2) (.tmp 17), none⟩] [])
(.seq (.region [⟨some 19, .load false 112 (.tmp 1), none⟩,
  ⟨some 20, .load false 2 (.tmp 2), none⟩,
  ⟨some 21, .build [(.int .u32 0), (.int .u32 0), (.int .i64 0), (.bool false), (.int .i64 0)] [(3, 1, (.con (.bool true)))], none⟩,
  ⟨some 22, .call 10 [(.tmp 19), (.tmp 20), (.con (.int .i64 0)), (.tmp 21)], none⟩,
  ⟨some 18, .mv (.tmp 22), none⟩,
  ⟨some 23, .extract (.tmp 18) 0, none⟩,
  ⟨some 24, .extract (.tmp 18) 1, none⟩,
  ⟨some 25, .extract (.tmp 18) 2, none⟩,
  ⟨some 26, .extract (.tmp 18) 3, none⟩,
  ⟨some 3, .alloc [(.int .i64 0), (.int .i64 0), (.int .i64 0), (.int .i64 0), (.int .i64 0), (.int .i64 0), (.int .i64 0), (.int .i64 0), (.int .i64 0), (.int .i64 0), (.int .i64 0), (.int .i64 0), (.int .i64 0), (.int .i64 0), (.int .i64 0), (.int .i64 0), (.int .i64 0), (.int .i64 0), (.int .i64 0), (.int .i64 0), (.int .i64 0), (.bool false), (.int .u32 0), (.int .u32 0), (.int .u32 0), (.int .u32 0), (.int .u32 0), (.int .u32 0), (.int .u32 0), (.int .u32 0), (.int .u32 0), (.int .u32 0), (.int .u32 0), (.int .u32 0), (.int .u32 0), (.int .u32 0), (.int .u32 0), (.int .u32 0), (.int .u32 0), (.int .u32 0), (.int .u32 0), (.int .u32 0), (.int .u32 0), (.int .u32 0), (.int .u32 0), (.int .u32 0), (.int .u32 0), (.int .u32 0), (.int .u32 0), (.int .u32 0), (.int .u32 0), (.bool false), (.imm true 0 []), (.imm true 0 []), (.int .u32 0), (.bool false), (.int .u32 0), (.imm true 0 []), (.imm true 0 []), (.int .i64 0), (.imm true 0 []), (.int .i64 0), (.imm true 0 []), (.int .i64 0), (.imm true 0 []), (.int .i64 0), (.int .i64 0), (.int .i64 0), (.int .i64 0), (.int .i64 0), (.int .i64 0), (.int .i64 0), (.int .i64 0), (.int .i64 0), (.int .i64 0), (.int .i64 0), (.int .i64 0), (.int .i64 0), (.int .i64 0), (.int .i64 0), (.int .i64 0), (.int .i64 0), (.int .i64 0), (.int .i64 0), (.int .i64 0), (.int .i64 0), (.int .i64 0), (.int .i64 0), (.int .i64 0), (.int .i64 0), (.int .i64 0), (.int .i64 0), (.int .i64 0), (.int .i64 0), (.int .i64 0), (.int .i64 0), (.int .i64 0), (.imm true 0 []), (.int .i64 0), (.int .i64 0), (.int .u64 0), (.imm true 0 []), (.imm true 0 []), (.imm true 0 []), (.imm true 0 []), (.imm true 0 []), (.imm true 0 []), (.imm true 0 []), (.imm true 0 []), (.imm true 0 []), (.int .i64 0), (.int .i64 0)], none⟩,
  ⟨some 4, .alloc [(.imm true 0 []), (.imm true 0 [])], none⟩,
  ⟨none, .store 112 (.tmp 3) (.tmp 23), none⟩,
  ⟨none, .store 2 (.tmp 4) (.tmp 24), none⟩,
  ⟨some 5, .mv (.tmp 25), none⟩,
  ⟨some 6, .mv (.tmp 26), none⟩] [])
(.seq (.region [⟨some 28, .load false 112 (.tmp 1), none⟩,
  ⟨some 29, .load false 2 (.tmp 2), none⟩,
  ⟨some 30, .build [(.int .u32 0), (.int .u32 0), (.int .i64 0), (.bool false), (.int .i64 0)] [], none⟩,
  ⟨some 31, .call 10 [(.tmp 28), (.tmp 29), (.con (.int .i64 0)), (.tmp 30)], none⟩,
  ⟨some 27, .mv (.tmp 31), none⟩,
  ⟨some 32, .extract (.tmp 27) 0, none⟩,
  ⟨some 33, .extract (.tmp 27) 1, none⟩,
  ⟨some 34, .extract (.tmp 27) 2, none⟩,
  ⟨some 35, .extract (.tmp 27) 3, none⟩,
  ⟨some 7, .alloc [(.int .i64 0), (.int .i64 0), (.int .i64 0), (.int .i64 0), (.int .i64 0), (.int .i64 0), (.int .i64 0), (.int .i64 0), (.int .i64 0), (.int .i64 0), (.int .i64 0), (.int .i64 0), (.int .i64 0), (.int .i64 0), (.int .i64 0), (.int .i64 0), (.int .i64 0), (.int .i64 0), (.int .i64 0), (.int .i64 0), (.int .i64 0), (.bool false), (.int .u32 0), (.int .u32 0), (.int .u32 0), (.int .u32 0), (.int .u32 0), (.int .u32 0), (.int .u32 0), (.int .u32 0), (.int .u32 0), (.int .u32 0), (.int .u32 0), (.int .u32 0), (.int .u32 0), (.int .u32 0), (.int .u32 0), (.int .u32 0), (.int .u32 0), (.int .u32 0), (.int .u32 0), (.int .u32 0), (.int .u32 0), (.int .u32 0), (.int .u32 0), (.int .u32 0), (.int .u32 0), (.int .u32 0), (.int .u32 0), (.int .u32 0), (.int .u32 0), (.bool false), (.imm true 0 []), (.imm true 0 []), (.int .u32 0), (.bool false), (.int .u32 0), (.imm true 0 []), (.imm true 0 []), (.int .i64 0), (.imm true 0 []), (.int .i64 0), (.imm true 0 []), (.int .i64 0), (.imm true 0 []), (.int .i64 0), (.int .i64 0), (.int .i64 0), (.int .i64 0), (.int .i64 0), (.int .i64 0), (.int .i64 0), (.int .i64 0), (.int .i64 0), (.int .i64 0), (.int .i64 0), (.int .i64 0), (.int .i64 0), (.int .i64 0), (.int .i64 0), (.int .i64 0), (.int .i64 0), (.int .i64 0), (.int .i64 0), (.int .i64 0), (.int .i64 0), (.int .i64 0), (.int .i64 0), (.int .i64 0), (.int .i64 0), (.int .i64 0), (.int .i64 0), (.int .i64 0), (.int .i64 0), (.int .i64 0), (.int .i64 0), (.int .i64 0), (.imm true 0 []), (.int .i64 0), (.int .i64 0), (.int .u64 0), (.imm true 0 []), (.imm true 0 []), (.imm true 0 []), (.imm true 0 []), (.imm true 0 []), (.imm true 0 []), (.imm true 0 []), (.imm true 0 []), (.imm true 0 []), (.int .i64 0), (.int .i64 0)], none⟩,
  ⟨some 8, .alloc [(.imm true 0 []), (.imm true 0 [])], none⟩,
  ⟨none, .store 112 (.tmp 7) (.tmp 32), none⟩,
  ⟨none, .store 2 (.tmp 8) (.tmp 33), none⟩,
  ⟨some 9, .mv (.tmp 34), none⟩,
  ⟨some 10, .mv (.tmp 35), none⟩] [])
(.seq (.region [⟨some 36, .load false 2 (.tmp 4), none⟩,
  ⟨some 37, .call 19 [(.tmp 36)], none⟩,
  ⟨some 11, .mv (.tmp 37), none⟩] [])
(.seq (.region [⟨some 38, .mv (.tmp 6), none⟩,
  ⟨some 39, .mv (.tmp 38), none⟩,
  ⟨some 40, .mv (.tmp 10), some (39, true)⟩,
  ⟨some 41, .un .not (.tmp 40), some (39, true)⟩,
  ⟨some 42, .pick (.tmp 39) (.tmp 41) (.con (.bool false)), none⟩,
  ⟨some 43, .mv (.tmp 42), none⟩,
  ⟨some 44, .mv (.tmp 5), some (43, true)⟩,
  ⟨some 45, .bin .eql (.tmp 44) (.con (.int .u32 1)), some (43, true)⟩,
  ⟨some 46, .pick (.tmp 43) (.tmp 45) (.con (.bool false)), none⟩,
  ⟨some 47, .mv (.tmp 46), none⟩,
  ⟨some 48, .faddr (.tmp 3) 107, some (47, true)⟩,
  ⟨some 49, .load true 1 (.tmp 48), some (47, true)⟩,
  ⟨some 50, .len (.tmp 49), some (47, true)⟩,
  ⟨some 51, .bin .eql (.tmp 50) (.con (.int .i64 0)), some (47, true)⟩,
  ⟨some 52, .pick (.tmp 47) (.tmp 51) (.con (.bool false)), none⟩,
  ⟨some 53, .mv (.tmp 52), none⟩,
  ⟨some 54, .faddr (.tmp 3) 110, some (53, true)⟩,
  ⟨some 55, .load true 1 (.tmp 54), some (53, true)⟩,
  ⟨some 56, .bin .eql (.tmp 55) (.con (.int .i64 3)), some (53, true)⟩,
  ⟨some 57, .pick (.tmp 53) (.tmp 56) (.con (.bool false)), none⟩,
  ⟨some 58, .mv (.tmp 57), none⟩,
  ⟨some 59, .mv (.tmp 11), some (58, true)⟩,
  ⟨some 60, .len (.tmp 59), some (58, true)⟩,
  ⟨some 61, .bin .eql (.tmp 60) (.con (.int .i64 64)), some (58, true)⟩,
  ⟨some 62, .pick (.tmp 58) (.tmp 61) (.con (.bool false)), none⟩,
  ⟨some 63, .mv (.tmp 62), none⟩,
  ⟨some 64, .mv (.tmp 11), some (63, true)⟩,
  ⟨some 65, .isl 1 (.tmp 64) (.con (.int .i64 20)), some (63, true)⟩,
  ⟨some 66, .load true 1 (.tmp 65), some (63, true)⟩,
  ⟨some 67, .bin .eql (.tmp 66) (.con (.int .u8 2)), some (63, true)⟩,
  ⟨some 68, .pick (.tmp 63) (.tmp 67) (.con (.bool false)), none⟩,
  ⟨some 69, .mv (.tmp 68), none⟩,
  ⟨some 70, .mv (.tmp 11), some (69, true)⟩,
  ⟨some 71, .isl 1 (.tmp 70) (.con (.int .i64 21)), some (69, true)⟩,
  ⟨some 72, .load true 1 (.tmp 71), some (69, true)⟩,
  ⟨some 73, .bin .eql (.tmp 72) (.con (.int .u8 1)), some (69, true)⟩,
  ⟨some 74, .pick (.tmp 69) (.tmp 73) (.con (.bool false)), none⟩,
  ⟨some 0, .mv (.tmp 74), none⟩] [])
.ret))))))), [.tmp 0], true, none, false⟩
def f8 : AFun := ⟨54, (.seq (.region [⟨some 4, .mv (.con (.imm true 0 [])), none⟩] [])
(.seq (.region [⟨some 10, .bsl [] 0 1 [], none⟩,
  ⟨some 5, .mv (.tmp 10), none⟩] [])
(.seq (.seq (.region [⟨some 6, .mv (.con (.int .i64 0)), none⟩] [])
 (.block 0 (.loop (.seq (.seq (.region [⟨some 11, .mv (.tmp 6), none⟩,
      ⟨some 12, .mv (.tmp 1), none⟩,
      ⟨some 13, .len (.tmp 12), none⟩,
      ⟨some 14, .bin .lss (.tmp 11) (.tmp 13), none⟩] [])
    (.cond (.tmp 14)
     .skip
     (.exit 0)))
   (.seq (.block 1 (.region [⟨some 17, .mv (.tmp 5), none⟩,
      ⟨some 18, .mv (.tmp 1), none⟩,
      ⟨some 19, .mv (.tmp 6), none⟩,
      ⟨some 20, .isl 1 (.tmp 18) (.tmp 19), none⟩,
      ⟨some 21, .load true 1 (.tmp 20), none⟩,
      ⟨some 22, .bsl [(.int .u8 0)] 1 1 [(0, 1, (.tmp 21))], none⟩,
      ⟨some 23, .append 1 1 (.tmp 17) (.tmp 22), none⟩,
      ⟨some 5, .mv (.tmp 23), none⟩] []))
   (.region [⟨some 15, .mv (.tmp 6), none⟩,
    ⟨some 16, .bin .add (.tmp 15) (.con (.int .i64 1)), none⟩,
    ⟨some 6, .mv (.tmp 16), none⟩] []))))))
(.seq (.seq (.region [⟨some 7, .mv (.con (.int .i64 0)), none⟩] [])
 (.block 2 (.loop (.seq (.seq (.region [⟨some 24, .mv (.tmp 7), none⟩,
      ⟨some 25, .mv (.tmp 0), none⟩,
      ⟨some 26, .len (.tmp 25), none⟩,
      ⟨some 27, .bin .lss (.tmp 24) (.tmp 26), none⟩] [])
    (.cond (.tmp 27)
     .skip
     (.exit 2)))
   (.seq (.block 3 (.seq (.region [⟨some 31, .mv (.tmp 5), none⟩,
       ⟨some 32, .mv (.tmp 0), none⟩,
       ⟨some 33, .mv (.tmp 7), none⟩,
       ⟨some 34, .isl 3 (.tmp 32) (.tmp 33), none⟩,
       ⟨some 35, .faddr (.tmp 34) 0, none⟩,
       ⟨some 36, .load true 1 (.tmp 35), none⟩,
       ⟨some 37, .mv (.tmp 0), none⟩,
       ⟨some 38, .mv (.tmp 7), none⟩,
       ⟨some 39, .isl 3 (.tmp 37) (.tmp 38), none⟩,
       ⟨some 40, .faddr (.tmp 39) 2, none⟩,
       ⟨some 41, .load true 1 (.tmp 40), none⟩,
       ⟨some 42, .mv (.tmp 0), none⟩,
       ⟨some 43, .mv (.tmp 7), none⟩,
       ⟨some 44, .isl 3 (.tmp 42) (.tmp 43), none⟩,
       ⟨some 45, .faddr (.tmp 44) 1, none⟩,
       ⟨some 46, .load true 1 (.tmp 45), none⟩,
       ⟨some 47, .call 20 [(.tmp 31), (.tmp 36), (.tmp 41), (.tmp 46)], none⟩,
       ⟨some 30, .mv (.tmp 47), none⟩,
       ⟨some 48, .extract (.tmp 30) 0, none⟩,
       ⟨some 49, .extract (.tmp 30) 1, none⟩,
       ⟨some 8, .mv (.tmp 48), none⟩,
       ⟨some 9, .mv (.tmp 49), none⟩] [])
     (.seq (.region [⟨some 50, .mv (.tmp 9), none⟩,
       ⟨some 51, .bin .eql (.tmp 50) (.con (.int .i64 0)), none⟩] [])
     (.cond (.tmp 51)
      (.region [⟨some 52, .mv (.tmp 8), none⟩,
       ⟨some 5, .mv (.tmp 52), none⟩] [])
      .skip))))
   (.region [⟨some 28, .mv (.tmp 7), none⟩,
    ⟨some 29, .bin .add (.tmp 28) (.con (.int .i64 1)), none⟩,
    ⟨some 7, .mv (.tmp 29), none⟩] []))))))
(.seq (.region [⟨some 53, .mv (.tmp 5), none⟩,
  ⟨some 4, .mv (.tmp 53), none⟩] [])
.ret))))), [.tmp 4], true, none, false⟩
def f9 : AFun := ⟨5, (.seq (.region [⟨some 1, .box (.tmp 0), none⟩,
  ⟨some 2, .mv (.con (.imm true 0 [])), none⟩] [])
(.seq (.region [⟨some 3, .load false 2 (.tmp 1), none⟩,
  ⟨some 4, .call 21 [(.tmp 3)], none⟩,
  ⟨some 2, .mv (.tmp 4), none⟩] [])
.ret)), [.tmp 2], true, none, false⟩
def f10 : AFun := ⟨54, (.seq (.region [⟨some 4, .box (.tmp 0), none⟩,
  ⟨some 5, .box (.tmp 1), none⟩,
  ⟨some 7, .box (.tmp 3), none⟩,
  ⟨some 8, .alloc [(.int .i64 0), (.int .i64 0), (.int .i64 0), (.int .i64 0), (.int .i64 0), (.int .i64 0), (.int .i64 0), (.int .i64 0), (.int .i64 0), (.int .i64 0), (.int .i64 0), (.int .i64 0), (.int .i64 0), (.int .i64 0), (.int .i64 0), (.int .i64 0), (.int .i64 0), (.int .i64 0), (.int .i64 0), (.int .i64 0), (.int .i64 0), (.bool false), (.int .u32 0), (.int .u32 0), (.int .u32 0), (.int .u32 0), (.int .u32 0), (.int .u32 0), (.int .u32 0), (.int .u32 0), (.int .u32 0), (.int .u32 0), (.int .u32 0), (.int .u32 0), (.int .u32 0), (.int .u32 0), (.int .u32 0), (.int .u32 0), (.int .u32 0), (.int .u32 0), (.int .u32 0), (.int .u32 0), (.int .u32 0), (.int .u32 0), (.int .u32 0), (.int .u32 0), (.int .u32 0), (.int .u32 0), (.int .u32 0), (.int .u32 0), (.int .u32 0), (.bool false), (.imm true 0 []), (.imm true 0 []), (.int .u32 0), (.bool false), (.int .u32 0), (.imm true 0 []), (.imm true 0 []), (.int .i64 0), (.imm true 0 []), (.int .i64 0), (.imm true 0 []), (.int .i64 0), (.imm true 0 []), (.int .i64 0), (.int .i64 0), (.int .i64 0), (.int .i64 0), (.int .i64 0), (.int .i64 0), (.int .i64 0), (.int .i64 0), (.int .i64 0), (.int .i64 0), (.int .i64 0), (.int .i64 0), (.int .i64 0), (.int .i64 0), (.int .i64 0), (.int .i64 0), (.int .i64 0), (.int .i64 0), (.int .i64 0), (.int .i64 0), (.int .i64 0), (.int .i64 0), (.int .i64 0), (.int .i64 0), (.int .i64 0), (.int .i64 0), (.int .i64 0), (.int .i64 0), (.int .i64 0), (.int .i64 0), (.int .i64 0), (.int .i64 0), (.imm true 0 []), (.int .i64 0), (.int .i64 0), (.int .u64 0), (.imm true 0 []), (.imm true 0 []), (.imm true 0 []), (.imm true 0 []), (.imm true 0 []), (.imm true 0 []), (.imm true 0 []), (.imm true 0 []), (.imm true 0 []), (.int .i64 0), (.int .i64 0)], none⟩,
  ⟨some 9, .alloc [(.imm true 0 []), (.imm true 0 [])], none⟩,
  ⟨some 10, .mv (.con (.int .u32 0)), none⟩,
  ⟨some 11, .mv (.con (.bool false)), none⟩] [])
(.seq (.block 0 (.seq (.region [⟨some 15, .faddr (.tmp 4) 110, none⟩,
    ⟨some 16, .load true 1 (.tmp 15), none⟩,
    ⟨some 17, .bin .gtr (.tmp 16) (.con (.int .i64 0)), none⟩,
    ⟨some 14, .mv (.tmp 17), none⟩] [])
  (.cond (.tmp 14)
   (.seq (.region [⟨some 18, .faddr (.tmp 4) 110, none⟩,
     ⟨some 19, .load true 1 (.tmp 18), none⟩,
     ⟨some 20, .bin .sub (.tmp 19) (.con (.int .i64 1)), none⟩,
     ⟨some 21, .faddr (.tmp 4) 110, none⟩,
     ⟨none, .store 1 (.tmp 21) (.tmp 20), none⟩] [])
   (.seq (.region [⟨some 22, .load false 112 (.tmp 4), none⟩,
     ⟨some 23, .load false 2 (.tmp 5), none⟩,
     ⟨none, .store 112 (.tmp 8) (.tmp 22), none⟩,
     ⟨none, .store 2 (.tmp 9) (.tmp 23), none⟩,
     ⟨some 10, .mv (.con (.int .u32 0)), none⟩,
     ⟨some 11, .mv (.con (.bool false)), none⟩] [(1, 2)])
   .ret))
   (.seq (.region [⟨some 25, .faddr (.tmp 7) 3, none⟩,
     ⟨some 26, .load true 1 (.tmp 25), none⟩,
     ⟨some 27, .un .not (.tmp 26), none⟩,
     ⟨some 28, .mv (.tmp 27), none⟩,
     ⟨some 29, .faddr (.tmp 4) 107, some (28, false)⟩,
     ⟨some 30, .load true 1 (.tmp 29), some (28, false)⟩,
     ⟨some 31, .len (.tmp 30), some (28, false)⟩,
     ⟨some 32, .bin .eql (.tmp 31) (.con (.int .i64 0)), some (28, false)⟩,
     ⟨some 33, .pick (.tmp 28) (.con (.bool true)) (.tmp 32), none⟩,
     ⟨some 24, .mv (.tmp 33), none⟩] [])
   (.cond (.tmp 24)
    (.seq (.region [⟨some 34, .load false 112 (.tmp 4), none⟩,
      ⟨some 35, .load false 2 (.tmp 5), none⟩,
      ⟨none, .store 112 (.tmp 8) (.tmp 34), none⟩,
      ⟨none, .store 2 (.tmp 9) (.tmp 35), none⟩,
      ⟨some 10, .mv (.con (.int .u32 0)), none⟩,
      ⟨some 11, .mv (.con (.bool false)), none⟩] [(1, 2)])
    .ret)
    .skip)))))
(.seq (.region [⟨some 37, .load false 112 (.tmp 4), none⟩,
  ⟨some 38, .load false 2 (.tmp 5), none⟩,
  ⟨some 39, .mv (.tmp 2), none⟩,
  ⟨some 40, .call 22 [(.tmp 37), (.tmp 38), (.tmp 39)], none⟩,
  ⟨some 36, .mv (.tmp 40), none⟩,
  ⟨some 41, .extract (.tmp 36) 0, none⟩,
  ⟨some 42, .extract (.tmp 36) 1, none⟩,
  ⟨some 43, .extract (.tmp 36) 2, none⟩,
  ⟨some 44, .extract (.tmp 36) 3, none⟩,
  ⟨none, .store 112 (.tmp 4) (.tmp 41), none⟩,
  ⟨none, .store 2 (.tmp 5) (.tmp 42), none⟩,
  ⟨some 12, .mv (.tmp 43), none⟩,
  ⟨some 13, .mv (.tmp 44), none⟩] [])
(.seq (.seq (.region [⟨some 45, .mv (.tmp 13), none⟩,
   ⟨some 46, .un .not (.tmp 45), none⟩] [])
 (.cond (.tmp 46)
  (.region [⟨some 47, .faddr (.tmp 4) 0, none⟩,
   ⟨some 48, .faddr (.tmp 47) 18, none⟩,
   ⟨some 49, .load true 1 (.tmp 48), none⟩,
   ⟨some 50, .faddr (.tmp 4) 110, none⟩,
   ⟨none, .store 1 (.tmp 50) (.tmp 49), none⟩] [])
  .skip))
(.seq (.region [⟨some 51, .load false 112 (.tmp 4), none⟩,
  ⟨some 52, .load false 2 (.tmp 5), none⟩,
  ⟨some 53, .mv (.tmp 12), none⟩,
  ⟨none, .store 112 (.tmp 8) (.tmp 51), none⟩,
  ⟨none, .store 2 (.tmp 9) (.tmp 52), none⟩,
  ⟨some 10, .mv (.tmp 53), none⟩,
  ⟨some 11, .mv (.con (.bool true)), none⟩] [(1, 3)])
.ret))))), [.cell 8 false 112, .cell 9 false 2, .tmp 10, .tmp 11], false, none, true⟩
def f11 : AFun := ⟨24, (.seq (.region [⟨some 3, .box (.tmp 0), none⟩,
  ⟨some 4, .box (.tmp 1), none⟩,
  ⟨some 6, .alloc [(.int .i64 0), (.int .i64 0), (.int .i64 0), (.int .i64 0), (.int .i64 0), (.int .i64 0), (.int .i64 0), (.int .i64 0), (.int .i64 0), (.int .i64 0), (.int .i64 0), (.int .i64 0), (.int .i64 0), (.int .i64 0), (.int .i64 0), (.int .i64 0), (.int .i64 0), (.int .i64 0), (.int .i64 0), (.int .i64 0), (.int .i64 0), (.bool false), (.int .u32 0), (.int .u32 0), (.int .u32 0), (.int .u32 0), (.int .u32 0), (.int .u32 0), (.int .u32 0), (.int .u32 0), (.int .u32 0), (.int .u32 0), (.int .u32 0), (.int .u32 0), (.int .u32 0), (.int .u32 0), (.int .u32 0), (.int .u32 0), (.int .u32 0), (.int .u32 0), (.int .u32 0), (.int .u32 0), (.int .u32 0), (.int .u32 0), (.int .u32 0), (.int .u32 0), (.int .u32 0), (.int .u32 0), (.int .u32 0), (.int .u32 0), (.int .u32 0), (.bool false), (.imm true 0 []), (.imm true 0 []), (.int .u32 0), (.bool false), (.int .u32 0), (.imm true 0 []), (.imm true 0 []), (.int .i64 0), (.imm true 0 []), (.int .i64 0), (.imm true 0 []), (.int .i64 0), (.imm true 0 []), (.int .i64 0), (.int .i64 0), (.int .i64 0), (.int .i64 0), (.int .i64 0), (.int .i64 0), (.int .i64 0), (.int .i64 0), (.int .i64 0), (.int .i64 0), (.int .i64 0), (.int .i64 0), (.int .i64 0), (.int .i64 0), (.int .i64 0), (.int .i64 0), (.int .i64 0), (.int .i64 0), (.int .i64 0), (.int .i64 0), (.int .i64 0), (.int .i64 0), (.int .i64 0), (.int .i64 0), (.int .i64 0), (.int .i64 0), (.int .i64 0), (.int .i64 0), (.int .i64 0), (.int .i64 0), (.int .i64 0), (.int .i64 0), (.imm true 0 []), (.int .i64 0), (.int .i64 0), (.int .u64 0), (.imm true 0 []), (.imm true 0 []), (.imm true 0 []), (.imm true 0 []), (.imm true 0 []), (.imm true 0 []), (.imm true 0 []), (.imm true 0 []), (.imm true 0 []), (.int .i64 0), (.int .i64 0)], none⟩,
  ⟨some 7, .alloc [(.imm true 0 []), (.imm true 0 [])], none⟩] [])
(.seq (.block 0 (.loop (.seq (.seq (.region [⟨some 8, .faddr (.tmp 3) 107, none⟩,
      ⟨some 9, .load true 1 (.tmp 8), none⟩,
      ⟨some 10, .len (.tmp 9), none⟩,
      ⟨some 11, .bin .gtr (.tmp 10) (.con (.int .i64 0)), none⟩] [])
    (.cond (.tmp 11)
     .skip
     (.exit 0)))
   (.block 1 (.region [⟨some 13, .load false 112 (.tmp 3), none⟩,
     ⟨some 14, .load false 2 (.tmp 4), none⟩,
     ⟨some 15, .mv (.tmp 2), none⟩,
     ⟨some 16, .call 22 [(.tmp 13), (.tmp 14), (.tmp 15)], none⟩,
     ⟨some 12, .mv (.tmp 16), none⟩,
     ⟨some 17, .extract (.tmp 12) 0, none⟩,
     ⟨some 18, .extract (.tmp 12) 1, none⟩,
     ⟨some 19, .extract (.tmp 12) 2, none⟩,
     ⟨some 20, .extract (.tmp 12) 3, none⟩,
     ⟨none, .store 112 (.tmp 3) (.tmp 17), none⟩,
     ⟨none, .store 2 (.tmp 4) (.tmp 18), none⟩] [])))))
(.seq (.region [⟨some 21, .faddr (.tmp 3) 110, none⟩,
  ⟨none, .store 1 (.tmp 21) (.con (.int .i64 0)), none⟩] [])
(.seq (.region [⟨some 22, .load false 112 (.tmp 3), none⟩,
  ⟨some 23, .load false 2 (.tmp 4), none⟩,
  ⟨none, .store 112 (.tmp 6) (.tmp 22), none⟩,
  ⟨none, .store 2 (.tmp 7) (.tmp 23), none⟩] [(1, 2)])
.ret)))), [.cell 6 false 112, .cell 7 false 2], true, none, false⟩
def f12 : AFun := ⟨32, (.seq (.region [⟨some 4, .mv (.con (.bool false)), none⟩] [])
(.seq (.seq (.region [⟨some 6, .mv (.tmp 0), none⟩,
   ⟨some 7, .len (.tmp 6), none⟩,
   ⟨some 8, .mv (.tmp 1), none⟩,
   ⟨some 9, .len (.tmp 8), none⟩,
   ⟨some 10, .bin .neq (.tmp 7) (.tmp 9), none⟩] [])
 (.cond (.tmp 10)
  (.seq (.region [⟨some 4, .mv (.con (.bool false)), none⟩] [])
  .ret)
  .skip))
(.seq (.seq (.region [⟨some 5, .mv (.con (.int .i64 0)), none⟩] [])
 (.block 0 (.loop (.seq (.seq (.region [⟨some 11, .mv (.tmp 5), none⟩,
      ⟨some 12, .mv (.tmp 0), none⟩,
      ⟨some 13, .len (.tmp 12), none⟩,
      ⟨some 14, .bin .lss (.tmp 11) (.tmp 13), none⟩,
      ⟨some 15, .mv (.tmp 14), none⟩,
      ⟨some 16, .mv (.tmp 5), some (15, true)⟩,
      ⟨some 17, .mv (.tmp 1), some (15, true)⟩,
      ⟨some 18, .len (.tmp 17), some (15, true)⟩,
      ⟨some 19, .bin .lss (.tmp 16) (.tmp 18), some (15, true)⟩,
      ⟨some 20, .pick (.tmp 15) (.tmp 19) (.con (.bool false)), none⟩] [])
    (.cond (.tmp 20)
     .skip
     (.exit 0)))
   (.seq (.block 1 (.seq (.region [⟨some 23, .mv (.tmp 0), none⟩,
       ⟨some 24, .mv (.tmp 5), none⟩,
       ⟨some 25, .isl 3 (.tmp 23) (.tmp 24), none⟩,
       ⟨some 26, .load false 3 (.tmp 25), none⟩,
       ⟨some 27, .mv (.tmp 1), none⟩,
       ⟨some 28, .mv (.tmp 5), none⟩,
       ⟨some 29, .isl 3 (.tmp 27) (.tmp 28), none⟩,
       ⟨some 30, .load false 3 (.tmp 29), none⟩,
       ⟨some 31, .aeq true [some .u32, some .u32, some .i64] (.tmp 26) (.tmp 30), none⟩] [])
     (.cond (.tmp 31)
      (.seq (.region [⟨some 4, .mv (.con (.bool false)), none⟩] [])
      .ret)
      .skip)))
   (.region [⟨some 21, .mv (.tmp 5), none⟩,
    ⟨some 22, .bin .add (.tmp 21) (.con (.int .i64 1)), none⟩,
    ⟨some 5, .mv (.tmp 22), none⟩] []))))))
(.seq (.region [⟨some 4, .mv (.con (.bool true)), none⟩] [])
.ret)))), [.tmp 4], true, none, false⟩
def f13 : AFun := ⟨32, (.seq (.region [⟨some 4, .mv (.con (.bool false)), none⟩] [])
(.seq (.seq (.region [⟨some 6, .mv (.tmp 0), none⟩,
   ⟨some 7, .len (.tmp 6), none⟩,
   ⟨some 8, .mv (.tmp 1), none⟩,
   ⟨some 9, .len (.tmp 8), none⟩,
   ⟨some 10, .bin .neq (.tmp 7) (.tmp 9), none⟩] [])
 (.cond (.tmp 10)
  (.seq (.region [⟨some 4, .mv (.con (.bool false)), none⟩] [])
  .ret)
  .skip))
(.seq (.seq (.region [⟨some 5, .mv (.con (.int .i64 0)), none⟩] [])
 (.block 0 (.loop (.seq (.seq (.region [⟨some 11, .mv (.tmp 5), none⟩,
      ⟨some 12, .mv (.tmp 0), none⟩,
      ⟨some 13, .len (.tmp 12), none⟩,
      ⟨some 14, .bin .lss (.tmp 11) (.tmp 13), none⟩,
      ⟨some 15, .mv (.tmp 14), none⟩,
      ⟨some 16, .mv (.tmp 5), some (15, true)⟩,
      ⟨some 17, .mv (.tmp 1), some (15, true)⟩,
      ⟨some 18, .len (.tmp 17), some (15, true)⟩,
      ⟨some 19, .bin .lss (.tmp 16) (.tmp 18), some (15, true)⟩,
      ⟨some 20, .pick (.tmp 15) (.tmp 19) (.con (.bool false)), none⟩] [])
    (.cond (.tmp 20)
     .skip
     (.exit 0)))
   (.seq (.block 1 (.seq (.region [⟨some 23, .mv (.tmp 0), none⟩,
       ⟨some 24, .mv (.tmp 5), none⟩,
       ⟨some 25, .isl 1 (.tmp 23) (.tmp 24), none⟩,
       ⟨some 26, .load true 1 (.tmp 25), none⟩,
       ⟨some 27, .mv (.tmp 1), none⟩,
       ⟨some 28, .mv (.tmp 5), none⟩,
       ⟨some 29, .isl 1 (.tmp 27) (.tmp 28), none⟩,
       ⟨some 30, .load true 1 (.tmp 29), none⟩,
       ⟨some 31, .bin .neq (.tmp 26) (.tmp 30), none⟩] [])
     (.cond (.tmp 31)
      (.seq (.region [⟨some 4, .mv (.con (.bool false)), none⟩] [])
      .ret)
      .skip)))
   (.region [⟨some 21, .mv (.tmp 5), none⟩,
    ⟨some 22, .bin .add (.tmp 21) (.con (.int .i64 1)), none⟩,
    ⟨some 5, .mv (.tmp 22), none⟩] []))))))
(.seq (.region [⟨some 4, .mv (.con (.bool true)), none⟩] [])
.ret)))), [.tmp 4], true, none, false⟩
def f14 : AFun := ⟨73, (.seq (.region [⟨some 1, .box (.tmp 0), none⟩,
  ⟨some 2, .mv (.con (.bool false)), none⟩] [])
(.seq (.region [⟨some 3, .faddr (.tmp 1) 103, none⟩,
  ⟨some 4, .load true 1 (.tmp 3), none⟩,
  ⟨some 5, .len (.tmp 4), none⟩,
  ⟨some 6, .bin .leq (.tmp 5) (.con (.int .i64 70)), none⟩,
  ⟨some 7, .mv (.tmp 6), none⟩,
  ⟨some 8, .faddr (.tmp 1) 104, some (7, true)⟩,
  ⟨some 9, .load true 1 (.tmp 8), some (7, true)⟩,
  ⟨some 10, .len (.tmp 9), some (7, true)⟩,
  ⟨some 11, .bin .leq (.tmp 10) (.con (.int .i64 40)), some (7, true)⟩,
  ⟨some 12, .pick (.tmp 7) (.tmp 11) (.con (.bool false)), none⟩,
  ⟨some 13, .mv (.tmp 12), none⟩,
  ⟨some 14, .faddr (.tmp 1) 105, some (13, true)⟩,
  ⟨some 15, .load true 1 (.tmp 14), some (13, true)⟩,
  ⟨some 16, .len (.tmp 15), some (13, true)⟩,
  ⟨some 17, .bin .leq (.tmp 16) (.con (.int .i64 20)), some (13, true)⟩,
  ⟨some 18, .pick (.tmp 13) (.tmp 17) (.con (.bool false)), none⟩,
  ⟨some 19, .mv (.tmp 18), none⟩,
  ⟨some 20, .faddr (.tmp 1) 106, some (19, true)⟩,
  ⟨some 21, .load true 1 (.tmp 20), some (19, true)⟩,
  ⟨some 22, .len (.tmp 21), some (19, true)⟩,
  ⟨some 23, .bin .leq (.tmp 22) (.con (.int .i64 20)), some (19, true)⟩,
  ⟨some 24, .pick (.tmp 19) (.tmp 23) (.con (.bool false)), none⟩,
  ⟨some 25, .mv (.tmp 24), none⟩,
  ⟨some 26, .faddr (.tmp 1) 108, some (25, true)⟩,
  ⟨some 27, .load true 1 (.tmp 26), some (25, true)⟩,
  ⟨some 28, .len (.tmp 27), some (25, true)⟩,
  ⟨some 29, .bin .leq (.tmp 28) (.con (.int .i64 70)), some (25, true)⟩,
  ⟨some 30, .pick (.tmp 25) (.tmp 29) (.con (.bool false)), none⟩,
  ⟨some 31, .mv (.tmp 30), none⟩,
  ⟨some 32, .faddr (.tmp 1) 64, some (31, true)⟩,
  ⟨some 33, .load true 1 (.tmp 32), some (31, true)⟩,
  ⟨some 34, .len (.tmp 33), some (31, true)⟩,
  ⟨some 35, .bin .leq (.tmp 34) (.con (.int .i64 20)), some (31, true)⟩,
  ⟨some 36, .pick (.tmp 31) (.tmp 35) (.con (.bool false)), none⟩,
  ⟨some 37, .mv (.tmp 36), none⟩,
  ⟨some 38, .faddr (.tmp 1) 65, some (37, true)⟩,
  ⟨some 39, .faddr (.tmp 38) 32, some (37, true)⟩,
  ⟨some 40, .faddr (.tmp 39) 0, some (37, true)⟩,
  ⟨some 41, .load true 1 (.tmp 40), some (37, true)⟩,
  ⟨some 42, .len (.tmp 41), some (37, true)⟩,
  ⟨some 43, .bin .leq (.tmp 42) (.con (.int .i64 100)), some (37, true)⟩,
  ⟨some 44, .pick (.tmp 37) (.tmp 43) (.con (.bool false)), none⟩,
  ⟨some 45, .mv (.tmp 44), none⟩,
  ⟨some 46, .faddr (.tmp 1) 101, some (45, true)⟩,
  ⟨some 47, .faddr (.tmp 46) 0, some (45, true)⟩,
  ⟨some 48, .load true 1 (.tmp 47), some (45, true)⟩,
  ⟨some 49, .len (.tmp 48), some (45, true)⟩,
  ⟨some 50, .bin .leq (.tmp 49) (.con (.int .i64 100)), some (45, true)⟩,
  ⟨some 51, .pick (.tmp 45) (.tmp 50) (.con (.bool false)), none⟩,
  ⟨some 52, .mv (.tmp 51), none⟩,
  ⟨some 53, .faddr (.tmp 1) 56, some (52, true)⟩,
  ⟨some 54, .faddr (.tmp 53) 1, some (52, true)⟩,
  ⟨some 55, .load true 1 (.tmp 54), some (52, true)⟩,
  ⟨some 56, .len (.tmp 55), some (52, true)⟩,
  ⟨some 57, .bin .leq (.tmp 56) (.con (.int .i64 300)), some (52, true)⟩,
  ⟨some 58, .pick (.tmp 52) (.tmp 57) (.con (.bool false)), none⟩,
  ⟨some 59, .mv (.tmp 58), none⟩,
  ⟨some 60, .faddr (.tmp 1) 56, some (59, true)⟩,
  ⟨some 61, .faddr (.tmp 60) 2, some (59, true)⟩,
  ⟨some 62, .load true 1 (.tmp 61), some (59, true)⟩,
  ⟨some 63, .len (.tmp 62), some (59, true)⟩,
  ⟨some 64, .bin .leq (.tmp 63) (.con (.int .i64 40)), some (59, true)⟩,
  ⟨some 65, .pick (.tmp 59) (.tmp 64) (.con (.bool false)), none⟩,
  ⟨some 66, .mv (.tmp 65), none⟩,
  ⟨some 67, .faddr (.tmp 1) 56, some (66, true)⟩,
  ⟨some 68, .faddr (.tmp 67) 4, some (66, true)⟩,
  ⟨some 69, .load true 1 (.tmp 68), some (66, true)⟩,
  ⟨some 70, .len (.tmp 69), some (66, true)⟩,
  ⟨some 71, .bin .leq (.tmp 70) (.con (.int .i64 40)), some (66, true)⟩,
  ⟨some 72, .pick (.tmp 66) (.tmp 71) (.con (.bool false)), none⟩,
  ⟨some 2, .mv (.tmp 72), none⟩] [])
.ret)), [.tmp 2], true, none, false⟩
def f15 : AFun := ⟨17, (.seq (.region [⟨some 2, .mv (.con (.bool false)), none⟩] [])
(.seq (.region [⟨some 3, .mv (.tmp 0), none⟩,
  ⟨some 4, .len (.tmp 3), none⟩,
  ⟨some 5, .bin .rem (.tmp 4) (.con (.int .i64 64)), none⟩,
  ⟨some 6, .bin .eql (.tmp 5) (.con (.int .i64 0)), none⟩,
  ⟨some 7, .mv (.tmp 6), none⟩,
  ⟨some 8, .mv (.tmp 0), some (7, true)⟩,
  ⟨some 9, .len (.tmp 8), some (7, true)⟩,
  ⟨some 10, .bin .geq (.tmp 9) (.con (.int .i64 64)), some (7, true)⟩,
  ⟨some 11, .pick (.tmp 7) (.tmp 10) (.con (.bool false)), none⟩,
  ⟨some 12, .mv (.tmp 11), none⟩,
  ⟨some 13, .mv (.tmp 0), some (12, true)⟩,
  ⟨some 14, .len (.tmp 13), some (12, true)⟩,
  ⟨some 15, .bin .leq (.tmp 14) (.con (.int .i64 16384)), some (12, true)⟩,
  ⟨some 16, .pick (.tmp 12) (.tmp 15) (.con (.bool false)), none⟩,
  ⟨some 2, .mv (.tmp 16), none⟩] [])
.ret)), [.tmp 2], true, none, false⟩
def f16 : AFun := ⟨101, (.seq (.region [⟨some 1, .box (.tmp 0), none⟩,
  ⟨some 2, .mv (.con (.bool false)), none⟩] [])
(.seq (.seq (.region [⟨some 3, .mv (.con (.int .i64 0)), none⟩] [])
 (.block 0 (.loop (.seq (.seq (.region [⟨some 9, .mv (.tmp 3), none⟩,
      ⟨some 10, .faddr (.tmp 1) 1, none⟩,
      ⟨some 11, .load true 1 (.tmp 10), none⟩,
      ⟨some 12, .len (.tmp 11), none⟩,
      ⟨some 13, .bin .lss (.tmp 9) (.tmp 12), none⟩] [])
    (.cond (.tmp 13)
     .skip
     (.exit 0)))
   (.seq (.block 1 (.seq (.seq (.region [⟨some 16, .faddr (.tmp 1) 1, none⟩,
        ⟨some 17, .load true 1 (.tmp 16), none⟩,
        ⟨some 18, .mv (.tmp 3), none⟩,
        ⟨some 19, .isl 1 (.tmp 17) (.tmp 18), none⟩,
        ⟨some 20, .load false 1 (.tmp 19), none⟩,
        ⟨some 21, .call 23 [(.tmp 20)], none⟩,
        ⟨some 22, .un .not (.tmp 21), none⟩] [])
      (.cond (.tmp 22)
       (.seq (.region [⟨some 2, .mv (.con (.bool false)), none⟩] [])
       .ret)
       .skip))
     (.seq (.region [⟨some 4, .mv (.con (.int .i64 0)), none⟩] [])
     (.block 2 (.loop (.seq (.seq (.region [⟨some 23, .mv (.tmp 4), none⟩,
          ⟨some 24, .faddr (.tmp 1) 1, none⟩,
          ⟨some 25, .load true 1 (.tmp 24), none⟩,
          ⟨some 26, .mv (.tmp 3), none⟩,
          ⟨some 27, .isl 1 (.tmp 25) (.tmp 26), none⟩,
          ⟨some 28, .faddr (.tmp 27) 0, none⟩,
          ⟨some 29, .load true 1 (.tmp 28), none⟩,
          ⟨some 30, .len (.tmp 29), none⟩,
          ⟨some 31, .bin .lss (.tmp 23) (.tmp 30), none⟩] [])
        (.cond (.tmp 31)
         .skip
         (.exit 2)))
       (.seq (.block 3 (.seq (.region [⟨some 5, .mv (.con (.int .i64 0)), none⟩] [])
         (.block 4 (.loop (.seq (.seq (.region [⟨some 34, .mv (.tmp 5), none⟩,
              ⟨some 35, .faddr (.tmp 1) 1, none⟩,
              ⟨some 36, .load true 1 (.tmp 35), none⟩,
              ⟨some 37, .mv (.tmp 3), none⟩,
              ⟨some 38, .isl 1 (.tmp 36) (.tmp 37), none⟩,
              ⟨some 39, .faddr (.tmp 38) 0, none⟩,
              ⟨some 40, .load true 1 (.tmp 39), none⟩,
              ⟨some 41, .mv (.tmp 4), none⟩,
              ⟨some 42, .isl 1 (.tmp 40) (.tmp 41), none⟩,
              ⟨some 43, .load true 1 (.tmp 42), none⟩,
              ⟨some 44, .len (.tmp 43), none⟩,
              ⟨some 45, .bin .lss (.tmp 34) (.tmp 44), none⟩] [])
            (.cond (.tmp 45)
             .skip
             (.exit 4)))
           (.seq (.block 5 (.seq (.region [⟨some 48, .faddr (.tmp 1) 1, none⟩,
               ⟨some 49, .load true 1 (.tmp 48), none⟩,
               ⟨some 50, .mv (.tmp 3), none⟩,
               ⟨some 51, .isl 1 (.tmp 49) (.tmp 50), none⟩,
               ⟨some 52, .faddr (.tmp 51) 0, none⟩,
               ⟨some 53, .load true 1 (.tmp 52), none⟩,
               ⟨some 54, .mv (.tmp 4), none⟩,
               ⟨some 55, .isl 1 (.tmp 53) (.tmp 54), none⟩,
               ⟨some 56, .load true 1 (.tmp 55), none⟩,
               ⟨some 57, .mv (.tmp 5), none⟩,
               ⟨some 58, .isl 19 (.tmp 56) (.tmp 57), none⟩,
               ⟨some 59, .load false 19 (.tmp 58), none⟩,
               ⟨some 6, .alloc [(.int .i64 0), (.int .u32 0), (.int .u8 0), (.int .u8 0), (.int .u8 0), (.int .u8 0), (.int .u8 0), (.int .u8 0), (.int .u8 0), (.int .u8 0), (.int .u8 0), (.int .u8 0), (.int .u8 0), (.int .u8 0), (.int .u8 0), (.int .u8 0), (.int .u8 0), (.int .u8 0), (.int .i64 0)], none⟩,
               ⟨none, .store 19 (.tmp 6) (.tmp 59), none⟩] [])
             (.seq (.seq (.region [⟨some 60, .faddr (.tmp 6) 0, none⟩,
                ⟨some 61, .load true 1 (.tmp 60), none⟩,
                ⟨some 62, .bin .eql (.tmp 61) (.con (.int .i64 0)), none⟩] [])
              (.cond (.tmp 62)
               (.exit 5)
               .skip))
             (.seq (.seq (.region [⟨some 63, .load false 2 (.tmp 1), none⟩,
                ⟨some 64, .faddr (.tmp 6) 1, none⟩,
                ⟨some 65, .load true 1 (.tmp 64), none⟩,
                ⟨some 66, .call 24 [(.tmp 63), (.tmp 65)], none⟩,
                ⟨some 67, .un .not (.tmp 66), none⟩,
                ⟨some 68, .mv (.tmp 67), none⟩,
                ⟨some 69, .faddr (.tmp 6) 0, some (68, false)⟩,
                ⟨some 70, .load true 1 (.tmp 69), some (68, false)⟩,
                ⟨some 71, .bin .neq (.tmp 70) (.con (.int .i64 3)), some (68, false)⟩,
                ⟨some 72, .mv (.tmp 71), some (68, false)⟩,
                ⟨some 73, .faddr (.tmp 6) 2, some (72, true)⟩,
                ⟨some 74, .load false 16 (.tmp 73), some (72, true)⟩,
                ⟨some 75, .load false 2 (.tmp 1), some (72, true)⟩,
                ⟨some 76, .faddr (.tmp 6) 1, some (72, true)⟩,
                ⟨some 77, .load true 1 (.tmp 76), some (72, true)⟩,
                ⟨some 78, .call 25 [(.tmp 75), (.tmp 77)], some (72, true)⟩,
                ⟨some 79, .aeq true [some .u8, some .u8, some .u8, some .u8, some .u8, some .u8, some .u8, some .u8, some .u8, some .u8, some .u8, some .u8, some .u8, some .u8, some .u8, some .u8] (.tmp 74) (.tmp 78), some (72, true)⟩,
                ⟨some 80, .pick (.tmp 72) (.tmp 79) (.con (.bool false)), some (68, false)⟩,
                ⟨some 81, .pick (.tmp 68) (.con (.bool true)) (.tmp 80), none⟩] [(11, 15)])
              (.cond (.tmp 81)
               (.seq (.region [⟨some 2, .mv (.con (.bool false)), none⟩] [])
               .ret)
               .skip))
             (.seq (.region [⟨some 82, .bsl [] 0 1 [], none⟩,
               ⟨some 7, .mv (.tmp 82), none⟩] [])
             (.seq (.seq (.region [⟨some 8, .mv (.con (.int .i64 0)), none⟩] [])
              (.block 6 (.loop (.seq (.seq (.region [⟨some 83, .mv (.tmp 8), none⟩,
                   ⟨some 84, .faddr (.tmp 1) 1, none⟩,
                   ⟨some 85, .load true 1 (.tmp 84), none⟩,
                   ⟨some 86, .len (.tmp 85), none⟩,
                   ⟨some 87, .bin .lss (.tmp 83) (.tmp 86), none⟩] [])
                 (.cond (.tmp 87)
                  .skip
                  (.exit 6)))
                (.seq (.block 7 (.region [⟨some 90, .mv (.tmp 7), none⟩,
                   ⟨some 91, .load false 2 (.tmp 1), none⟩,
                   ⟨some 92, .mv (.tmp 8), none⟩,
                   ⟨some 93, .faddr (.tmp 6) 1, none⟩,
                   ⟨some 94, .load true 1 (.tmp 93), none⟩,
                   ⟨some 95, .call 26 [(.tmp 91), (.tmp 92), (.tmp 94)], none⟩,
                   ⟨some 96, .bsl [(.int .i64 0)] 1 1 [(0, 1, (.tmp 95))], none⟩,
                   ⟨some 97, .append 1 8 (.tmp 90) (.tmp 96), none⟩,
                   ⟨some 7, .mv (.tmp 97), none⟩] []))
                (.region [⟨some 88, .mv (.tmp 8), none⟩,
                 ⟨some 89, .bin .add (.tmp 88) (.con (.int .i64 1)), none⟩,
                 ⟨some 8, .mv (.tmp 89), none⟩] []))))))
             (.seq (.region [⟨some 98, .mv (.tmp 7), none⟩,
               ⟨some 99, .call 27 [(.tmp 98)], none⟩,
               ⟨some 100, .un .not (.tmp 99), none⟩] [])
             (.cond (.tmp 100)
              (.seq (.region [⟨some 2, .mv (.con (.bool false)), none⟩] [])
              .ret)
              .skip))))))))
           (.region [⟨some 46, .mv (.tmp 5), none⟩,
            ⟨some 47, .bin .add (.tmp 46) (.con (.int .i64 1)), none⟩,
            ⟨some 5, .mv (.tmp 47), none⟩] [])))))))
       (.region [⟨some 32, .mv (.tmp 4), none⟩,
        ⟨some 33, .bin .add (.tmp 32) (.con (.int .i64 1)), none⟩,
        ⟨some 4, .mv (.tmp 33), none⟩] []))))))))
   (.region [⟨some 14, .mv (.tmp 3), none⟩,
    ⟨some 15, .bin .add (.tmp 14) (.con (.int .i64 1)), none⟩,
    ⟨some 3, .mv (.tmp 15), none⟩] []))))))
(.seq (.region [⟨some 2, .mv (.con (.bool true)), none⟩] [])
.ret))), [.tmp 2], true, none, false⟩
def f17 : AFun := ⟨26, (.seq (.region [⟨some 6, .mv (.con (.int .i64 0)), none⟩] [])
(.seq (.seq (.region [⟨some 7, .mv (.tmp 2), none⟩,
   ⟨some 8, .bin .eql (.tmp 7) (.con (.int .i64 1)), none⟩,
   ⟨some 9, .mv (.tmp 8), none⟩,
   ⟨some 10, .mv (.tmp 2), some (9, false)⟩,
   ⟨some 11, .bin .eql (.tmp 10) (.con (.int .i64 2)), some (9, false)⟩,
   ⟨some 12, .pick (.tmp 9) (.con (.bool true)) (.tmp 11), none⟩,
   ⟨some 13, .mv (.tmp 12), none⟩,
   ⟨some 14, .mv (.tmp 2), some (13, false)⟩,
   ⟨some 15, .bin .eql (.tmp 14) (.con (.int .i64 4)), some (13, false)⟩,
   ⟨some 16, .pick (.tmp 13) (.con (.bool true)) (.tmp 15), none⟩,
   ⟨some 17, .mv (.tmp 16), none⟩,
   ⟨some 18, .mv (.tmp 1), some (17, true)⟩,
   ⟨some 19, .conv .i64 (.tmp 18), some (17, true)⟩,
   ⟨some 20, .mv (.tmp 2), some (17, true)⟩,
   ⟨some 21, .bin .add (.tmp 19) (.tmp 20), some (17, true)⟩,
   ⟨some 22, .mv (.tmp 0), some (17, true)⟩,
   ⟨some 23, .len (.tmp 22), some (17, true)⟩,
   ⟨some 24, .bin .leq (.tmp 21) (.tmp 23), some (17, true)⟩,
   ⟨some 25, .pick (.tmp 17) (.tmp 24) (.con (.bool false)), none⟩] [])
 (.cond (.tmp 25)
  (.seq (.region [⟨some 6, .mv (.con (.int .i64 0)), none⟩] [])
  .ret)
  .skip))
(.seq (.region [⟨some 6, .mv (.con (.int .i64 9)), none⟩] [])
.ret))), [.tmp 6], true, none, false⟩
def f18 : AFun := ⟨27, (.seq (.region [⟨some 8, .alloc [(.imm true 0 []), (.imm true 0 [])], none⟩] [])
(.seq (.region [⟨some 10, .mv (.tmp 0), none⟩,
  ⟨some 11, .mv (.tmp 1), none⟩,
  ⟨some 12, .mv (.tmp 2), none⟩,
  ⟨some 13, .call 28 [(.tmp 11), (.tmp 12)], none⟩,
  ⟨some 14, .bsl [(.imm true 0 [])] 1 1 [(0, 1, (.tmp 13))], none⟩,
  ⟨some 15, .build [(.imm true 0 []), (.imm true 0 [])] [(0, 1, (.tmp 10)), (1, 1, (.tmp 14))], none⟩,
  ⟨some 9, .alloc [(.imm true 0 []), (.imm true 0 [])], none⟩,
  ⟨none, .store 2 (.tmp 9) (.tmp 15), none⟩] [])
(.seq (.seq (.region [⟨some 16, .mv (.tmp 3), none⟩,
   ⟨some 17, .bin .gtr (.tmp 16) (.con (.int .i64 1)), none⟩] [])
 (.cond (.tmp 17)
  (.region [⟨some 18, .faddr (.tmp 9) 1, none⟩,
   ⟨some 19, .load true 1 (.tmp 18), none⟩,
   ⟨some 20, .mv (.tmp 1), none⟩,
   ⟨some 21, .mv (.tmp 2), none⟩,
   ⟨some 22, .call 28 [(.tmp 20), (.tmp 21)], none⟩,
   ⟨some 23, .bsl [(.imm true 0 [])] 1 1 [(0, 1, (.tmp 22))], none⟩,
   ⟨some 24, .append 1 24 (.tmp 19) (.tmp 23), none⟩,
   ⟨some 25, .faddr (.tmp 9) 1, none⟩,
   ⟨none, .store 1 (.tmp 25) (.tmp 24), none⟩] [(1, 4), (1, 5)])
  .skip))
(.seq (.region [⟨some 26, .load false 2 (.tmp 9), none⟩,
  ⟨none, .store 2 (.tmp 8) (.tmp 26), none⟩] [])
.ret)))), [.cell 8 false 2], true, none, false⟩
def f19 : AFun := ⟨11, (.seq (.region [⟨some 1, .box (.tmp 0), none⟩,
  ⟨some 2, .mv (.con (.imm true 0 [])), none⟩] [])
(.seq (.region [⟨some 4, .faddr (.tmp 1) 0, none⟩,
  ⟨some 5, .load true 1 (.tmp 4), none⟩,
  ⟨some 6, .call 29 [(.tmp 5)], none⟩,
  ⟨some 3, .alloc [(.imm true 0 [])], none⟩,
  ⟨none, .store 1 (.tmp 3) (.tmp 6), none⟩] [])
(.seq (.region [⟨some 7, .load false 2 (.tmp 1), none⟩,
  ⟨some 8, .mkfn 31 [] [(.tmp 3)], none⟩,
  ⟨some 9, .call 30 [(.tmp 7), (.tmp 8)], none⟩] [])
(.seq (.region [⟨some 10, .load true 1 (.tmp 3), none⟩,
  ⟨some 2, .mv (.tmp 10), none⟩] [])
.ret)))), [.tmp 2], true, none, false⟩
def f20 : AFun := ⟨40, (.seq (.region [⟨some 8, .mv (.con (.imm true 0 [])), none⟩,
  ⟨some 9, .mv (.con (.int .i64 0)), none⟩] [])
(.seq (.region [⟨some 13, .mv (.tmp 0), none⟩,
  ⟨some 14, .mv (.tmp 1), none⟩,
  ⟨some 15, .mv (.tmp 2), none⟩,
  ⟨some 16, .call 17 [(.tmp 13), (.tmp 14), (.tmp 15)], none⟩,
  ⟨some 10, .mv (.tmp 16), none⟩] [])
(.seq (.seq (.region [⟨some 17, .mv (.tmp 10), none⟩,
   ⟨some 18, .bin .neq (.tmp 17) (.con (.int .i64 0)), none⟩] [])
 (.cond (.tmp 18)
  (.seq (.region [⟨some 19, .mv (.tmp 10), none⟩,
    ⟨some 8, .mv (.con (.imm true 0 [])), none⟩,
    ⟨some 9, .mv (.tmp 19), none⟩] [])
  .ret)
  .skip))
(.seq (.region [⟨some 20, .bsl [] 0 1 [], none⟩,
  ⟨some 21, .mv (.tmp 0), none⟩,
  ⟨some 22, .append 1 1 (.tmp 20) (.tmp 21), none⟩,
  ⟨some 11, .mv (.tmp 22), none⟩] [])
(.seq (.seq (.region [⟨some 12, .mv (.con (.int .i64 0)), none⟩] [])
 (.block 0 (.loop (.seq (.seq (.region [⟨some 23, .mv (.tmp 12), none⟩,
      ⟨some 24, .mv (.tmp 2), none⟩,
      ⟨some 25, .bin .lss (.tmp 23) (.tmp 24), none⟩] [])
    (.cond (.tmp 25)
     .skip
     (.exit 0)))
   (.seq (.block 1 (.seq (.region [⟨some 28, .mv (.tmp 11), none⟩,
       ⟨some 29, .mv (.tmp 1), none⟩,
       ⟨some 30, .conv .i64 (.tmp 29), none⟩,
       ⟨some 31, .mv (.tmp 12), none⟩,
       ⟨some 32, .bin .add (.tmp 30) (.tmp 31), none⟩,
       ⟨some 33, .mv (.tmp 3), none⟩,
       ⟨some 34, .bin .rem (.tmp 33) (.con (.int .u32 256)), none⟩,
       ⟨some 35, .conv .u8 (.tmp 34), none⟩,
       ⟨some 36, .isl 1 (.tmp 28) (.tmp 32), none⟩,
       ⟨none, .store 1 (.tmp 36) (.tmp 35), none⟩] [])
     (.region [⟨some 37, .mv (.tmp 3), none⟩,
      ⟨some 38, .bin .quo (.tmp 37) (.con (.int .u32 256)), none⟩,
      ⟨some 3, .mv (.tmp 38), none⟩] [])))
   (.region [⟨some 26, .mv (.tmp 12), none⟩,
    ⟨some 27, .bin .add (.tmp 26) (.con (.int .i64 1)), none⟩,
    ⟨some 12, .mv (.tmp 27), none⟩] []))))))
(.seq (.region [⟨some 39, .mv (.tmp 11), none⟩,
  ⟨some 8, .mv (.tmp 39), none⟩,
  ⟨some 9, .mv (.con (.int .i64 0)), none⟩] [])
.ret)))))), [.tmp 8, .tmp 9], true, none, false⟩
def f21 : AFun := ⟨67, (.seq (.region [⟨some 1, .box (.tmp 0), none⟩,
  ⟨some 2, .mv (.con (.imm true 0 [])), none⟩] [])
(.seq (.region [⟨some 8, .load false 2 (.tmp 1), none⟩,
  ⟨some 9, .call 33 [(.tmp 8)], none⟩,
  ⟨some 10, .field true 0 1 (.tmp 9), none⟩,
  ⟨some 3, .mv (.tmp 10), none⟩] [])
(.seq (.seq (.region [⟨some 4, .mv (.con (.int .i64 0)), none⟩] [])
 (.block 0 (.loop (.seq (.seq (.region [⟨some 11, .mv (.tmp 4), none⟩,
      ⟨some 12, .faddr (.tmp 1) 1, none⟩,
      ⟨some 13, .load true 1 (.tmp 12), none⟩,
      ⟨some 14, .len (.tmp 13), none⟩,
      ⟨some 15, .bin .lss (.tmp 11) (.tmp 14), none⟩] [])
    (.cond (.tmp 15)
     .skip
     (.exit 0)))
   (.seq (.block 1 (.seq (.region [⟨some 5, .mv (.con (.int .i64 0)), none⟩] [])
     (.block 2 (.loop (.seq (.seq (.region [⟨some 18, .mv (.tmp 5), none⟩,
          ⟨some 19, .faddr (.tmp 1) 1, none⟩,
          ⟨some 20, .load true 1 (.tmp 19), none⟩,
          ⟨some 21, .mv (.tmp 4), none⟩,
          ⟨some 22, .isl 1 (.tmp 20) (.tmp 21), none⟩,
          ⟨some 23, .faddr (.tmp 22) 0, none⟩,
          ⟨some 24, .load true 1 (.tmp 23), none⟩,
          ⟨some 25, .len (.tmp 24), none⟩,
          ⟨some 26, .bin .lss (.tmp 18) (.tmp 25), none⟩] [])
        (.cond (.tmp 26)
         .skip
         (.exit 2)))
       (.seq (.block 3 (.seq (.region [⟨some 6, .mv (.con (.int .i64 0)), none⟩] [])
         (.block 4 (.loop (.seq (.seq (.region [⟨some 29, .mv (.tmp 6), none⟩,
              ⟨some 30, .faddr (.tmp 1) 1, none⟩,
              ⟨some 31, .load true 1 (.tmp 30), none⟩,
              ⟨some 32, .mv (.tmp 4), none⟩,
              ⟨some 33, .isl 1 (.tmp 31) (.tmp 32), none⟩,
              ⟨some 34, .faddr (.tmp 33) 0, none⟩,
              ⟨some 35, .load true 1 (.tmp 34), none⟩,
              ⟨some 36, .mv (.tmp 5), none⟩,
              ⟨some 37, .isl 1 (.tmp 35) (.tmp 36), none⟩,
              ⟨some 38, .load true 1 (.tmp 37), none⟩,
              ⟨some 39, .len (.tmp 38), none⟩,
              ⟨some 40, .bin .lss (.tmp 29) (.tmp 39), none⟩] [])
            (.cond (.tmp 40)
             .skip
             (.exit 4)))
           (.seq (.block 5 (.seq (.region [⟨some 43, .faddr (.tmp 1) 1, none⟩,
               ⟨some 44, .load true 1 (.tmp 43), none⟩,
               ⟨some 45, .mv (.tmp 4), none⟩,
               ⟨some 46, .isl 1 (.tmp 44) (.tmp 45), none⟩,
               ⟨some 47, .faddr (.tmp 46) 0, none⟩,
               ⟨some 48, .load true 1 (.tmp 47), none⟩,
               ⟨some 49, .mv (.tmp 5), none⟩,
               ⟨some 50, .isl 1 (.tmp 48) (.tmp 49), none⟩,
               ⟨some 51, .load true 1 (.tmp 50), none⟩,
               ⟨some 52, .mv (.tmp 6), none⟩,
               ⟨some 53, .isl 19 (.tmp 51) (.tmp 52), none⟩,
               ⟨some 54, .load false 19 (.tmp 53), none⟩,
               ⟨some 7, .alloc [(.int .i64 0), (.int .u32 0), (.int .u8 0), (.int .u8 0), (.int .u8 0), (.int .u8 0), (.int .u8 0), (.int .u8 0), (.int .u8 0), (.int .u8 0), (.int .u8 0), (.int .u8 0), (.int .u8 0), (.int .u8 0), (.int .u8 0), (.int .u8 0), (.int .u8 0), (.int .u8 0), (.int .i64 0)], none⟩,
               ⟨none, .store 19 (.tmp 7) (.tmp 54), none⟩] [])
             (.seq (.region [⟨some 55, .faddr (.tmp 7) 0, none⟩,
               ⟨some 56, .load true 1 (.tmp 55), none⟩,
               ⟨some 57, .bin .eql (.tmp 56) (.con (.int .i64 3)), none⟩] [])
             (.cond (.tmp 57)
              (.region [⟨some 58, .mv (.tmp 3), none⟩,
               ⟨some 59, .build [(.imm true 0 []), (.imm true 0 [])] [(0, 1, (.tmp 58))], none⟩,
               ⟨some 60, .faddr (.tmp 7) 1, none⟩,
               ⟨some 61, .load true 1 (.tmp 60), none⟩,
               ⟨some 62, .faddr (.tmp 7) 2, none⟩,
               ⟨some 63, .load false 16 (.tmp 62), none⟩,
               ⟨some 64, .call 34 [(.tmp 59), (.tmp 61), (.tmp 63)], none⟩,
               ⟨some 65, .field true 0 1 (.tmp 64), none⟩,
               ⟨some 3, .mv (.tmp 65), none⟩] [])
              .skip))))
           (.region [⟨some 41, .mv (.tmp 6), none⟩,
            ⟨some 42, .bin .add (.tmp 41) (.con (.int .i64 1)), none⟩,
            ⟨some 6, .mv (.tmp 42), none⟩] [])))))))
       (.region [⟨some 27, .mv (.tmp 5), none⟩,
        ⟨some 28, .bin .add (.tmp 27) (.con (.int .i64 1)), none⟩,
        ⟨some 5, .mv (.tmp 28), none⟩] [])))))))
   (.region [⟨some 16, .mv (.tmp 4), none⟩,
    ⟨some 17, .bin .add (.tmp 16) (.con (.int .i64 1)), none⟩,
    ⟨some 4, .mv (.tmp 17), none⟩] []))))))
(.seq (.region [⟨some 66, .mv (.tmp 3), none⟩,
  ⟨some 2, .mv (.tmp 66), none⟩] [])
.ret)))), [.tmp 2], true, none, false⟩
def f22 : AFun := ⟨41, (.seq (.region [⟨some 3, .box (.tmp 0), none⟩,
  ⟨some 4, .box (.tmp 1), none⟩,
  ⟨some 6, .alloc [(.int .i64 0), (.int .i64 0), (.int .i64 0), (.int .i64 0), (.int .i64 0), (.int .i64 0), (.int .i64 0), (.int .i64 0), (.int .i64 0), (.int .i64 0), (.int .i64 0), (.int .i64 0), (.int .i64 0), (.int .i64 0), (.int .i64 0), (.int .i64 0), (.int .i64 0), (.int .i64 0), (.int .i64 0), (.int .i64 0), (.int .i64 0), (.bool false), (.int .u32 0), (.int .u32 0), (.int .u32 0), (.int .u32 0), (.int .u32 0), (.int .u32 0), (.int .u32 0), (.int .u32 0), (.int .u32 0), (.int .u32 0), (.int .u32 0), (.int .u32 0), (.int .u32 0), (.int .u32 0), (.int .u32 0), (.int .u32 0), (.int .u32 0), (.int .u32 0), (.int .u32 0), (.int .u32 0), (.int .u32 0), (.int .u32 0), (.int .u32 0), (.int .u32 0), (.int .u32 0), (.int .u32 0), (.int .u32 0), (.int .u32 0), (.int .u32 0), (.bool false), (.imm true 0 []), (.imm true 0 []), (.int .u32 0), (.bool false), (.int .u32 0), (.imm true 0 []), (.imm true 0 []), (.int .i64 0), (.imm true 0 []), (.int .i64 0), (.imm true 0 []), (.int .i64 0), (.imm true 0 []), (.int .i64 0), (.int .i64 0), (.int .i64 0), (.int .i64 0), (.int .i64 0), (.int .i64 0), (.int .i64 0), (.int .i64 0), (.int .i64 0), (.int .i64 0), (.int .i64 0), (.int .i64 0), (.int .i64 0), (.int .i64 0), (.int .i64 0), (.int .i64 0), (.int .i64 0), (.int .i64 0), (.int .i64 0), (.int .i64 0), (.int .i64 0), (.int .i64 0), (.int .i64 0), (.int .i64 0), (.int .i64 0), (.int .i64 0), (.int .i64 0), (.int .i64 0), (.int .i64 0), (.int .i64 0), (.int .i64 0), (.int .i64 0), (.imm true 0 []), (.int .i64 0), (.int .i64 0), (.int .u64 0), (.imm true 0 []), (.imm true 0 []), (.imm true 0 []), (.imm true 0 []), (.imm true 0 []), (.imm true 0 []), (.imm true 0 []), (.imm true 0 []), (.imm true 0 []), (.int .i64 0), (.int .i64 0)], none⟩,
  ⟨some 7, .alloc [(.imm true 0 []), (.imm true 0 [])], none⟩,
  ⟨some 8, .mv (.con (.int .u32 0)), none⟩,
  ⟨some 9, .mv (.con (.bool false)), none⟩] [])
(.seq (.region [⟨some 15, .faddr (.tmp 3) 107, none⟩,
  ⟨some 16, .load true 1 (.tmp 15), none⟩,
  ⟨some 17, .call 35 [(.tmp 16)], none⟩,
  ⟨some 14, .mv (.tmp 17), none⟩,
  ⟨some 18, .extract (.tmp 14) 0, none⟩,
  ⟨some 19, .extract (.tmp 14) 1, none⟩,
  ⟨some 20, .extract (.tmp 14) 2, none⟩,
  ⟨some 11, .alloc [(.int .u32 0), (.int .u32 0), (.int .i64 0)], none⟩,
  ⟨some 10, .mv (.tmp 18), none⟩,
  ⟨none, .store 3 (.tmp 11) (.tmp 19), none⟩,
  ⟨some 12, .mv (.tmp 20), none⟩] [])
(.seq (.region [⟨some 21, .mv (.tmp 10), none⟩,
  ⟨some 22, .faddr (.tmp 3) 107, none⟩,
  ⟨none, .store 1 (.tmp 22) (.tmp 21), none⟩] [])
(.seq (.region [⟨some 24, .load false 2 (.tmp 4), none⟩,
  ⟨some 25, .mv (.tmp 2), none⟩,
  ⟨some 26, .faddr (.tmp 11) 0, none⟩,
  ⟨some 27, .load true 1 (.tmp 26), none⟩,
  ⟨some 28, .faddr (.tmp 11) 2, none⟩,
  ⟨some 29, .load true 1 (.tmp 28), none⟩,
  ⟨some 30, .faddr (.tmp 11) 1, none⟩,
  ⟨some 31, .load true 1 (.tmp 30), none⟩,
  ⟨some 32, .call 36 [(.tmp 24), (.tmp 25), (.tmp 27), (.tmp 29), (.tmp 31)], none⟩,
  ⟨some 23, .mv (.tmp 32), none⟩,
  ⟨some 33, .extract (.tmp 23) 0, none⟩,
  ⟨some 34, .extract (.tmp 23) 1, none⟩,
  ⟨none, .store 2 (.tmp 4) (.tmp 33), none⟩,
  ⟨some 13, .mv (.tmp 34), none⟩] [])
(.seq (.region [⟨some 35, .load false 112 (.tmp 3), none⟩,
  ⟨some 36, .load false 2 (.tmp 4), none⟩,
  ⟨some 37, .faddr (.tmp 11) 0, none⟩,
  ⟨some 38, .load true 1 (.tmp 37), none⟩,
  ⟨some 39, .call 37 [(.tmp 38)], none⟩,
  ⟨some 40, .mv (.tmp 13), none⟩,
  ⟨none, .store 112 (.tmp 6) (.tmp 35), none⟩,
  ⟨none, .store 2 (.tmp 7) (.tmp 36), none⟩,
  ⟨some 8, .mv (.tmp 39), none⟩,
  ⟨some 9, .mv (.tmp 40), none⟩] [(0, 4), (1, 4), (1, 6)])
.ret))))), [.cell 6 false 112, .cell 7 false 2, .tmp 8, .tmp 9], false, none, true⟩
def f23 : AFun := ⟨55, (.seq (.region [⟨some 1, .box (.tmp 0), none⟩,
  ⟨some 2, .mv (.con (.bool false)), none⟩] [])
(.seq (.seq (.region [⟨some 5, .faddr (.tmp 1) 0, none⟩,
   ⟨some 6, .load true 1 (.tmp 5), none⟩,
   ⟨some 7, .len (.tmp 6), none⟩,
   ⟨some 8, .bin .lss (.tmp 7) (.con (.int .i64 1)), none⟩,
   ⟨some 9, .mv (.tmp 8), none⟩,
   ⟨some 10, .faddr (.tmp 1) 0, some (9, false)⟩,
   ⟨some 11, .load true 1 (.tmp 10), some (9, false)⟩,
   ⟨some 12, .len (.tmp 11), some (9, false)⟩,
   ⟨some 13, .bin .gtr (.tmp 12) (.con (.int .i64 8)), some (9, false)⟩,
   ⟨some 14, .pick (.tmp 9) (.con (.bool true)) (.tmp 13), none⟩] [])
 (.cond (.tmp 14)
  (.seq (.region [⟨some 2, .mv (.con (.bool false)), none⟩] [])
  .ret)
  .skip))
(.seq (.seq (.region [⟨some 3, .mv (.con (.int .i64 0)), none⟩] [])
 (.block 0 (.loop (.seq (.seq (.region [⟨some 15, .mv (.tmp 3), none⟩,
      ⟨some 16, .faddr (.tmp 1) 0, none⟩,
      ⟨some 17, .load true 1 (.tmp 16), none⟩,
      ⟨some 18, .len (.tmp 17), none⟩,
      ⟨some 19, .bin .lss (.tmp 15) (.tmp 18), none⟩] [])
    (.cond (.tmp 19)
     .skip
     (.exit 0)))
   (.seq (.block 1 (.seq (.region [⟨some 22, .faddr (.tmp 1) 0, none⟩,
       ⟨some 23, .load true 1 (.tmp 22), none⟩,
       ⟨some 24, .mv (.tmp 3), none⟩,
       ⟨some 25, .isl 1 (.tmp 23) (.tmp 24), none⟩,
       ⟨some 26, .load true 1 (.tmp 25), none⟩,
       ⟨some 27, .len (.tmp 26), none⟩,
       ⟨some 4, .mv (.tmp 27), none⟩] [])
     (.seq (.region [⟨some 28, .mv (.tmp 4), none⟩,
       ⟨some 29, .bin .lss (.tmp 28) (.con (.int .i64 1)), none⟩,
       ⟨some 30, .mv (.tmp 29), none⟩,
       ⟨some 31, .mv (.tmp 4), some (30, false)⟩,
       ⟨some 32, .bin .gtr (.tmp 31) (.con (.int .i64 4)), some (30, false)⟩,
       ⟨some 33, .pick (.tmp 30) (.con (.bool true)) (.tmp 32), none⟩,
       ⟨some 34, .mv (.tmp 33), none⟩,
       ⟨some 35, .mv (.tmp 4), some (34, false)⟩,
       ⟨some 36, .faddr (.tmp 1) 0, some (34, false)⟩,
       ⟨some 37, .load true 1 (.tmp 36), some (34, false)⟩,
       ⟨some 38, .isl 1 (.tmp 37) (.con (.int .i64 0)), some (34, false)⟩,
       ⟨some 39, .load true 1 (.tmp 38), some (34, false)⟩,
       ⟨some 40, .len (.tmp 39), some (34, false)⟩,
       ⟨some 41, .bin .neq (.tmp 35) (.tmp 40), some (34, false)⟩,
       ⟨some 42, .pick (.tmp 34) (.con (.bool true)) (.tmp 41), none⟩,
       ⟨some 43, .mv (.tmp 42), none⟩,
       ⟨some 44, .load false 1 (.tmp 1), some (43, false)⟩,
       ⟨some 45, .mv (.tmp 3), some (43, false)⟩,
       ⟨some 46, .call 38 [(.tmp 44), (.tmp 45)], some (43, false)⟩,
       ⟨some 47, .un .not (.tmp 46), some (43, false)⟩,
       ⟨some 48, .pick (.tmp 43) (.con (.bool true)) (.tmp 47), none⟩,
       ⟨some 49, .mv (.tmp 48), none⟩,
       ⟨some 50, .load false 1 (.tmp 1), some (49, false)⟩,
       ⟨some 51, .mv (.tmp 3), some (49, false)⟩,
       ⟨some 52, .call 39 [(.tmp 50), (.tmp 51)], some (49, false)⟩,
       ⟨some 53, .un .not (.tmp 52), some (49, false)⟩,
       ⟨some 54, .pick (.tmp 49) (.con (.bool true)) (.tmp 53), none⟩] [])
     (.cond (.tmp 54)
      (.seq (.region [⟨some 2, .mv (.con (.bool false)), none⟩] [])
      .ret)
      .skip))))
   (.region [⟨some 20, .mv (.tmp 3), none⟩,
    ⟨some 21, .bin .add (.tmp 20) (.con (.int .i64 1)), none⟩,
    ⟨some 3, .mv (.tmp 21), none⟩] []))))))
(.seq (.region [⟨some 2, .mv (.con (.bool true)), none⟩] [])
.ret)))), [.tmp 2], true, none, false⟩
def f24 : AFun := ⟨14, (.seq (.region [⟨some 2, .box (.tmp 0), none⟩,
  ⟨some 4, .mv (.con (.bool false)), none⟩] [])
(.seq (.region [⟨some 5, .mv (.tmp 1), none⟩,
  ⟨some 6, .conv .u64 (.tmp 5), none⟩,
  ⟨some 7, .bin .mul (.tmp 6) (.con (.int .u64 16)), none⟩,
  ⟨some 8, .bin .add (.tmp 7) (.con (.int .u64 16)), none⟩,
  ⟨some 9, .faddr (.tmp 2) 0, none⟩,
  ⟨some 10, .load true 1 (.tmp 9), none⟩,
  ⟨some 11, .len (.tmp 10), none⟩,
  ⟨some 12, .conv .u64 (.tmp 11), none⟩,
  ⟨some 13, .bin .leq (.tmp 8) (.tmp 12), none⟩,
  ⟨some 4, .mv (.tmp 13), none⟩] [])
.ret)), [.tmp 4], true, none, false⟩
def f25 : AFun := ⟨24, (.seq (.region [⟨some 2, .box (.tmp 0), none⟩,
  ⟨some 4, .alloc (List.replicate 16 (.int .u8 0)), none⟩] [])
(.seq (.region [⟨some 7, .build (List.replicate 16 (.int .u8 0)) [], none⟩,
  ⟨some 5, .alloc (List.replicate 16 (.int .u8 0)), none⟩,
  ⟨none, .store 16 (.tmp 5) (.tmp 7), none⟩] [])
(.seq (.seq (.region [⟨some 6, .mv (.con (.int .i64 0)), none⟩] [])
 (.block 0 (.loop (.seq (.seq (.region [⟨some 8, .mv (.tmp 6), none⟩,
      ⟨some 9, .bin .lss (.tmp 8) (.con (.int .i64 16)), none⟩] [])
    (.cond (.tmp 9)
     .skip
     (.exit 0)))
   (.seq (.block 1 (.region [⟨some 12, .mv (.tmp 6), none⟩,
      ⟨some 13, .faddr (.tmp 2) 0, none⟩,
      ⟨some 14, .load true 1 (.tmp 13), none⟩,
      ⟨some 15, .mv (.tmp 1), none⟩,
      ⟨some 16, .conv .i64 (.tmp 15), none⟩,
      ⟨some 17, .bin .mul (.tmp 16) (.con (.int .i64 16)), none⟩,
      ⟨some 18, .mv (.tmp 6), none⟩,
      ⟨some 19, .bin .add (.tmp 17) (.tmp 18), none⟩,
      ⟨some 20, .isl 1 (.tmp 14) (.tmp 19), none⟩,
      ⟨some 21, .load true 1 (.tmp 20), none⟩,
      ⟨some 22, .iarr 16 1 (.tmp 5) (.tmp 12), none⟩,
      ⟨none, .store 1 (.tmp 22) (.tmp 21), none⟩] []))
   (.region [⟨some 10, .mv (.tmp 6), none⟩,
    ⟨some 11, .bin .add (.tmp 10) (.con (.int .i64 1)), none⟩,
    ⟨some 6, .mv (.tmp 11), none⟩] []))))))
(.seq (.region [⟨some 23, .load false 16 (.tmp 5), none⟩,
  ⟨none, .store 16 (.tmp 4) (.tmp 23), none⟩] [])
.ret)))), [.cell 4 false 16], true, none, false⟩
def f26 : AFun := ⟨19, (.seq (.region [⟨some 3, .box (.tmp 0), none⟩,
  ⟨some 6, .mv (.con (.int .i64 0)), none⟩] [])
(.seq (.seq (.region [⟨some 7, .load false 2 (.tmp 3), none⟩,
   ⟨some 8, .mv (.tmp 1), none⟩,
   ⟨some 9, .call 40 [(.tmp 7), (.tmp 8)], none⟩,
   ⟨some 10, .un .not (.tmp 9), none⟩] [])
 (.cond (.tmp 10)
  (.seq (.region [⟨some 6, .mv (.con (.int .i64 0)), none⟩] [])
  .ret)
  .skip))
(.seq (.region [⟨some 11, .faddr (.tmp 3) 1, none⟩,
  ⟨some 12, .load true 1 (.tmp 11), none⟩,
  ⟨some 13, .mv (.tmp 1), none⟩,
  ⟨some 14, .isl 1 (.tmp 12) (.tmp 13), none⟩,
  ⟨some 15, .load false 1 (.tmp 14), none⟩,
  ⟨some 16, .mv (.tmp 2), none⟩,
  ⟨some 17, .call 41 [(.tmp 15), (.tmp 16)], none⟩,
  ⟨some 18, .field true 0 1 (.tmp 17), none⟩,
  ⟨some 6, .mv (.tmp 18), none⟩] [])
.ret))), [.tmp 6], true, none, false⟩
def f27 : AFun := ⟨42, (.seq (.region [⟨some 2, .mv (.con (.bool false)), none⟩] [])
(.seq (.region [⟨some 3, .mv (.con (.int .i64 0)), none⟩,
  ⟨some 4, .mv (.con (.bool false)), none⟩] [])
(.seq (.seq (.region [⟨some 5, .mv (.con (.int .i64 0)), none⟩] [])
 (.block 0 (.loop (.seq (.seq (.region [⟨some 6, .mv (.tmp 5), none⟩,
      ⟨some 7, .mv (.tmp 0), none⟩,
      ⟨some 8, .len (.tmp 7), none⟩,
      ⟨some 9, .bin .lss (.tmp 6) (.tmp 8), none⟩] [])
    (.cond (.tmp 9)
     .skip
     (.exit 0)))
   (.seq (.block 1 (.seq (.seq (.region [⟨some 12, .mv (.tmp 0), none⟩,
        ⟨some 13, .mv (.tmp 5), none⟩,
        ⟨some 14, .isl 1 (.tmp 12) (.tmp 13), none⟩,
        ⟨some 15, .load true 1 (.tmp 14), none⟩,
        ⟨some 16, .bin .lss (.tmp 15) (.con (.int .i64 0)), none⟩,
        ⟨some 17, .mv (.tmp 16), none⟩,
        ⟨some 18, .mv (.tmp 0), some (17, false)⟩,
        ⟨some 19, .mv (.tmp 5), some (17, false)⟩,
        ⟨some 20, .isl 1 (.tmp 18) (.tmp 19), some (17, false)⟩,
        ⟨some 21, .load true 1 (.tmp 20), some (17, false)⟩,
        ⟨some 22, .bin .gtr (.tmp 21) (.con (.int .i64 3)), some (17, false)⟩,
        ⟨some 23, .pick (.tmp 17) (.con (.bool true)) (.tmp 22), none⟩] [])
      (.cond (.tmp 23)
       (.seq (.region [⟨some 2, .mv (.con (.bool false)), none⟩] [])
       .ret)
       .skip))
     (.seq (.seq (.region [⟨some 24, .mv (.tmp 0), none⟩,
        ⟨some 25, .mv (.tmp 5), none⟩,
        ⟨some 26, .isl 1 (.tmp 24) (.tmp 25), none⟩,
        ⟨some 27, .load true 1 (.tmp 26), none⟩,
        ⟨some 28, .bin .gtr (.tmp 27) (.con (.int .i64 0)), none⟩] [])
      (.cond (.tmp 28)
       (.region [⟨some 29, .mv (.tmp 3), none⟩,
        ⟨some 30, .bin .add (.tmp 29) (.con (.int .i64 1)), none⟩,
        ⟨some 3, .mv (.tmp 30), none⟩] [])
       .skip))
     (.seq (.region [⟨some 31, .mv (.tmp 0), none⟩,
       ⟨some 32, .mv (.tmp 5), none⟩,
       ⟨some 33, .isl 1 (.tmp 31) (.tmp 32), none⟩,
       ⟨some 34, .load true 1 (.tmp 33), none⟩,
       ⟨some 35, .bin .gtr (.tmp 34) (.con (.int .i64 1)), none⟩] [])
     (.cond (.tmp 35)
      (.region [⟨some 4, .mv (.con (.bool true)), none⟩] [])
      .skip)))))
   (.region [⟨some 10, .mv (.tmp 5), none⟩,
    ⟨some 11, .bin .add (.tmp 10) (.con (.int .i64 1)), none⟩,
    ⟨some 5, .mv (.tmp 11), none⟩] []))))))
(.seq (.region [⟨some 36, .mv (.tmp 4), none⟩,
  ⟨some 37, .un .not (.tmp 36), none⟩,
  ⟨some 38, .mv (.tmp 37), none⟩,
  ⟨some 39, .mv (.tmp 3), some (38, false)⟩,
  ⟨some 40, .bin .eql (.tmp 39) (.con (.int .i64 1)), some (38, false)⟩,
  ⟨some 41, .pick (.tmp 38) (.con (.bool true)) (.tmp 40), none⟩,
  ⟨some 2, .mv (.tmp 41), none⟩] [])
.ret)))), [.tmp 2], true, none, false⟩
def f28 : AFun := ⟨35, (.seq (.region [⟨some 4, .alloc [(.imm true 0 [])], none⟩] [])
(.seq (.region [⟨some 5, .alloc [(.imm true 0 [])], none⟩] [])
(.seq (.seq (.region [⟨some 6, .mv (.con (.int .i64 0)), none⟩] [])
 (.block 0 (.loop (.seq (.seq (.region [⟨some 9, .mv (.tmp 6), none⟩,
      ⟨some 10, .mv (.tmp 0), none⟩,
      ⟨some 11, .mx [(.tmp 10), (.con (.int .i64 1))], none⟩,
      ⟨some 12, .mn [(.tmp 11), (.con (.int .i64 8))], none⟩,
      ⟨some 13, .bin .lss (.tmp 9) (.tmp 12), none⟩] [])
    (.cond (.tmp 13)
     .skip
     (.exit 0)))
   (.seq (.block 1 (.seq (.region [⟨some 7, .mv (.con (.imm true 0 [])), none⟩] [])
     (.seq (.seq (.region [⟨some 8, .mv (.con (.int .i64 0)), none⟩] [])
      (.block 2 (.loop (.seq (.seq (.region [⟨some 16, .mv (.tmp 8), none⟩,
           ⟨some 17, .mv (.tmp 1), none⟩,
           ⟨some 18, .mx [(.tmp 17), (.con (.int .i64 1))], none⟩,
           ⟨some 19, .mn [(.tmp 18), (.con (.int .i64 4))], none⟩,
           ⟨some 20, .bin .lss (.tmp 16) (.tmp 19), none⟩] [])
         (.cond (.tmp 20)
          .skip
          (.exit 2)))
        (.seq (.block 3 (.region [⟨some 23, .mv (.tmp 7), none⟩,
           ⟨some 24, .mv (.tmp 8), none⟩,
           ⟨some 25, .build [(.int .i64 0), (.int .u32 0), (.int .u8 0), (.int .u8 0), (.int .u8 0), (.int .u8 0), (.int .u8 0), (.int .u8 0), (.int .u8 0), (.int .u8 0), (.int .u8 0), (.int .u8 0), (.int .u8 0), (.int .u8 0), (.int .u8 0), (.int .u8 0), (.int .u8 0), (.int .u8 0), (.int .i64 0)] [(18, 1, (.tmp 24))], none⟩,
           ⟨some 26, .bsl [(.int .i64 0), (.int .u32 0), (.int .u8 0), (.int .u8 0), (.int .u8 0), (.int .u8 0), (.int .u8 0), (.int .u8 0), (.int .u8 0), (.int .u8 0), (.int .u8 0), (.int .u8 0), (.int .u8 0), (.int .u8 0), (.int .u8 0), (.int .u8 0), (.int .u8 0), (.int .u8 0), (.int .i64 0)] 1 19 [(0, 19, (.tmp 25))], none⟩,
           ⟨some 27, .append 19 40 (.tmp 23) (.tmp 26), none⟩,
           ⟨some 7, .mv (.tmp 27), none⟩] []))
        (.region [⟨some 21, .mv (.tmp 8), none⟩,
         ⟨some 22, .bin .add (.tmp 21) (.con (.int .i64 1)), none⟩,
         ⟨some 8, .mv (.tmp 22), none⟩] []))))))
     (.region [⟨some 28, .faddr (.tmp 5) 0, none⟩,
      ⟨some 29, .load true 1 (.tmp 28), none⟩,
      ⟨some 30, .mv (.tmp 7), none⟩,
      ⟨some 31, .bsl [(.imm true 0 [])] 1 1 [(0, 1, (.tmp 30))], none⟩,
      ⟨some 32, .append 1 24 (.tmp 29) (.tmp 31), none⟩,
      ⟨some 33, .faddr (.tmp 5) 0, none⟩,
      ⟨none, .store 1 (.tmp 33) (.tmp 32), none⟩] []))))
   (.region [⟨some 14, .mv (.tmp 6), none⟩,
    ⟨some 15, .bin .add (.tmp 14) (.con (.int .i64 1)), none⟩,
    ⟨some 6, .mv (.tmp 15), none⟩] []))))))
(.seq (.region [⟨some 34, .load false 1 (.tmp 5), none⟩,
  ⟨none, .store 1 (.tmp 4) (.tmp 34), none⟩] [])
.ret)))), [.cell 4 false 1], true, none, false⟩
def f30 : AFun := ⟨38, (.seq (.region [⟨some 2, .box (.tmp 0), none⟩,
  ⟨some 4, .mv (.con (.bool false)), none⟩] [])
(.seq (.seq (.region [⟨some 11, .faddr (.tmp 2) 1, none⟩,
   ⟨some 12, .load true 1 (.tmp 11), none⟩,
   ⟨some 13, .len (.tmp 12), none⟩,
   ⟨some 14, .mv (.con (.int .i64 0)), none⟩] [])
 (.block 0 (.loop (.seq (.region [⟨some 15, .bin .lss (.tmp 14) (.tmp 13), none⟩] [])
   (.seq (.cond (.tmp 15)
     .skip
     (.exit 0))
   (.seq (.block 1 (.seq (.region [⟨some 16, .isl 1 (.tmp 12) (.tmp 14), none⟩,
       ⟨some 17, .load false 1 (.tmp 16), none⟩,
       ⟨some 6, .alloc [(.imm true 0 [])], none⟩,
       ⟨none, .store 1 (.tmp 6) (.tmp 17), none⟩] [])
     (.seq (.region [⟨some 18, .faddr (.tmp 6) 0, none⟩,
       ⟨some 19, .load true 1 (.tmp 18), none⟩,
       ⟨some 20, .len (.tmp 19), none⟩,
       ⟨some 21, .mv (.con (.int .i64 0)), none⟩] [])
     (.block 2 (.loop (.seq (.region [⟨some 22, .bin .lss (.tmp 21) (.tmp 20), none⟩] [])
       (.seq (.cond (.tmp 22)
         .skip
         (.exit 2))
       (.seq (.block 3 (.seq (.region [⟨some 23, .isl 1 (.tmp 19) (.tmp 21), none⟩,
           ⟨some 24, .load true 1 (.tmp 23), none⟩,
           ⟨some 8, .mv (.tmp 24), none⟩] [])
         (.seq (.region [⟨some 25, .mv (.tmp 8), none⟩,
           ⟨some 26, .len (.tmp 25), none⟩,
           ⟨some 27, .mv (.con (.int .i64 0)), none⟩] [])
         (.block 4 (.loop (.seq (.region [⟨some 28, .bin .lss (.tmp 27) (.tmp 26), none⟩] [])
           (.seq (.cond (.tmp 28)
             .skip
             (.exit 4))
           (.seq (.block 5 (.seq (.region [⟨some 29, .isl 19 (.tmp 25) (.tmp 27), none⟩,
               ⟨some 30, .load false 19 (.tmp 29), none⟩,
               ⟨some 10, .alloc [(.int .i64 0), (.int .u32 0), (.int .u8 0), (.int .u8 0), (.int .u8 0), (.int .u8 0), (.int .u8 0), (.int .u8 0), (.int .u8 0), (.int .u8 0), (.int .u8 0), (.int .u8 0), (.int .u8 0), (.int .u8 0), (.int .u8 0), (.int .u8 0), (.int .u8 0), (.int .u8 0), (.int .i64 0)], none⟩,
               ⟨none, .store 19 (.tmp 10) (.tmp 30), none⟩] [])
             (.seq (.region [⟨some 31, .mv (.tmp 1), none⟩,
               ⟨some 32, .load false 19 (.tmp 10), none⟩,
               ⟨some 33, .callv (.tmp 31) [(.tmp 32)], none⟩,
               ⟨some 34, .un .not (.tmp 33), none⟩] [])
             (.cond (.tmp 34)
              (.seq (.region [⟨some 4, .mv (.con (.bool false)), none⟩] [])
              .ret)
              .skip))))
           (.region [⟨some 35, .bin .add (.tmp 27) (.con (.int .i64 1)), none⟩,
            ⟨some 27, .mv (.tmp 35), none⟩] [])))))))))
       (.region [⟨some 36, .bin .add (.tmp 21) (.con (.int .i64 1)), none⟩,
        ⟨some 21, .mv (.tmp 36), none⟩] [])))))))))
   (.region [⟨some 37, .bin .add (.tmp 14) (.con (.int .i64 1)), none⟩,
    ⟨some 14, .mv (.tmp 37), none⟩] [])))))))
(.seq (.region [⟨some 4, .mv (.con (.bool true)), none⟩] [])
.ret))), [.tmp 4], false, none, false⟩
def f31 : AFun := ⟨22, (.seq (.region [⟨some 2, .box (.tmp 0), none⟩,
  ⟨some 3, .mv (.con (.bool false)), none⟩] [])
(.seq (.seq (.region [⟨some 4, .faddr (.tmp 2) 0, none⟩,
   ⟨some 5, .load true 1 (.tmp 4), none⟩,
   ⟨some 6, .bin .eql (.tmp 5) (.con (.int .i64 3)), none⟩,
   ⟨some 7, .mv (.tmp 6), none⟩,
   ⟨some 8, .load true 1 (.tmp 1), some (7, true)⟩,
   ⟨some 9, .faddr (.tmp 2) 1, some (7, true)⟩,
   ⟨some 10, .load true 1 (.tmp 9), some (7, true)⟩,
   ⟨some 11, .call 32 [(.tmp 8), (.tmp 10)], some (7, true)⟩,
   ⟨some 12, .pick (.tmp 7) (.tmp 11) (.con (.bool false)), none⟩] [])
 (.cond (.tmp 12)
  (.region [⟨some 13, .load true 1 (.tmp 1), none⟩,
   ⟨some 14, .faddr (.tmp 2) 1, none⟩,
   ⟨some 15, .load true 1 (.tmp 14), none⟩,
   ⟨some 16, .conv .i64 (.tmp 15), none⟩,
   ⟨some 17, .bin .mul (.tmp 16) (.con (.int .i64 16)), none⟩,
   ⟨some 18, .slSl 1 (.tmp 13) (some (.tmp 17)) none none, none⟩,
   ⟨some 19, .faddr (.tmp 2) 2, none⟩,
   ⟨some 20, .slArr 16 1 (.tmp 19) none none none, none⟩,
   ⟨some 21, .copy 1 (.tmp 18) (.tmp 20), none⟩] [])
  .skip))
(.seq (.region [⟨some 3, .mv (.con (.bool true)), none⟩] [])
.ret))), [.tmp 3], false, none, false⟩
def f32 : AFun := ⟨13, (.seq (.region [⟨some 4, .mv (.con (.bool false)), none⟩] [])
(.seq (.region [⟨some 5, .mv (.tmp 1), none⟩,
  ⟨some 6, .conv .u64 (.tmp 5), none⟩,
  ⟨some 7, .bin .mul (.tmp 6) (.con (.int .u64 16)), none⟩,
  ⟨some 8, .bin .add (.tmp 7) (.con (.int .u64 16)), none⟩,
  ⟨some 9, .mv (.tmp 0), none⟩,
  ⟨some 10, .len (.tmp 9), none⟩,
  ⟨some 11, .conv .u64 (.tmp 10), none⟩,
  ⟨some 12, .bin .leq (.tmp 8) (.tmp 11), none⟩,
  ⟨some 4, .mv (.tmp 12), none⟩] [])
.ret)), [.tmp 4], true, none, false⟩
def f33 : AFun := ⟨24, (.seq (.region [⟨some 1, .box (.tmp 0), none⟩,
  ⟨some 2, .alloc [(.imm true 0 []), (.imm true 0 [])], none⟩] [])
(.seq (.region [⟨some 4, .faddr (.tmp 1) 0, none⟩,
  ⟨some 5, .load true 1 (.tmp 4), none⟩,
  ⟨some 6, .len (.tmp 5), none⟩,
  ⟨some 7, .mksl [(.int .u8 0)] 1 1 (.tmp 6) (.tmp 6), none⟩,
  ⟨some 8, .faddr (.tmp 1) 1, none⟩,
  ⟨some 9, .load true 1 (.tmp 8), none⟩,
  ⟨some 10, .len (.tmp 9), none⟩,
  ⟨some 11, .mksl [(.imm true 0 [])] 1 24 (.tmp 10) (.tmp 10), none⟩,
  ⟨some 12, .build [(.imm true 0 []), (.imm true 0 [])] [(0, 1, (.tmp 7)), (1, 1, (.tmp 11))], none⟩,
  ⟨some 3, .alloc [(.imm true 0 []), (.imm true 0 [])], none⟩,
  ⟨none, .store 2 (.tmp 3) (.tmp 12), none⟩] [(3, 5), (1, 7), (3, 7), (1, 9), (3, 9), (5, 9), (7, 9)])
(.seq (.region [⟨some 13, .faddr (.tmp 3) 0, none⟩,
  ⟨some 14, .load true 1 (.tmp 13), none⟩,
  ⟨some 15, .faddr (.tmp 1) 0, none⟩,
  ⟨some 16, .load true 1 (.tmp 15), none⟩,
  ⟨some 17, .copy 1 (.tmp 14) (.tmp 16), none⟩] [])
(.seq (.region [⟨some 18, .faddr (.tmp 3) 1, none⟩,
  ⟨some 19, .load true 1 (.tmp 18), none⟩,
  ⟨some 20, .faddr (.tmp 1) 1, none⟩,
  ⟨some 21, .load true 1 (.tmp 20), none⟩,
  ⟨some 22, .copy 1 (.tmp 19) (.tmp 21), none⟩] [])
(.seq (.region [⟨some 23, .load false 2 (.tmp 3), none⟩,
  ⟨none, .store 2 (.tmp 2) (.tmp 23), none⟩] [])
.ret))))), [.cell 2 false 2], false, none, false⟩
def f34 : AFun := ⟨32, (.seq (.region [⟨some 3, .box (.tmp 0), none⟩,
  ⟨some 5, .box (.tmp 2), none⟩,
  ⟨some 6, .alloc [(.imm true 0 []), (.imm true 0 [])], none⟩] [])
(.seq (.seq (.region [⟨some 9, .load false 2 (.tmp 3), none⟩,
   ⟨some 10, .mv (.tmp 1), none⟩,
   ⟨some 11, .call 24 [(.tmp 9), (.tmp 10)], none⟩,
   ⟨some 12, .un .not (.tmp 11), none⟩] [])
 (.cond (.tmp 12)
  (.seq (.region [⟨some 13, .load false 2 (.tmp 3), none⟩,
    ⟨none, .store 2 (.tmp 6) (.tmp 13), none⟩] [])
  .ret)
  .skip))
(.seq (.region [⟨some 14, .load false 2 (.tmp 3), none⟩,
  ⟨some 15, .call 33 [(.tmp 14)], none⟩,
  ⟨some 7, .alloc [(.imm true 0 []), (.imm true 0 [])], none⟩,
  ⟨none, .store 2 (.tmp 7) (.tmp 15), none⟩] [])
(.seq (.seq (.region [⟨some 8, .mv (.con (.int .i64 0)), none⟩] [])
 (.block 0 (.loop (.seq (.seq (.region [⟨some 16, .mv (.tmp 8), none⟩,
      ⟨some 17, .bin .lss (.tmp 16) (.con (.int .i64 16)), none⟩] [])
    (.cond (.tmp 17)
     .skip
     (.exit 0)))
   (.seq (.block 1 (.region [⟨some 20, .faddr (.tmp 7) 0, none⟩,
      ⟨some 21, .load true 1 (.tmp 20), none⟩,
      ⟨some 22, .mv (.tmp 1), none⟩,
      ⟨some 23, .conv .i64 (.tmp 22), none⟩,
      ⟨some 24, .bin .mul (.tmp 23) (.con (.int .i64 16)), none⟩,
      ⟨some 25, .mv (.tmp 8), none⟩,
      ⟨some 26, .bin .add (.tmp 24) (.tmp 25), none⟩,
      ⟨some 27, .mv (.tmp 8), none⟩,
      ⟨some 28, .iarr 16 1 (.tmp 5) (.tmp 27), none⟩,
      ⟨some 29, .load true 1 (.tmp 28), none⟩,
      ⟨some 30, .isl 1 (.tmp 21) (.tmp 26), none⟩,
      ⟨none, .store 1 (.tmp 30) (.tmp 29), none⟩] []))
   (.region [⟨some 18, .mv (.tmp 8), none⟩,
    ⟨some 19, .bin .add (.tmp 18) (.con (.int .i64 1)), none⟩,
    ⟨some 8, .mv (.tmp 19), none⟩] []))))))
(.seq (.region [⟨some 31, .load false 2 (.tmp 7), none⟩,
  ⟨none, .store 2 (.tmp 6) (.tmp 31), none⟩] [])
.ret))))), [.cell 6 false 2], false, none, false⟩
def f35 : AFun := ⟨18, (.seq (.region [⟨some 2, .mv (.con (.imm true 0 [])), none⟩,
  ⟨some 3, .alloc [(.int .u32 0), (.int .u32 0), (.int .i64 0)], none⟩,
  ⟨some 4, .mv (.con (.bool false)), none⟩] [])
(.seq (.seq (.region [⟨some 5, .mv (.tmp 0), none⟩,
   ⟨some 6, .len (.tmp 5), none⟩,
   ⟨some 7, .bin .eql (.tmp 6) (.con (.int .i64 0)), none⟩] [])
 (.cond (.tmp 7)
  (.seq (.region [⟨some 8, .build [(.int .u32 0), (.int .u32 0), (.int .i64 0)] [], none⟩,
    ⟨some 2, .mv (.con (.imm true 0 [])), none⟩,
    ⟨none, .store 3 (.tmp 3) (.tmp 8), none⟩,
    ⟨some 4, .mv (.con (.bool false)), none⟩] [])
  .ret)
  .skip))
(.seq (.region [⟨some 9, .mv (.tmp 0), none⟩,
  ⟨some 10, .mv (.tmp 0), none⟩,
  ⟨some 11, .len (.tmp 10), none⟩,
  ⟨some 12, .mv (.tmp 0), none⟩,
  ⟨some 13, .len (.tmp 12), none⟩,
  ⟨some 14, .slSl 3 (.tmp 9) (some (.con (.int .i64 1))) (some (.tmp 11)) (some (.tmp 13)), none⟩,
  ⟨some 15, .mv (.tmp 0), none⟩,
  ⟨some 16, .isl 3 (.tmp 15) (.con (.int .i64 0)), none⟩,
  ⟨some 17, .load false 3 (.tmp 16), none⟩,
  ⟨some 2, .mv (.tmp 14), none⟩,
  ⟨none, .store 3 (.tmp 3) (.tmp 17), none⟩,
  ⟨some 4, .mv (.con (.bool true)), none⟩] [])
.ret))), [.tmp 2, .cell 3 false 3, .tmp 4], false, none, true⟩
def f36 : AFun := ⟨54, (.seq (.region [⟨some 5, .box (.tmp 0), none⟩,
  ⟨some 10, .alloc [(.imm true 0 []), (.imm true 0 [])], none⟩,
  ⟨some 11, .mv (.con (.bool false)), none⟩] [])
(.seq (.seq (.region [⟨some 16, .load false 2 (.tmp 5), none⟩,
   ⟨some 17, .mv (.tmp 1), none⟩,
   ⟨some 18, .mv (.tmp 2), none⟩,
   ⟨some 19, .mv (.tmp 3), none⟩,
   ⟨some 20, .call 42 [(.tmp 16), (.tmp 17), (.tmp 18), (.tmp 19)], none⟩,
   ⟨some 21, .un .not (.tmp 20), none⟩] [])
 (.cond (.tmp 21)
  (.seq (.region [⟨some 22, .load false 2 (.tmp 5), none⟩,
    ⟨none, .store 2 (.tmp 10) (.tmp 22), none⟩,
    ⟨some 11, .mv (.con (.bool false)), none⟩] [])
  .ret)
  .skip))
(.seq (.region [⟨some 23, .mv (.tmp 2), none⟩,
  ⟨some 24, .call 37 [(.tmp 23)], none⟩,
  ⟨some 12, .mv (.tmp 24), none⟩] [])
(.seq (.region [⟨some 26, .load false 2 (.tmp 5), none⟩,
  ⟨some 27, .mv (.tmp 1), none⟩,
  ⟨some 28, .mv (.tmp 12), none⟩,
  ⟨some 29, .call 43 [(.tmp 26), (.tmp 27), (.tmp 28), (.con (.int .i64 2))], none⟩,
  ⟨some 25, .mv (.tmp 29), none⟩,
  ⟨some 30, .extract (.tmp 25) 0, none⟩,
  ⟨some 31, .extract (.tmp 25) 1, none⟩,
  ⟨none, .store 2 (.tmp 5) (.tmp 30), none⟩,
  ⟨some 13, .mv (.tmp 31), none⟩] [])
(.seq (.seq (.region [⟨some 33, .faddr (.tmp 5) 1, none⟩,
   ⟨some 34, .load true 1 (.tmp 33), none⟩,
   ⟨some 35, .mv (.tmp 1), none⟩,
   ⟨some 36, .isl 1 (.tmp 34) (.tmp 35), none⟩,
   ⟨some 37, .load false 1 (.tmp 36), none⟩,
   ⟨some 38, .mv (.tmp 2), none⟩,
   ⟨some 39, .mv (.tmp 3), none⟩,
   ⟨some 40, .mv (.tmp 4), none⟩,
   ⟨some 41, .call 44 [(.tmp 37), (.tmp 38), (.tmp 39), (.tmp 40)], none⟩,
   ⟨some 32, .mv (.tmp 41), none⟩,
   ⟨some 42, .extract (.tmp 32) 0, none⟩,
   ⟨some 43, .extract (.tmp 32) 1, none⟩,
   ⟨some 14, .alloc [(.imm true 0 [])], none⟩,
   ⟨none, .store 1 (.tmp 14) (.tmp 42), none⟩,
   ⟨some 15, .mv (.tmp 43), none⟩] [])
 (.seq (.region [⟨some 44, .mv (.tmp 15), none⟩] [])
 (.cond (.tmp 44)
  (.region [⟨some 45, .load false 2 (.tmp 5), none⟩,
   ⟨some 46, .mv (.tmp 1), none⟩,
   ⟨some 47, .load false 1 (.tmp 14), none⟩,
   ⟨some 48, .call 45 [(.tmp 45), (.tmp 46), (.tmp 47)], none⟩,
   ⟨none, .store 2 (.tmp 5) (.tmp 48), none⟩] [])
  .skip)))
(.seq (.region [⟨some 49, .load false 2 (.tmp 5), none⟩,
  ⟨some 50, .mv (.tmp 1), none⟩,
  ⟨some 51, .mv (.tmp 12), none⟩,
  ⟨some 52, .call 46 [(.tmp 49), (.tmp 50), (.tmp 51)], none⟩,
  ⟨some 53, .mv (.tmp 13), none⟩,
  ⟨none, .store 2 (.tmp 10) (.tmp 52), none⟩,
  ⟨some 11, .mv (.tmp 53), none⟩] [])
.ret)))))), [.cell 10 false 2, .tmp 11], true, none, false⟩
def f37 : AFun := ⟨5, (.seq (.region [⟨some 2, .mv (.con (.int .u32 0)), none⟩] [])
(.seq (.region [⟨some 3, .mv (.tmp 0), none⟩,
  ⟨some 4, .bin .quo (.tmp 3) (.con (.int .u32 16)), none⟩,
  ⟨some 2, .mv (.tmp 4), none⟩] [])
.ret)), [.tmp 2], true, none, false⟩
def f38 : AFun := ⟨37, (.seq (.region [⟨some 2, .box (.tmp 0), none⟩,
  ⟨some 4, .mv (.con (.bool false)), none⟩] [])
(.seq (.region [⟨some 9, .faddr (.tmp 2) 0, none⟩,
  ⟨some 10, .load true 1 (.tmp 9), none⟩,
  ⟨some 11, .mv (.tmp 1), none⟩,
  ⟨some 12, .isl 1 (.tmp 10) (.tmp 11), none⟩,
  ⟨some 13, .load true 1 (.tmp 12), none⟩,
  ⟨some 5, .mv (.tmp 13), none⟩] [])
(.seq (.seq (.region [⟨some 6, .mv (.con (.int .i64 0)), none⟩] [])
 (.block 0 (.loop (.seq (.seq (.region [⟨some 14, .mv (.tmp 6), none⟩,
      ⟨some 15, .mv (.tmp 5), none⟩,
      ⟨some 16, .len (.tmp 15), none⟩,
      ⟨some 17, .bin .lss (.tmp 14) (.tmp 16), none⟩] [])
    (.cond (.tmp 17)
     .skip
     (.exit 0)))
   (.seq (.block 1 (.seq (.region [⟨some 7, .mv (.con (.int .i64 0)), none⟩] [])
     (.seq (.seq (.region [⟨some 8, .mv (.con (.int .i64 0)), none⟩] [])
      (.block 2 (.loop (.seq (.seq (.region [⟨some 20, .mv (.tmp 8), none⟩,
           ⟨some 21, .mv (.tmp 5), none⟩,
           ⟨some 22, .len (.tmp 21), none⟩,
           ⟨some 23, .bin .lss (.tmp 20) (.tmp 22), none⟩] [])
         (.cond (.tmp 23)
          .skip
          (.exit 2)))
        (.seq (.block 3 (.seq (.region [⟨some 26, .mv (.tmp 5), none⟩,
            ⟨some 27, .mv (.tmp 8), none⟩,
            ⟨some 28, .isl 19 (.tmp 26) (.tmp 27), none⟩,
            ⟨some 29, .faddr (.tmp 28) 18, none⟩,
            ⟨some 30, .load true 1 (.tmp 29), none⟩,
            ⟨some 31, .mv (.tmp 6), none⟩,
            ⟨some 32, .bin .eql (.tmp 30) (.tmp 31), none⟩] [])
          (.cond (.tmp 32)
           (.region [⟨some 33, .mv (.tmp 7), none⟩,
            ⟨some 34, .bin .add (.tmp 33) (.con (.int .i64 1)), none⟩,
            ⟨some 7, .mv (.tmp 34), none⟩] [])
           .skip)))
        (.region [⟨some 24, .mv (.tmp 8), none⟩,
         ⟨some 25, .bin .add (.tmp 24) (.con (.int .i64 1)), none⟩,
         ⟨some 8, .mv (.tmp 25), none⟩] []))))))
     (.seq (.region [⟨some 35, .mv (.tmp 7), none⟩,
       ⟨some 36, .bin .neq (.tmp 35) (.con (.int .i64 1)), none⟩] [])
     (.cond (.tmp 36)
      (.seq (.region [⟨some 4, .mv (.con (.bool false)), none⟩] [])
      .ret)
      .skip)))))
   (.region [⟨some 18, .mv (.tmp 6), none⟩,
    ⟨some 19, .bin .add (.tmp 18) (.con (.int .i64 1)), none⟩,
    ⟨some 6, .mv (.tmp 19), none⟩] []))))))
(.seq (.region [⟨some 4, .mv (.con (.bool true)), none⟩] [])
.ret)))), [.tmp 4], true, none, false⟩
def f39 : AFun := ⟨107, (.seq (.region [⟨some 2, .box (.tmp 0), none⟩,
  ⟨some 4, .mv (.con (.bool false)), none⟩] [])
(.seq (.region [⟨some 8, .faddr (.tmp 2) 0, none⟩,
  ⟨some 9, .load true 1 (.tmp 8), none⟩,
  ⟨some 10, .mv (.tmp 1), none⟩,
  ⟨some 11, .isl 1 (.tmp 9) (.tmp 10), none⟩,
  ⟨some 12, .load true 1 (.tmp 11), none⟩,
  ⟨some 5, .mv (.tmp 12), none⟩] [])
(.seq (.seq (.region [⟨some 6, .mv (.con (.int .i64 0)), none⟩] [])
 (.block 0 (.loop (.seq (.seq (.region [⟨some 13, .mv (.tmp 6), none⟩,
      ⟨some 14, .mv (.tmp 5), none⟩,
      ⟨some 15, .len (.tmp 14), none⟩,
      ⟨some 16, .bin .lss (.tmp 13) (.tmp 15), none⟩] [])
    (.cond (.tmp 16)
     .skip
     (.exit 0)))
   (.seq (.block 1 (.seq (.seq (.region [⟨some 19, .mv (.tmp 5), none⟩,
        ⟨some 20, .mv (.tmp 6), none⟩,
        ⟨some 21, .isl 19 (.tmp 19) (.tmp 20), none⟩,
        ⟨some 22, .faddr (.tmp 21) 0, none⟩,
        ⟨some 23, .load true 1 (.tmp 22), none⟩,
        ⟨some 24, .bin .lss (.tmp 23) (.con (.int .i64 0)), none⟩,
        ⟨some 25, .mv (.tmp 24), none⟩,
        ⟨some 26, .mv (.tmp 5), some (25, false)⟩,
        ⟨some 27, .mv (.tmp 6), some (25, false)⟩,
        ⟨some 28, .isl 19 (.tmp 26) (.tmp 27), some (25, false)⟩,
        ⟨some 29, .faddr (.tmp 28) 0, some (25, false)⟩,
        ⟨some 30, .load true 1 (.tmp 29), some (25, false)⟩,
        ⟨some 31, .bin .gtr (.tmp 30) (.con (.int .i64 3)), some (25, false)⟩,
        ⟨some 32, .pick (.tmp 25) (.con (.bool true)) (.tmp 31), none⟩] [])
      (.cond (.tmp 32)
       (.seq (.region [⟨some 4, .mv (.con (.bool false)), none⟩] [])
       .ret)
       .skip))
     (.seq (.seq (.region [⟨some 33, .mv (.tmp 5), none⟩,
        ⟨some 34, .mv (.tmp 6), none⟩,
        ⟨some 35, .isl 19 (.tmp 33) (.tmp 34), none⟩,
        ⟨some 36, .faddr (.tmp 35) 0, none⟩,
        ⟨some 37, .load true 1 (.tmp 36), none⟩,
        ⟨some 38, .bin .eql (.tmp 37) (.con (.int .i64 0)), none⟩,
        ⟨some 39, .mv (.tmp 38), none⟩,
        ⟨some 40, .mv (.tmp 5), some (39, true)⟩,
        ⟨some 41, .mv (.tmp 6), some (39, true)⟩,
        ⟨some 42, .isl 19 (.tmp 40) (.tmp 41), some (39, true)⟩,
        ⟨some 43, .faddr (.tmp 42) 1, some (39, true)⟩,
        ⟨some 44, .load true 1 (.tmp 43), some (39, true)⟩,
        ⟨some 45, .bin .neq (.tmp 44) (.con (.int .u32 0)), some (39, true)⟩,
        ⟨some 46, .mv (.tmp 45), some (39, true)⟩,
        ⟨some 47, .mv (.tmp 5), some (46, false)⟩,
        ⟨some 48, .mv (.tmp 6), some (46, false)⟩,
        ⟨some 49, .isl 19 (.tmp 47) (.tmp 48), some (46, false)⟩,
        ⟨some 50, .faddr (.tmp 49) 2, some (46, false)⟩,
        ⟨some 51, .load false 16 (.tmp 50), some (46, false)⟩,
        ⟨some 52, .build (List.replicate 16 (.int .u8 0)) [], some (46, false)⟩,
        ⟨some 53, .aeq true [some .u8, some .u8, some .u8, some .u8, some .u8, some .u8, some .u8, some .u8, some .u8, some .u8, some .u8, some .u8, some .u8, some .u8, some .u8, some .u8] (.tmp 51) (.tmp 52), some (46, false)⟩,
        ⟨some 54, .pick (.tmp 46) (.con (.bool true)) (.tmp 53), some (39, true)⟩,
        ⟨some 55, .pick (.tmp 39) (.tmp 54) (.con (.bool false)), none⟩,
        ⟨some 56, .mv (.tmp 55), none⟩,
        ⟨some 57, .mv (.tmp 5), some (56, false)⟩,
        ⟨some 58, .mv (.tmp 6), some (56, false)⟩,
        ⟨some 59, .isl 19 (.tmp 57) (.tmp 58), some (56, false)⟩,
        ⟨some 60, .faddr (.tmp 59) 0, some (56, false)⟩,
        ⟨some 61, .load true 1 (.tmp 60), some (56, false)⟩,
        ⟨some 62, .bin .neq (.tmp 61) (.con (.int .i64 0)), some (56, false)⟩,
        ⟨some 63, .mv (.tmp 62), some (56, false)⟩,
        ⟨some 64, .load false 1 (.tmp 2), some (63, true)⟩,
        ⟨some 65, .mv (.tmp 5), some (63, true)⟩,
        ⟨some 66, .mv (.tmp 6), some (63, true)⟩,
        ⟨some 67, .isl 19 (.tmp 65) (.tmp 66), some (63, true)⟩,
        ⟨some 68, .faddr (.tmp 67) 1, some (63, true)⟩,
        ⟨some 69, .load true 1 (.tmp 68), some (63, true)⟩,
        ⟨some 70, .call 47 [(.tmp 64), (.tmp 69)], some (63, true)⟩,
        ⟨some 71, .mv (.tmp 1), some (63, true)⟩,
        ⟨some 72, .bin .neq (.tmp 70) (.tmp 71), some (63, true)⟩,
        ⟨some 73, .pick (.tmp 63) (.tmp 72) (.con (.bool false)), some (56, false)⟩,
        ⟨some 74, .pick (.tmp 56) (.con (.bool true)) (.tmp 73), none⟩] [])
      (.cond (.tmp 74)
       (.seq (.region [⟨some 4, .mv (.con (.bool false)), none⟩] [])
       .ret)
       .skip))
     (.seq (.region [⟨some 7, .mv (.con (.int .i64 0)), none⟩] [])
     (.block 2 (.loop (.seq (.seq (.region [⟨some 75, .mv (.tmp 7), none⟩,
          ⟨some 76, .mv (.tmp 6), none⟩,
          ⟨some 77, .bin .lss (.tmp 75) (.tmp 76), none⟩] [])
        (.cond (.tmp 77)
         .skip
         (.exit 2)))
       (.seq (.block 3 (.seq (.region [⟨some 80, .mv (.tmp 5), none⟩,
           ⟨some 81, .mv (.tmp 6), none⟩,
           ⟨some 82, .isl 19 (.tmp 80) (.tmp 81), none⟩,
           ⟨some 83, .faddr (.tmp 82) 0, none⟩,
           ⟨some 84, .load true 1 (.tmp 83), none⟩,
           ⟨some 85, .bin .neq (.tmp 84) (.con (.int .i64 0)), none⟩,
           ⟨some 86, .mv (.tmp 85), none⟩,
           ⟨some 87, .mv (.tmp 5), some (86, true)⟩,
           ⟨some 88, .mv (.tmp 7), some (86, true)⟩,
           ⟨some 89, .isl 19 (.tmp 87) (.tmp 88), some (86, true)⟩,
           ⟨some 90, .faddr (.tmp 89) 0, some (86, true)⟩,
           ⟨some 91, .load true 1 (.tmp 90), some (86, true)⟩,
           ⟨some 92, .bin .neq (.tmp 91) (.con (.int .i64 0)), some (86, true)⟩,
           ⟨some 93, .pick (.tmp 86) (.tmp 92) (.con (.bool false)), none⟩,
           ⟨some 94, .mv (.tmp 93), none⟩,
           ⟨some 95, .mv (.tmp 5), some (94, true)⟩,
           ⟨some 96, .mv (.tmp 6), some (94, true)⟩,
           ⟨some 97, .isl 19 (.tmp 95) (.tmp 96), some (94, true)⟩,
           ⟨some 98, .faddr (.tmp 97) 1, some (94, true)⟩,
           ⟨some 99, .load true 1 (.tmp 98), some (94, true)⟩,
           ⟨some 100, .mv (.tmp 5), some (94, true)⟩,
           ⟨some 101, .mv (.tmp 7), some (94, true)⟩,
           ⟨some 102, .isl 19 (.tmp 100) (.tmp 101), some (94, true)⟩,
           ⟨some 103, .faddr (.tmp 102) 1, some (94, true)⟩,
           ⟨some 104, .load true 1 (.tmp 103), some (94, true)⟩,
           ⟨some 105, .bin .eql (.tmp 99) (.tmp 104), some (94, true)⟩,
           ⟨some 106, .pick (.tmp 94) (.tmp 105) (.con (.bool false)), none⟩] [])
         (.cond (.tmp 106)
          (.seq (.region [⟨some 4, .mv (.con (.bool false)), none⟩] [])
          .ret)
          .skip)))
       (.region [⟨some 78, .mv (.tmp 7), none⟩,
        ⟨some 79, .bin .add (.tmp 78) (.con (.int .i64 1)), none⟩,
        ⟨some 7, .mv (.tmp 79), none⟩] [])))))))))
   (.region [⟨some 17, .mv (.tmp 6), none⟩,
    ⟨some 18, .bin .add (.tmp 17) (.con (.int .i64 1)), none⟩,
    ⟨some 6, .mv (.tmp 18), none⟩] []))))))
(.seq (.region [⟨some 4, .mv (.con (.bool true)), none⟩] [])
.ret)))), [.tmp 4], true, none, false⟩
def f40 : AFun := ⟨14, (.seq (.region [⟨some 2, .box (.tmp 0), none⟩,
  ⟨some 4, .mv (.con (.bool false)), none⟩] [])
(.seq (.region [⟨some 5, .mv (.tmp 1), none⟩,
  ⟨some 6, .bin .geq (.tmp 5) (.con (.int .i64 0)), none⟩,
  ⟨some 7, .mv (.tmp 6), none⟩,
  ⟨some 8, .mv (.tmp 1), some (7, true)⟩,
  ⟨some 9, .faddr (.tmp 2) 1, some (7, true)⟩,
  ⟨some 10, .load true 1 (.tmp 9), some (7, true)⟩,
  ⟨some 11, .len (.tmp 10), some (7, true)⟩,
  ⟨some 12, .bin .lss (.tmp 8) (.tmp 11), some (7, true)⟩,
  ⟨some 13, .pick (.tmp 7) (.tmp 12) (.con (.bool false)), none⟩,
  ⟨some 4, .mv (.tmp 13), none⟩] [])
.ret)), [.tmp 4], true, none, false⟩
def f41 : AFun := ⟨26, (.seq (.region [⟨some 2, .box (.tmp 0), none⟩,
  ⟨some 4, .alloc [(.int .i64 0), (.int .u32 0), (.int .u8 0), (.int .u8 0), (.int .u8 0), (.int .u8 0), (.int .u8 0), (.int .u8 0), (.int .u8 0), (.int .u8 0), (.int .u8 0), (.int .u8 0), (.int .u8 0), (.int .u8 0), (.int .u8 0), (.int .u8 0), (.int .u8 0), (.int .u8 0), (.int .i64 0)], none⟩] [])
(.seq (.region [⟨some 9, .load false 1 (.tmp 2), none⟩,
  ⟨some 10, .mv (.tmp 1), none⟩,
  ⟨some 11, .call 48 [(.tmp 9), (.tmp 10)], none⟩,
  ⟨some 8, .mv (.tmp 11), none⟩,
  ⟨some 12, .extract (.tmp 8) 0, none⟩,
  ⟨some 13, .extract (.tmp 8) 1, none⟩,
  ⟨some 14, .extract (.tmp 8) 2, none⟩,
  ⟨some 5, .mv (.tmp 12), none⟩,
  ⟨some 6, .mv (.tmp 13), none⟩,
  ⟨some 7, .mv (.tmp 14), none⟩] [])
(.seq (.seq (.region [⟨some 15, .mv (.tmp 7), none⟩,
   ⟨some 16, .un .not (.tmp 15), none⟩] [])
 (.cond (.tmp 16)
  (.seq (.region [⟨some 17, .build [(.int .i64 0), (.int .u32 0), (.int .u8 0), (.int .u8 0), (.int .u8 0), (.int .u8 0), (.int .u8 0), (.int .u8 0), (.int .u8 0), (.int .u8 0), (.int .u8 0), (.int .u8 0), (.int .u8 0), (.int .u8 0), (.int .u8 0), (.int .u8 0), (.int .u8 0), (.int .u8 0), (.int .i64 0)] [], none⟩,
    ⟨none, .store 19 (.tmp 4) (.tmp 17), none⟩] [])
  .ret)
  .skip))
(.seq (.region [⟨some 18, .faddr (.tmp 2) 0, none⟩,
  ⟨some 19, .load true 1 (.tmp 18), none⟩,
  ⟨some 20, .mv (.tmp 5), none⟩,
  ⟨some 21, .isl 1 (.tmp 19) (.tmp 20), none⟩,
  ⟨some 22, .load true 1 (.tmp 21), none⟩,
  ⟨some 23, .mv (.tmp 6), none⟩,
  ⟨some 24, .isl 19 (.tmp 22) (.tmp 23), none⟩,
  ⟨some 25, .load false 19 (.tmp 24), none⟩,
  ⟨none, .store 19 (.tmp 4) (.tmp 25), none⟩] [])
.ret)))), [.cell 4 false 19], true, none, false⟩
def f42 : AFun := ⟨44, (.seq (.region [⟨some 4, .box (.tmp 0), none⟩,
  ⟨some 8, .mv (.con (.bool false)), none⟩] [])
(.seq (.seq (.region [⟨some 9, .mv (.tmp 1), none⟩,
   ⟨some 10, .bin .lss (.tmp 9) (.con (.int .i64 0)), none⟩,
   ⟨some 11, .mv (.tmp 10), none⟩,
   ⟨some 12, .mv (.tmp 1), some (11, false)⟩,
   ⟨some 13, .faddr (.tmp 4) 1, some (11, false)⟩,
   ⟨some 14, .load true 1 (.tmp 13), some (11, false)⟩,
   ⟨some 15, .len (.tmp 14), some (11, false)⟩,
   ⟨some 16, .bin .geq (.tmp 12) (.tmp 15), some (11, false)⟩,
   ⟨some 17, .pick (.tmp 11) (.con (.bool true)) (.tmp 16), none⟩,
   ⟨some 18, .mv (.tmp 17), none⟩,
   ⟨some 19, .mv (.tmp 3), some (18, false)⟩,
   ⟨some 20, .bin .neq (.tmp 19) (.con (.int .i64 1)), some (18, false)⟩,
   ⟨some 21, .mv (.tmp 20), some (18, false)⟩,
   ⟨some 22, .mv (.tmp 3), some (21, true)⟩,
   ⟨some 23, .bin .neq (.tmp 22) (.con (.int .i64 2)), some (21, true)⟩,
   ⟨some 24, .pick (.tmp 21) (.tmp 23) (.con (.bool false)), some (18, false)⟩,
   ⟨some 25, .mv (.tmp 24), some (18, false)⟩,
   ⟨some 26, .mv (.tmp 3), some (25, true)⟩,
   ⟨some 27, .bin .neq (.tmp 26) (.con (.int .i64 4)), some (25, true)⟩,
   ⟨some 28, .pick (.tmp 25) (.tmp 27) (.con (.bool false)), some (18, false)⟩,
   ⟨some 29, .pick (.tmp 18) (.con (.bool true)) (.tmp 28), none⟩] [])
 (.cond (.tmp 29)
  (.seq (.region [⟨some 8, .mv (.con (.bool false)), none⟩] [])
  .ret)
  .skip))
(.seq (.region [⟨some 30, .mv (.tmp 2), none⟩,
  ⟨some 31, .bin .rem (.tmp 30) (.con (.int .u32 16)), none⟩,
  ⟨some 32, .conv .i64 (.tmp 31), none⟩,
  ⟨some 33, .mv (.tmp 3), none⟩,
  ⟨some 34, .bin .add (.tmp 32) (.tmp 33), none⟩,
  ⟨some 35, .bin .leq (.tmp 34) (.con (.int .i64 16)), none⟩,
  ⟨some 36, .mv (.tmp 35), none⟩,
  ⟨some 37, .faddr (.tmp 4) 0, some (36, true)⟩,
  ⟨some 38, .load true 1 (.tmp 37), some (36, true)⟩,
  ⟨some 39, .mv (.tmp 2), some (36, true)⟩,
  ⟨some 40, .mv (.tmp 3), some (36, true)⟩,
  ⟨some 41, .call 49 [(.tmp 38), (.tmp 39), (.tmp 40)], some (36, true)⟩,
  ⟨some 42, .bin .eql (.tmp 41) (.con (.int .i64 0)), some (36, true)⟩,
  ⟨some 43, .pick (.tmp 36) (.tmp 42) (.con (.bool false)), none⟩,
  ⟨some 8, .mv (.tmp 43), none⟩] [])
.ret))), [.tmp 8], true, none, false⟩
def f43 : AFun := ⟨24, (.seq (.region [⟨some 4, .box (.tmp 0), none⟩,
  ⟨some 8, .alloc [(.imm true 0 []), (.imm true 0 [])], none⟩,
  ⟨some 9, .mv (.con (.bool false)), none⟩] [])
(.seq (.region [⟨some 11, .load false 2 (.tmp 4), none⟩,
  ⟨some 12, .mv (.tmp 1), none⟩,
  ⟨some 13, .mv (.tmp 2), none⟩,
  ⟨some 14, .mv (.tmp 3), none⟩,
  ⟨some 15, .call 50 [(.tmp 11), (.tmp 12), (.tmp 13), (.tmp 14)], none⟩,
  ⟨some 10, .alloc [(.int .i64 0), (.int .u32 0)], none⟩,
  ⟨none, .store 2 (.tmp 10) (.tmp 15), none⟩] [])
(.seq (.seq (.region [⟨some 16, .faddr (.tmp 10) 0, none⟩,
   ⟨some 17, .load true 1 (.tmp 16), none⟩,
   ⟨some 18, .bin .eql (.tmp 17) (.con (.int .i64 0)), none⟩] [])
 (.cond (.tmp 18)
  (.seq (.region [⟨some 19, .load false 2 (.tmp 4), none⟩,
    ⟨none, .store 2 (.tmp 8) (.tmp 19), none⟩,
    ⟨some 9, .mv (.con (.bool true)), none⟩] [])
  .ret)
  .skip))
(.seq (.region [⟨some 20, .load false 2 (.tmp 4), none⟩,
  ⟨some 21, .mv (.tmp 1), none⟩,
  ⟨some 22, .load false 2 (.tmp 10), none⟩,
  ⟨some 23, .call 51 [(.tmp 20), (.tmp 21), (.tmp 22)], none⟩,
  ⟨none, .store 2 (.tmp 8) (.tmp 23), none⟩,
  ⟨some 9, .mv (.con (.bool false)), none⟩] [])
.ret)))), [.cell 8 false 2, .tmp 9], true, none, false⟩
def f44 : AFun := ⟨75, (.seq (.region [⟨some 4, .box (.tmp 0), none⟩,
  ⟨some 8, .alloc [(.imm true 0 [])], none⟩,
  ⟨some 9, .mv (.con (.bool false)), none⟩] [])
(.seq (.region [⟨some 17, .load false 1 (.tmp 4), none⟩,
  ⟨some 18, .mv (.tmp 1), none⟩,
  ⟨some 19, .mv (.tmp 2), none⟩,
  ⟨some 20, .call 52 [(.tmp 17), (.tmp 18), (.tmp 19)], none⟩,
  ⟨some 16, .mv (.tmp 20), none⟩,
  ⟨some 21, .extract (.tmp 16) 0, none⟩,
  ⟨some 22, .extract (.tmp 16) 1, none⟩,
  ⟨some 23, .extract (.tmp 16) 2, none⟩,
  ⟨some 24, .extract (.tmp 16) 3, none⟩,
  ⟨some 10, .mv (.tmp 21), none⟩,
  ⟨some 11, .mv (.tmp 22), none⟩,
  ⟨some 12, .mv (.tmp 23), none⟩,
  ⟨some 13, .mv (.tmp 24), none⟩] [])
(.seq (.seq (.region [⟨some 25, .mv (.tmp 13), none⟩,
   ⟨some 26, .un .not (.tmp 25), none⟩,
   ⟨some 27, .mv (.tmp 26), none⟩,
   ⟨some 28, .faddr (.tmp 4) 0, some (27, false)⟩,
   ⟨some 29, .load true 1 (.tmp 28), some (27, false)⟩,
   ⟨some 30, .mv (.tmp 10), some (27, false)⟩,
   ⟨some 31, .isl 1 (.tmp 29) (.tmp 30), some (27, false)⟩,
   ⟨some 32, .load true 1 (.tmp 31), some (27, false)⟩,
   ⟨some 33, .mv (.tmp 11), some (27, false)⟩,
   ⟨some 34, .isl 19 (.tmp 32) (.tmp 33), some (27, false)⟩,
   ⟨some 35, .faddr (.tmp 34) 0, some (27, false)⟩,
   ⟨some 36, .load true 1 (.tmp 35), some (27, false)⟩,
   ⟨some 37, .bin .neq (.tmp 36) (.con (.int .i64 2)), some (27, false)⟩,
   ⟨some 38, .mv (.tmp 37), some (27, false)⟩,
   ⟨some 39, .faddr (.tmp 4) 0, some (38, true)⟩,
   ⟨some 40, .load true 1 (.tmp 39), some (38, true)⟩,
   ⟨some 41, .mv (.tmp 10), some (38, true)⟩,
   ⟨some 42, .isl 1 (.tmp 40) (.tmp 41), some (38, true)⟩,
   ⟨some 43, .load true 1 (.tmp 42), some (38, true)⟩,
   ⟨some 44, .mv (.tmp 11), some (38, true)⟩,
   ⟨some 45, .isl 19 (.tmp 43) (.tmp 44), some (38, true)⟩,
   ⟨some 46, .faddr (.tmp 45) 0, some (38, true)⟩,
   ⟨some 47, .load true 1 (.tmp 46), some (38, true)⟩,
   ⟨some 48, .bin .neq (.tmp 47) (.con (.int .i64 3)), some (38, true)⟩,
   ⟨some 49, .pick (.tmp 38) (.tmp 48) (.con (.bool false)), some (27, false)⟩,
   ⟨some 50, .pick (.tmp 27) (.con (.bool true)) (.tmp 49), none⟩] [])
 (.cond (.tmp 50)
  (.seq (.region [⟨some 51, .build [(.imm true 0 [])] [], none⟩,
    ⟨none, .store 1 (.tmp 8) (.tmp 51), none⟩,
    ⟨some 9, .mv (.con (.bool false)), none⟩] [])
  .ret)
  .skip))
(.seq (.region [⟨some 52, .load false 1 (.tmp 4), none⟩,
  ⟨some 53, .mv (.tmp 10), none⟩,
  ⟨some 54, .call 53 [(.tmp 52), (.tmp 53)], none⟩,
  ⟨some 14, .alloc [(.imm true 0 [])], none⟩,
  ⟨none, .store 1 (.tmp 14) (.tmp 54), none⟩] [])
(.seq (.region [⟨some 55, .faddr (.tmp 14) 0, none⟩,
  ⟨some 56, .load true 1 (.tmp 55), none⟩,
  ⟨some 57, .mv (.tmp 10), none⟩,
  ⟨some 58, .isl 1 (.tmp 56) (.tmp 57), none⟩,
  ⟨some 59, .load true 1 (.tmp 58), none⟩,
  ⟨some 60, .mv (.tmp 11), none⟩,
  ⟨some 61, .isl 19 (.tmp 59) (.tmp 60), none⟩,
  ⟨some 15, .mv (.tmp 61), none⟩] [])
(.seq (.region [⟨some 62, .mv (.tmp 15), none⟩,
  ⟨some 63, .nilchk (.tmp 62), none⟩,
  ⟨some 64, .faddr (.tmp 63) 2, none⟩,
  ⟨some 65, .mv (.tmp 12), none⟩,
  ⟨some 66, .slArr 16 1 (.tmp 64) (some (.tmp 65)) none none, none⟩,
  ⟨some 67, .mv (.tmp 3), none⟩,
  ⟨some 68, .mv (.tmp 2), none⟩,
  ⟨some 69, .call 54 [(.tmp 67), (.tmp 68)], none⟩,
  ⟨some 70, .copy 1 (.tmp 66) (.tmp 69), none⟩] [(4, 7)])
(.seq (.region [⟨some 71, .mv (.tmp 15), none⟩,
  ⟨some 72, .nilchk (.tmp 71), none⟩,
  ⟨some 73, .faddr (.tmp 72) 0, none⟩,
  ⟨none, .store 1 (.tmp 73) (.con (.int .i64 3)), none⟩] [])
(.seq (.region [⟨some 74, .load false 1 (.tmp 14), none⟩,
  ⟨none, .store 1 (.tmp 8) (.tmp 74), none⟩,
  ⟨some 9, .mv (.con (.bool true)), none⟩] [])
.ret)))))))), [.cell 8 false 1, .tmp 9], true, none, false⟩
def f45 : AFun := ⟨17, (.seq (.region [⟨some 3, .box (.tmp 0), none⟩,
  ⟨some 5, .box (.tmp 2), none⟩,
  ⟨some 6, .alloc [(.imm true 0 []), (.imm true 0 [])], none⟩] [])
(.seq (.region [⟨some 7, .faddr (.tmp 3) 1, none⟩,
  ⟨some 8, .load true 1 (.tmp 7), none⟩,
  ⟨some 9, .call 55 [(.tmp 8)], none⟩,
  ⟨some 10, .faddr (.tmp 3) 1, none⟩,
  ⟨none, .store 1 (.tmp 10) (.tmp 9), none⟩] [])
(.seq (.region [⟨some 11, .faddr (.tmp 3) 1, none⟩,
  ⟨some 12, .load true 1 (.tmp 11), none⟩,
  ⟨some 13, .mv (.tmp 1), none⟩,
  ⟨some 14, .load false 1 (.tmp 5), none⟩,
  ⟨some 15, .isl 1 (.tmp 12) (.tmp 13), none⟩,
  ⟨none, .store 1 (.tmp 15) (.tmp 14), none⟩] [])
(.seq (.region [⟨some 16, .load false 2 (.tmp 3), none⟩,
  ⟨none, .store 2 (.tmp 6) (.tmp 16), none⟩] [])
.ret)))), [.cell 6 false 2], true, none, false⟩
def f46 : AFun := ⟨33, (.seq (.region [⟨some 3, .box (.tmp 0), none⟩,
  ⟨some 6, .alloc [(.imm true 0 []), (.imm true 0 [])], none⟩] [])
(.seq (.region [⟨some 11, .faddr (.tmp 3) 1, none⟩,
  ⟨some 12, .load true 1 (.tmp 11), none⟩,
  ⟨some 13, .mv (.tmp 1), none⟩,
  ⟨some 14, .isl 1 (.tmp 12) (.tmp 13), none⟩,
  ⟨some 15, .load false 1 (.tmp 14), none⟩,
  ⟨some 7, .alloc [(.imm true 0 [])], none⟩,
  ⟨none, .store 1 (.tmp 7) (.tmp 15), none⟩] [])
(.seq (.region [⟨some 17, .load false 1 (.tmp 7), none⟩,
  ⟨some 18, .mv (.tmp 2), none⟩,
  ⟨some 19, .call 56 [(.tmp 17), (.tmp 18)], none⟩,
  ⟨some 16, .mv (.tmp 19), none⟩,
  ⟨some 20, .extract (.tmp 16) 0, none⟩,
  ⟨some 21, .extract (.tmp 16) 1, none⟩,
  ⟨some 22, .extract (.tmp 16) 2, none⟩,
  ⟨some 8, .mv (.tmp 20), none⟩,
  ⟨some 9, .mv (.tmp 21), none⟩,
  ⟨some 10, .mv (.tmp 22), none⟩] [])
(.seq (.seq (.region [⟨some 23, .mv (.tmp 10), none⟩,
   ⟨some 24, .un .not (.tmp 23), none⟩] [])
 (.cond (.tmp 24)
  (.seq (.region [⟨some 25, .load false 2 (.tmp 3), none⟩,
    ⟨none, .store 2 (.tmp 6) (.tmp 25), none⟩] [])
  .ret)
  .skip))
(.seq (.region [⟨some 26, .load false 2 (.tmp 3), none⟩,
  ⟨some 27, .mv (.tmp 1), none⟩,
  ⟨some 28, .load false 1 (.tmp 7), none⟩,
  ⟨some 29, .mv (.tmp 8), none⟩,
  ⟨some 30, .mv (.tmp 9), none⟩,
  ⟨some 31, .call 57 [(.tmp 28), (.tmp 29), (.tmp 30)], none⟩,
  ⟨some 32, .call 45 [(.tmp 26), (.tmp 27), (.tmp 31)], none⟩,
  ⟨none, .store 2 (.tmp 6) (.tmp 32), none⟩] [(0, 5)])
.ret))))), [.cell 6 false 2], true, none, false⟩
def f47 : AFun := ⟨15, (.seq (.region [⟨some 2, .box (.tmp 0), none⟩,
  ⟨some 4, .mv (.con (.int .i64 0)), none⟩] [])
(.seq (.seq (.region [⟨some 5, .faddr (.tmp 2) 0, none⟩,
   ⟨some 6, .load true 1 (.tmp 5), none⟩,
   ⟨some 7, .len (.tmp 6), none⟩,
   ⟨some 8, .bin .eql (.tmp 7) (.con (.int .i64 0)), none⟩] [])
 (.cond (.tmp 8)
  (.seq (.region [⟨some 4, .mv (.con (.int .i64 (-1))), none⟩] [])
  .ret)
  .skip))
(.seq (.region [⟨some 9, .mv (.tmp 1), none⟩,
  ⟨some 10, .conv .i64 (.tmp 9), none⟩,
  ⟨some 11, .faddr (.tmp 2) 0, none⟩,
  ⟨some 12, .load true 1 (.tmp 11), none⟩,
  ⟨some 13, .len (.tmp 12), none⟩,
  ⟨some 14, .bin .rem (.tmp 10) (.tmp 13), none⟩,
  ⟨some 4, .mv (.tmp 14), none⟩] [])
.ret))), [.tmp 4], true, none, false⟩
def f48 : AFun := ⟨49, (.seq (.region [⟨some 2, .box (.tmp 0), none⟩,
  ⟨some 4, .mv (.con (.int .i64 0)), none⟩,
  ⟨some 5, .mv (.con (.int .i64 0)), none⟩,
  ⟨some 6, .mv (.con (.bool false)), none⟩] [])
(.seq (.region [⟨some 9, .load false 1 (.tmp 2), none⟩,
  ⟨some 10, .mv (.tmp 1), none⟩,
  ⟨some 11, .call 47 [(.tmp 9), (.tmp 10)], none⟩,
  ⟨some 7, .mv (.tmp 11), none⟩] [])
(.seq (.seq (.region [⟨some 12, .mv (.tmp 7), none⟩,
   ⟨some 13, .bin .lss (.tmp 12) (.con (.int .i64 0)), none⟩] [])
 (.cond (.tmp 13)
  (.seq (.region [⟨some 4, .mv (.con (.int .i64 0)), none⟩,
    ⟨some 5, .mv (.con (.int .i64 0)), none⟩,
    ⟨some 6, .mv (.con (.bool false)), none⟩] [])
  .ret)
  .skip))
(.seq (.seq (.region [⟨some 8, .mv (.con (.int .i64 0)), none⟩] [])
 (.block 0 (.loop (.seq (.seq (.region [⟨some 14, .mv (.tmp 8), none⟩,
      ⟨some 15, .faddr (.tmp 2) 0, none⟩,
      ⟨some 16, .load true 1 (.tmp 15), none⟩,
      ⟨some 17, .mv (.tmp 7), none⟩,
      ⟨some 18, .isl 1 (.tmp 16) (.tmp 17), none⟩,
      ⟨some 19, .load true 1 (.tmp 18), none⟩,
      ⟨some 20, .len (.tmp 19), none⟩,
      ⟨some 21, .bin .lss (.tmp 14) (.tmp 20), none⟩] [])
    (.cond (.tmp 21)
     .skip
     (.exit 0)))
   (.seq (.block 1 (.seq (.region [⟨some 24, .faddr (.tmp 2) 0, none⟩,
       ⟨some 25, .load true 1 (.tmp 24), none⟩,
       ⟨some 26, .mv (.tmp 7), none⟩,
       ⟨some 27, .isl 1 (.tmp 25) (.tmp 26), none⟩,
       ⟨some 28, .load true 1 (.tmp 27), none⟩,
       ⟨some 29, .mv (.tmp 8), none⟩,
       ⟨some 30, .isl 19 (.tmp 28) (.tmp 29), none⟩,
       ⟨some 31, .faddr (.tmp 30) 1, none⟩,
       ⟨some 32, .load true 1 (.tmp 31), none⟩,
       ⟨some 33, .mv (.tmp 1), none⟩,
       ⟨some 34, .bin .eql (.tmp 32) (.tmp 33), none⟩,
       ⟨some 35, .mv (.tmp 34), none⟩,
       ⟨some 36, .faddr (.tmp 2) 0, some (35, true)⟩,
       ⟨some 37, .load true 1 (.tmp 36), some (35, true)⟩,
       ⟨some 38, .mv (.tmp 7), some (35, true)⟩,
       ⟨some 39, .isl 1 (.tmp 37) (.tmp 38), some (35, true)⟩,
       ⟨some 40, .load true 1 (.tmp 39), some (35, true)⟩,
       ⟨some 41, .mv (.tmp 8), some (35, true)⟩,
       ⟨some 42, .isl 19 (.tmp 40) (.tmp 41), some (35, true)⟩,
       ⟨some 43, .faddr (.tmp 42) 0, some (35, true)⟩,
       ⟨some 44, .load true 1 (.tmp 43), some (35, true)⟩,
       ⟨some 45, .bin .neq (.tmp 44) (.con (.int .i64 0)), some (35, true)⟩,
       ⟨some 46, .pick (.tmp 35) (.tmp 45) (.con (.bool false)), none⟩] [])
     (.cond (.tmp 46)
      (.seq (.region [⟨some 47, .mv (.tmp 7), none⟩,
        ⟨some 48, .mv (.tmp 8), none⟩,
        ⟨some 4, .mv (.tmp 47), none⟩,
        ⟨some 5, .mv (.tmp 48), none⟩,
        ⟨some 6, .mv (.con (.bool true)), none⟩] [])
      .ret)
      .skip)))
   (.region [⟨some 22, .mv (.tmp 8), none⟩,
    ⟨some 23, .bin .add (.tmp 22) (.con (.int .i64 1)), none⟩,
    ⟨some 8, .mv (.tmp 23), none⟩] []))))))
(.seq (.region [⟨some 4, .mv (.con (.int .i64 0)), none⟩,
  ⟨some 5, .mv (.con (.int .i64 0)), none⟩,
  ⟨some 6, .mv (.con (.bool false)), none⟩] [])
.ret))))), [.tmp 4, .tmp 5, .tmp 6], true, none, false⟩
def f49 : AFun := ⟨28, (.seq (.region [⟨some 6, .mv (.con (.int .i64 0)), none⟩] [])
(.seq (.seq (.region [⟨some 7, .mv (.tmp 2), none⟩,
   ⟨some 8, .bin .neq (.tmp 7) (.con (.int .i64 1)), none⟩,
   ⟨some 9, .mv (.tmp 8), none⟩,
   ⟨some 10, .mv (.tmp 2), some (9, true)⟩,
   ⟨some 11, .bin .neq (.tmp 10) (.con (.int .i64 2)), some (9, true)⟩,
   ⟨some 12, .pick (.tmp 9) (.tmp 11) (.con (.bool false)), none⟩,
   ⟨some 13, .mv (.tmp 12), none⟩,
   ⟨some 14, .mv (.tmp 2), some (13, true)⟩,
   ⟨some 15, .bin .neq (.tmp 14) (.con (.int .i64 4)), some (13, true)⟩,
   ⟨some 16, .pick (.tmp 13) (.tmp 15) (.con (.bool false)), none⟩,
   ⟨some 17, .mv (.tmp 16), none⟩,
   ⟨some 18, .mv (.tmp 1), some (17, false)⟩,
   ⟨some 19, .conv .u64 (.tmp 18), some (17, false)⟩,
   ⟨some 20, .mv (.tmp 2), some (17, false)⟩,
   ⟨some 21, .conv .u64 (.tmp 20), some (17, false)⟩,
   ⟨some 22, .bin .add (.tmp 19) (.tmp 21), some (17, false)⟩,
   ⟨some 23, .mv (.tmp 0), some (17, false)⟩,
   ⟨some 24, .len (.tmp 23), some (17, false)⟩,
   ⟨some 25, .conv .u64 (.tmp 24), some (17, false)⟩,
   ⟨some 26, .bin .gtr (.tmp 22) (.tmp 25), some (17, false)⟩,
   ⟨some 27, .pick (.tmp 17) (.con (.bool true)) (.tmp 26), none⟩] [])
 (.cond (.tmp 27)
  (.seq (.region [⟨some 6, .mv (.con (.int .i64 9)), none⟩] [])
  .ret)
  .skip))
(.seq (.region [⟨some 6, .mv (.con (.int .i64 0)), none⟩] [])
.ret))), [.tmp 6], true, none, false⟩
def f50 : AFun := ⟨29, (.seq (.region [⟨some 4, .box (.tmp 0), none⟩,
  ⟨some 8, .alloc [(.int .i64 0), (.int .u32 0)], none⟩] [])
(.seq (.seq (.region [⟨some 9, .mv (.tmp 1), none⟩,
   ⟨some 10, .bin .lss (.tmp 9) (.con (.int .i64 0)), none⟩,
   ⟨some 11, .mv (.tmp 10), none⟩,
   ⟨some 12, .mv (.tmp 1), some (11, false)⟩,
   ⟨some 13, .faddr (.tmp 4) 1, some (11, false)⟩,
   ⟨some 14, .load true 1 (.tmp 13), some (11, false)⟩,
   ⟨some 15, .len (.tmp 14), some (11, false)⟩,
   ⟨some 16, .bin .geq (.tmp 12) (.tmp 15), some (11, false)⟩,
   ⟨some 17, .pick (.tmp 11) (.con (.bool true)) (.tmp 16), none⟩] [])
 (.cond (.tmp 17)
  (.seq (.region [⟨some 18, .build [(.int .i64 0), (.int .u32 0)] [], none⟩,
    ⟨none, .store 2 (.tmp 8) (.tmp 18), none⟩] [])
  .ret)
  .skip))
(.seq (.region [⟨some 19, .load false 2 (.tmp 4), none⟩,
  ⟨some 20, .mv (.tmp 2), none⟩,
  ⟨some 21, .build [(.imm true 0 []), (.imm true 0 []), (.int .u32 0)] [(0, 2, (.tmp 19)), (2, 1, (.tmp 20))], none⟩,
  ⟨some 22, .mv (.tmp 1), none⟩,
  ⟨some 23, .call 59 [(.tmp 21), (.tmp 22)], none⟩,
  ⟨some 24, .field true 0 1 (.tmp 23), none⟩,
  ⟨some 25, .mv (.tmp 3), none⟩,
  ⟨some 26, .call 58 [(.tmp 24), (.tmp 25)], none⟩,
  ⟨some 27, .mv (.tmp 2), none⟩,
  ⟨some 28, .build [(.int .i64 0), (.int .u32 0)] [(0, 1, (.tmp 26)), (1, 1, (.tmp 27))], none⟩,
  ⟨none, .store 2 (.tmp 8) (.tmp 28), none⟩] [])
.ret))), [.cell 8 false 2], true, none, false⟩
def f51 : AFun := ⟨163, (.seq (.region [⟨some 3, .box (.tmp 0), none⟩,
  ⟨some 5, .box (.tmp 2), none⟩,
  ⟨some 6, .alloc [(.imm true 0 []), (.imm true 0 [])], none⟩] [])
(.seq (.seq (.region [⟨some 15, .mv (.tmp 1), none⟩,
   ⟨some 16, .bin .lss (.tmp 15) (.con (.int .i64 0)), none⟩,
   ⟨some 17, .mv (.tmp 16), none⟩,
   ⟨some 18, .mv (.tmp 1), some (17, false)⟩,
   ⟨some 19, .faddr (.tmp 3) 1, some (17, false)⟩,
   ⟨some 20, .load true 1 (.tmp 19), some (17, false)⟩,
   ⟨some 21, .len (.tmp 20), some (17, false)⟩,
   ⟨some 22, .bin .geq (.tmp 18) (.tmp 21), some (17, false)⟩,
   ⟨some 23, .pick (.tmp 17) (.con (.bool true)) (.tmp 22), none⟩,
   ⟨some 24, .mv (.tmp 23), none⟩,
   ⟨some 25, .faddr (.tmp 5) 0, some (24, false)⟩,
   ⟨some 26, .load true 1 (.tmp 25), some (24, false)⟩,
   ⟨some 27, .bin .lss (.tmp 26) (.con (.int .i64 1)), some (24, false)⟩,
   ⟨some 28, .pick (.tmp 24) (.con (.bool true)) (.tmp 27), none⟩,
   ⟨some 29, .mv (.tmp 28), none⟩,
   ⟨some 30, .faddr (.tmp 5) 0, some (29, false)⟩,
   ⟨some 31, .load true 1 (.tmp 30), some (29, false)⟩,
   ⟨some 32, .bin .gtr (.tmp 31) (.con (.int .i64 3)), some (29, false)⟩,
   ⟨some 33, .pick (.tmp 29) (.con (.bool true)) (.tmp 32), none⟩,
   ⟨some 34, .mv (.tmp 33), none⟩,
   ⟨some 35, .load false 2 (.tmp 3), some (34, false)⟩,
   ⟨some 36, .faddr (.tmp 5) 1, some (34, false)⟩,
   ⟨some 37, .load true 1 (.tmp 36), some (34, false)⟩,
   ⟨some 38, .call 60 [(.tmp 35), (.tmp 37)], some (34, false)⟩,
   ⟨some 39, .un .not (.tmp 38), some (34, false)⟩,
   ⟨some 40, .pick (.tmp 34) (.con (.bool true)) (.tmp 39), none⟩] [])
 (.cond (.tmp 40)
  (.seq (.region [⟨some 41, .load false 2 (.tmp 3), none⟩,
    ⟨none, .store 2 (.tmp 6) (.tmp 41), none⟩] [])
  .ret)
  .skip))
(.seq (.region [⟨some 42, .faddr (.tmp 3) 1, none⟩,
  ⟨some 43, .load true 1 (.tmp 42), none⟩,
  ⟨some 44, .append 1 24 (.con (.imm true 0 [])) (.tmp 43), none⟩,
  ⟨some 45, .faddr (.tmp 3) 1, none⟩,
  ⟨none, .store 1 (.tmp 45) (.tmp 44), none⟩] [])
(.seq (.seq (.region [⟨some 46, .faddr (.tmp 3) 1, none⟩,
   ⟨some 47, .load true 1 (.tmp 46), none⟩,
   ⟨some 48, .len (.tmp 47), none⟩,
   ⟨some 49, .mv (.con (.int .i64 0)), none⟩] [])
 (.block 0 (.loop (.seq (.region [⟨some 50, .bin .lss (.tmp 49) (.tmp 48), none⟩] [])
   (.seq (.cond (.tmp 50)
     .skip
     (.exit 0))
   (.seq (.block 1 (.seq (.region [⟨some 51, .mv (.tmp 49), none⟩,
       ⟨some 7, .mv (.tmp 51), none⟩] [])
     (.seq (.region [⟨some 52, .load false 2 (.tmp 3), none⟩,
       ⟨some 53, .faddr (.tmp 5) 1, none⟩,
       ⟨some 54, .load true 1 (.tmp 53), none⟩,
       ⟨some 55, .build [(.imm true 0 []), (.imm true 0 []), (.int .u32 0)] [(0, 2, (.tmp 52)), (2, 1, (.tmp 54))], none⟩,
       ⟨some 56, .mv (.tmp 7), none⟩,
       ⟨some 57, .call 59 [(.tmp 55), (.tmp 56)], none⟩,
       ⟨some 8, .alloc [(.int .i64 0), (.int .u32 0), (.int .u8 0), (.int .u8 0), (.int .u8 0), (.int .u8 0), (.int .u8 0), (.int .u8 0), (.int .u8 0), (.int .u8 0), (.int .u8 0), (.int .u8 0), (.int .u8 0), (.int .u8 0), (.int .u8 0), (.int .u8 0), (.int .u8 0), (.int .u8 0), (.int .i64 0)], none⟩,
       ⟨none, .store 19 (.tmp 8) (.tmp 57), none⟩] [])
     (.seq (.seq (.region [⟨some 58, .mv (.tmp 7), none⟩,
        ⟨some 59, .mv (.tmp 1), none⟩,
        ⟨some 60, .bin .eql (.tmp 58) (.tmp 59), none⟩,
        ⟨some 61, .mv (.tmp 60), none⟩,
        ⟨some 62, .faddr (.tmp 8) 0, some (61, false)⟩,
        ⟨some 63, .load true 1 (.tmp 62), some (61, false)⟩,
        ⟨some 64, .bin .eql (.tmp 63) (.con (.int .i64 0)), some (61, false)⟩,
        ⟨some 65, .pick (.tmp 61) (.con (.bool true)) (.tmp 64), none⟩] [])
      (.cond (.tmp 65)
       (.exit 1)
       .skip))
     (.seq (.region [⟨some 67, .faddr (.tmp 8) 0, none⟩,
       ⟨some 68, .load true 1 (.tmp 67), none⟩,
       ⟨some 69, .faddr (.tmp 5) 0, none⟩,
       ⟨some 70, .load true 1 (.tmp 69), none⟩,
       ⟨some 71, .call 61 [(.tmp 68), (.tmp 70)], none⟩,
       ⟨some 66, .mv (.tmp 71), none⟩,
       ⟨some 72, .extract (.tmp 66) 0, none⟩,
       ⟨some 73, .extract (.tmp 66) 1, none⟩,
       ⟨some 9, .mv (.tmp 72), none⟩,
       ⟨some 10, .mv (.tmp 73), none⟩] [])
     (.seq (.seq (.region [⟨some 74, .mv (.tmp 10), none⟩] [])
      (.cond (.tmp 74)
       (.seq (.region [⟨some 75, .faddr (.tmp 5) 1, none⟩,
         ⟨some 76, .load true 1 (.tmp 75), none⟩,
         ⟨some 77, .faddr (.tmp 8) 0, none⟩,
         ⟨none, .store 1 (.tmp 77) (.con (.int .i64 3)), none⟩,
         ⟨some 78, .faddr (.tmp 8) 1, none⟩,
         ⟨none, .store 1 (.tmp 78) (.tmp 76), none⟩] [(1, 3)])
       (.region [⟨some 79, .load false 2 (.tmp 3), none⟩,
        ⟨some 80, .mv (.tmp 1), none⟩,
        ⟨some 81, .load false 19 (.tmp 8), none⟩,
        ⟨some 82, .call 62 [(.tmp 79), (.tmp 80), (.tmp 81)], none⟩,
        ⟨none, .store 2 (.tmp 3) (.tmp 82), none⟩] []))
       .skip))
     (.region [⟨some 83, .faddr (.tmp 3) 1, none⟩,
      ⟨some 84, .load true 1 (.tmp 83), none⟩,
      ⟨some 85, .mv (.tmp 7), none⟩,
      ⟨some 86, .faddr (.tmp 3) 1, none⟩,
      ⟨some 87, .load true 1 (.tmp 86), none⟩,
      ⟨some 88, .mv (.tmp 7), none⟩,
      ⟨some 89, .isl 1 (.tmp 87) (.tmp 88), none⟩,
      ⟨some 90, .load false 1 (.tmp 89), none⟩,
      ⟨some 91, .faddr (.tmp 5) 1, none⟩,
      ⟨some 92, .load true 1 (.tmp 91), none⟩,
      ⟨some 93, .mv (.tmp 9), none⟩,
      ⟨some 94, .call 63 [(.tmp 90), (.tmp 92), (.tmp 93)], none⟩,
      ⟨some 95, .isl 1 (.tmp 84) (.tmp 85), none⟩,
      ⟨none, .store 1 (.tmp 95) (.tmp 94), none⟩] [(1, 11)])))))))
   (.region [⟨some 96, .bin .add (.tmp 49) (.con (.int .i64 1)), none⟩,
    ⟨some 49, .mv (.tmp 96), none⟩] [])))))))
(.seq (.region [⟨some 97, .faddr (.tmp 5) 0, none⟩,
  ⟨some 98, .load true 1 (.tmp 97), none⟩,
  ⟨some 99, .load false 2 (.tmp 3), none⟩,
  ⟨some 100, .mv (.tmp 1), none⟩,
  ⟨some 101, .faddr (.tmp 5) 1, none⟩,
  ⟨some 102, .load true 1 (.tmp 101), none⟩,
  ⟨some 103, .call 65 [(.tmp 99), (.tmp 100), (.tmp 102)], none⟩,
  ⟨some 104, .call 64 [(.tmp 98), (.tmp 103)], none⟩,
  ⟨some 11, .mv (.tmp 104), none⟩] [(1, 6)])
(.seq (.seq (.region [⟨some 105, .faddr (.tmp 5) 0, none⟩,
   ⟨some 106, .load true 1 (.tmp 105), none⟩,
   ⟨some 107, .bin .eql (.tmp 106) (.con (.int .i64 3)), none⟩,
   ⟨some 108, .mv (.tmp 107), none⟩,
   ⟨some 109, .load false 2 (.tmp 3), some (108, true)⟩,
   ⟨some 110, .faddr (.tmp 5) 1, some (108, true)⟩,
   ⟨some 111, .load true 1 (.tmp 110), some (108, true)⟩,
   ⟨some 112, .build [(.imm true 0 []), (.imm true 0 []), (.int .u32 0)] [(0, 2, (.tmp 109)), (2, 1, (.tmp 111))], some (108, true)⟩,
   ⟨some 113, .mv (.tmp 1), some (108, true)⟩,
   ⟨some 114, .call 59 [(.tmp 112), (.tmp 113)], some (108, true)⟩,
   ⟨some 115, .field true 0 1 (.tmp 114), some (108, true)⟩,
   ⟨some 116, .bin .neq (.tmp 115) (.con (.int .i64 0)), some (108, true)⟩,
   ⟨some 117, .pick (.tmp 108) (.tmp 116) (.con (.bool false)), none⟩] [])
 (.cond (.tmp 117)
  (.seq (.region [⟨some 118, .faddr (.tmp 3) 1, none⟩,
    ⟨some 119, .load true 1 (.tmp 118), none⟩,
    ⟨some 120, .mv (.tmp 1), none⟩,
    ⟨some 121, .faddr (.tmp 3) 1, none⟩,
    ⟨some 122, .load true 1 (.tmp 121), none⟩,
    ⟨some 123, .mv (.tmp 1), none⟩,
    ⟨some 124, .isl 1 (.tmp 122) (.tmp 123), none⟩,
    ⟨some 125, .load false 1 (.tmp 124), none⟩,
    ⟨some 126, .faddr (.tmp 5) 1, none⟩,
    ⟨some 127, .load true 1 (.tmp 126), none⟩,
    ⟨some 128, .mv (.tmp 11), none⟩,
    ⟨some 129, .call 63 [(.tmp 125), (.tmp 127), (.tmp 128)], none⟩,
    ⟨some 130, .isl 1 (.tmp 119) (.tmp 120), none⟩,
    ⟨none, .store 1 (.tmp 130) (.tmp 129), none⟩] [(1, 11)])
  (.seq (.region [⟨some 131, .load false 2 (.tmp 3), none⟩,
    ⟨none, .store 2 (.tmp 6) (.tmp 131), none⟩] [])
  .ret))
  .skip))
(.seq (.region [⟨some 12, .alloc (List.replicate 16 (.int .u8 0)), none⟩] [])
(.seq (.region [⟨some 132, .slArr 16 1 (.tmp 12) none none none, none⟩,
  ⟨some 133, .faddr (.tmp 3) 0, none⟩,
  ⟨some 134, .load true 1 (.tmp 133), none⟩,
  ⟨some 135, .faddr (.tmp 5) 1, none⟩,
  ⟨some 136, .load true 1 (.tmp 135), none⟩,
  ⟨some 137, .conv .i64 (.tmp 136), none⟩,
  ⟨some 138, .bin .mul (.tmp 137) (.con (.int .i64 16)), none⟩,
  ⟨some 139, .slSl 1 (.tmp 134) (some (.tmp 138)) none none, none⟩,
  ⟨some 140, .copy 1 (.tmp 132) (.tmp 139), none⟩] [])
(.seq (.region [⟨some 142, .faddr (.tmp 3) 1, none⟩,
  ⟨some 143, .load true 1 (.tmp 142), none⟩,
  ⟨some 144, .mv (.tmp 1), none⟩,
  ⟨some 145, .isl 1 (.tmp 143) (.tmp 144), none⟩,
  ⟨some 146, .load false 1 (.tmp 145), none⟩,
  ⟨some 147, .faddr (.tmp 5) 1, none⟩,
  ⟨some 148, .load true 1 (.tmp 147), none⟩,
  ⟨some 149, .mv (.tmp 11), none⟩,
  ⟨some 150, .load false 16 (.tmp 12), none⟩,
  ⟨some 151, .call 66 [(.tmp 146), (.tmp 148), (.tmp 149), (.tmp 150)], none⟩,
  ⟨some 141, .mv (.tmp 151), none⟩,
  ⟨some 152, .extract (.tmp 141) 0, none⟩,
  ⟨some 153, .extract (.tmp 141) 1, none⟩,
  ⟨some 13, .alloc [(.imm true 0 [])], none⟩,
  ⟨some 14, .alloc [(.int .i64 0), (.int .u32 0), (.int .u8 0), (.int .u8 0), (.int .u8 0), (.int .u8 0), (.int .u8 0), (.int .u8 0), (.int .u8 0), (.int .u8 0), (.int .u8 0), (.int .u8 0), (.int .u8 0), (.int .u8 0), (.int .u8 0), (.int .u8 0), (.int .u8 0), (.int .u8 0), (.int .i64 0)], none⟩,
  ⟨none, .store 1 (.tmp 13) (.tmp 152), none⟩,
  ⟨none, .store 19 (.tmp 14) (.tmp 153), none⟩] [(1, 13), (4, 13), (6, 13), (8, 13), (9, 13), (1, 14), (4, 14), (6, 14), (8, 14), (9, 14), (13, 14)])
(.seq (.region [⟨some 154, .faddr (.tmp 3) 1, none⟩,
  ⟨some 155, .load true 1 (.tmp 154), none⟩,
  ⟨some 156, .mv (.tmp 1), none⟩,
  ⟨some 157, .load false 1 (.tmp 13), none⟩,
  ⟨some 158, .isl 1 (.tmp 155) (.tmp 156), none⟩,
  ⟨none, .store 1 (.tmp 158) (.tmp 157), none⟩] [])
(.seq (.region [⟨some 159, .load false 2 (.tmp 3), none⟩,
  ⟨some 160, .mv (.tmp 1), none⟩,
  ⟨some 161, .load false 19 (.tmp 14), none⟩,
  ⟨some 162, .call 62 [(.tmp 159), (.tmp 160), (.tmp 161)], none⟩,
  ⟨none, .store 2 (.tmp 6) (.tmp 162), none⟩] [])
.ret))))))))))), [.cell 6 false 2], true, none, false⟩
def f52 : AFun := ⟨45, (.seq (.region [⟨some 3, .box (.tmp 0), none⟩,
  ⟨some 6, .mv (.con (.int .i64 0)), none⟩,
  ⟨some 7, .mv (.con (.int .i64 0)), none⟩,
  ⟨some 8, .mv (.con (.int .i64 0)), none⟩,
  ⟨some 9, .mv (.con (.bool false)), none⟩] [])
(.seq (.region [⟨some 14, .mv (.tmp 1), none⟩,
  ⟨some 15, .bin .rem (.tmp 14) (.con (.int .u32 16)), none⟩,
  ⟨some 16, .conv .i64 (.tmp 15), none⟩,
  ⟨some 10, .mv (.tmp 16), none⟩] [])
(.seq (.seq (.region [⟨some 17, .mv (.tmp 2), none⟩,
   ⟨some 18, .bin .neq (.tmp 17) (.con (.int .i64 1)), none⟩,
   ⟨some 19, .mv (.tmp 18), none⟩,
   ⟨some 20, .mv (.tmp 2), some (19, true)⟩,
   ⟨some 21, .bin .neq (.tmp 20) (.con (.int .i64 2)), some (19, true)⟩,
   ⟨some 22, .pick (.tmp 19) (.tmp 21) (.con (.bool false)), none⟩,
   ⟨some 23, .mv (.tmp 22), none⟩,
   ⟨some 24, .mv (.tmp 2), some (23, true)⟩,
   ⟨some 25, .bin .neq (.tmp 24) (.con (.int .i64 4)), some (23, true)⟩,
   ⟨some 26, .pick (.tmp 23) (.tmp 25) (.con (.bool false)), none⟩,
   ⟨some 27, .mv (.tmp 26), none⟩,
   ⟨some 28, .mv (.tmp 10), some (27, false)⟩,
   ⟨some 29, .mv (.tmp 2), some (27, false)⟩,
   ⟨some 30, .bin .add (.tmp 28) (.tmp 29), some (27, false)⟩,
   ⟨some 31, .bin .gtr (.tmp 30) (.con (.int .i64 16)), some (27, false)⟩,
   ⟨some 32, .pick (.tmp 27) (.con (.bool true)) (.tmp 31), none⟩] [])
 (.cond (.tmp 32)
  (.seq (.region [⟨some 6, .mv (.con (.int .i64 0)), none⟩,
    ⟨some 7, .mv (.con (.int .i64 0)), none⟩,
    ⟨some 8, .mv (.con (.int .i64 0)), none⟩,
    ⟨some 9, .mv (.con (.bool false)), none⟩] [])
  .ret)
  .skip))
(.seq (.region [⟨some 34, .load false 1 (.tmp 3), none⟩,
  ⟨some 35, .mv (.tmp 1), none⟩,
  ⟨some 36, .call 37 [(.tmp 35)], none⟩,
  ⟨some 37, .call 56 [(.tmp 34), (.tmp 36)], none⟩,
  ⟨some 33, .mv (.tmp 37), none⟩,
  ⟨some 38, .extract (.tmp 33) 0, none⟩,
  ⟨some 39, .extract (.tmp 33) 1, none⟩,
  ⟨some 40, .extract (.tmp 33) 2, none⟩,
  ⟨some 11, .mv (.tmp 38), none⟩,
  ⟨some 12, .mv (.tmp 39), none⟩,
  ⟨some 13, .mv (.tmp 40), none⟩] [(0, 2)])
(.seq (.region [⟨some 41, .mv (.tmp 11), none⟩,
  ⟨some 42, .mv (.tmp 12), none⟩,
  ⟨some 43, .mv (.tmp 10), none⟩,
  ⟨some 44, .mv (.tmp 13), none⟩,
  ⟨some 6, .mv (.tmp 41), none⟩,
  ⟨some 7, .mv (.tmp 42), none⟩,
  ⟨some 8, .mv (.tmp 43), none⟩,
  ⟨some 9, .mv (.tmp 44), none⟩] [])
.ret))))), [.tmp 6, .tmp 7, .tmp 8, .tmp 9], true, none, false⟩
def f53 : AFun := ⟨21, (.seq (.region [⟨some 2, .box (.tmp 0), none⟩,
  ⟨some 4, .alloc [(.imm true 0 [])], none⟩] [])
(.seq (.region [⟨some 6, .faddr (.tmp 2) 0, none⟩,
  ⟨some 7, .load true 1 (.tmp 6), none⟩,
  ⟨some 8, .call 67 [(.tmp 7)], none⟩,
  ⟨some 9, .build [(.imm true 0 [])] [(0, 1, (.tmp 8))], none⟩,
  ⟨some 5, .alloc [(.imm true 0 [])], none⟩,
  ⟨none, .store 1 (.tmp 5) (.tmp 9), none⟩] [])
(.seq (.region [⟨some 10, .faddr (.tmp 5) 0, none⟩,
  ⟨some 11, .load true 1 (.tmp 10), none⟩,
  ⟨some 12, .mv (.tmp 1), none⟩,
  ⟨some 13, .faddr (.tmp 2) 0, none⟩,
  ⟨some 14, .load true 1 (.tmp 13), none⟩,
  ⟨some 15, .mv (.tmp 1), none⟩,
  ⟨some 16, .isl 1 (.tmp 14) (.tmp 15), none⟩,
  ⟨some 17, .load true 1 (.tmp 16), none⟩,
  ⟨some 18, .call 68 [(.tmp 17)], none⟩,
  ⟨some 19, .isl 1 (.tmp 11) (.tmp 12), none⟩,
  ⟨none, .store 1 (.tmp 19) (.tmp 18), none⟩] [(1, 8)])
(.seq (.region [⟨some 20, .load false 1 (.tmp 5), none⟩,
  ⟨none, .store 1 (.tmp 4) (.tmp 20), none⟩] [])
.ret)))), [.cell 4 false 1], false, none, false⟩
def f54 : AFun := ⟨25, (.seq (.region [⟨some 4, .mv (.con (.imm true 0 [])), none⟩] [])
(.seq (.region [⟨some 7, .mv (.tmp 1), none⟩,
  ⟨some 8, .call 69 [(.tmp 7), (.con (.int .i64 0)), (.con (.int .i64 4))], none⟩,
  ⟨some 9, .mksl [(.int .u8 0)] 1 1 (.tmp 8) (.tmp 8), none⟩,
  ⟨some 5, .mv (.tmp 9), none⟩] [])
(.seq (.seq (.region [⟨some 10, .mv (.tmp 5), none⟩,
   ⟨some 11, .len (.tmp 10), none⟩,
   ⟨some 12, .mv (.con (.int .i64 0)), none⟩] [])
 (.block 0 (.loop (.seq (.region [⟨some 13, .bin .lss (.tmp 12) (.tmp 11), none⟩] [])
   (.seq (.cond (.tmp 13)
     .skip
     (.exit 0))
   (.seq (.block 1 (.seq (.region [⟨some 14, .mv (.tmp 12), none⟩,
       ⟨some 6, .mv (.tmp 14), none⟩] [])
     (.region [⟨some 15, .mv (.tmp 5), none⟩,
      ⟨some 16, .mv (.tmp 6), none⟩,
      ⟨some 17, .mv (.tmp 0), none⟩,
      ⟨some 18, .mv (.tmp 6), none⟩,
      ⟨some 19, .bin .mul (.con (.int .i64 8)) (.tmp 18), none⟩,
      ⟨some 20, .bin .shr (.tmp 17) (.tmp 19), none⟩,
      ⟨some 21, .conv .u8 (.tmp 20), none⟩,
      ⟨some 22, .isl 1 (.tmp 15) (.tmp 16), none⟩,
      ⟨none, .store 1 (.tmp 22) (.tmp 21), none⟩] [])))
   (.region [⟨some 23, .bin .add (.tmp 12) (.con (.int .i64 1)), none⟩,
    ⟨some 12, .mv (.tmp 23), none⟩] [])))))))
(.seq (.region [⟨some 24, .mv (.tmp 5), none⟩,
  ⟨some 4, .mv (.tmp 24), none⟩] [])
.ret)))), [.tmp 4], true, none, false⟩
def f56 : AFun := ⟨19, (.seq (.region [⟨some 2, .box (.tmp 0), none⟩,
  ⟨some 3, .box (.tmp 1), none⟩,
  ⟨some 4, .mv (.con (.int .i64 0)), none⟩,
  ⟨some 5, .mv (.con (.int .i64 0)), none⟩,
  ⟨some 6, .mv (.con (.bool false)), none⟩] [])
(.seq (.region [⟨some 8, .load false 1 (.tmp 2), none⟩,
  ⟨some 9, .load true 1 (.tmp 3), none⟩,
  ⟨some 10, .call 71 [(.tmp 8), (.tmp 9)], none⟩,
  ⟨some 11, .mkfn 72 [] [(.tmp 3)], none⟩,
  ⟨some 12, .call 70 [(.tmp 10), (.tmp 11)], none⟩,
  ⟨some 7, .mv (.tmp 12), none⟩] [])
(.seq (.seq (.region [⟨some 13, .mv (.tmp 7), none⟩,
   ⟨some 14, .bin .lss (.tmp 13) (.con (.int .i64 0)), none⟩] [])
 (.cond (.tmp 14)
  (.seq (.region [⟨some 4, .mv (.con (.int .i64 0)), none⟩,
    ⟨some 5, .mv (.con (.int .i64 0)), none⟩,
    ⟨some 6, .mv (.con (.bool false)), none⟩] [])
  .ret)
  .skip))
(.seq (.region [⟨some 15, .load false 1 (.tmp 2), none⟩,
  ⟨some 16, .load true 1 (.tmp 3), none⟩,
  ⟨some 17, .call 73 [(.tmp 15), (.tmp 16)], none⟩,
  ⟨some 18, .mv (.tmp 7), none⟩,
  ⟨some 4, .mv (.tmp 17), none⟩,
  ⟨some 5, .mv (.tmp 18), none⟩,
  ⟨some 6, .mv (.con (.bool true)), none⟩] [])
.ret)))), [.tmp 4, .tmp 5, .tmp 6], true, none, false⟩
def f57 : AFun := ⟨86, (.seq (.region [⟨some 3, .box (.tmp 0), none⟩,
  ⟨some 6, .alloc [(.imm true 0 [])], none⟩] [])
(.seq (.seq (.region [⟨some 11, .mv (.tmp 1), none⟩,
   ⟨some 12, .bin .lss (.tmp 11) (.con (.int .i64 0)), none⟩,
   ⟨some 13, .mv (.tmp 12), none⟩,
   ⟨some 14, .mv (.tmp 1), some (13, false)⟩,
   ⟨some 15, .faddr (.tmp 3) 0, some (13, false)⟩,
   ⟨some 16, .load true 1 (.tmp 15), some (13, false)⟩,
   ⟨some 17, .len (.tmp 16), some (13, false)⟩,
   ⟨some 18, .bin .geq (.tmp 14) (.tmp 17), some (13, false)⟩,
   ⟨some 19, .pick (.tmp 13) (.con (.bool true)) (.tmp 18), none⟩,
   ⟨some 20, .mv (.tmp 19), none⟩,
   ⟨some 21, .mv (.tmp 2), some (20, false)⟩,
   ⟨some 22, .bin .lss (.tmp 21) (.con (.int .i64 0)), some (20, false)⟩,
   ⟨some 23, .pick (.tmp 20) (.con (.bool true)) (.tmp 22), none⟩,
   ⟨some 24, .mv (.tmp 23), none⟩,
   ⟨some 25, .mv (.tmp 2), some (24, false)⟩,
   ⟨some 26, .faddr (.tmp 3) 0, some (24, false)⟩,
   ⟨some 27, .load true 1 (.tmp 26), some (24, false)⟩,
   ⟨some 28, .mv (.tmp 1), some (24, false)⟩,
   ⟨some 29, .isl 1 (.tmp 27) (.tmp 28), some (24, false)⟩,
   ⟨some 30, .load true 1 (.tmp 29), some (24, false)⟩,
   ⟨some 31, .len (.tmp 30), some (24, false)⟩,
   ⟨some 32, .bin .geq (.tmp 25) (.tmp 31), some (24, false)⟩,
   ⟨some 33, .pick (.tmp 24) (.con (.bool true)) (.tmp 32), none⟩] [])
 (.cond (.tmp 33)
  (.seq (.region [⟨some 34, .load false 1 (.tmp 3), none⟩,
    ⟨none, .store 1 (.tmp 6) (.tmp 34), none⟩] [])
  .ret)
  .skip))
(.seq (.region [⟨some 35, .load false 1 (.tmp 3), none⟩,
  ⟨some 36, .mv (.tmp 1), none⟩,
  ⟨some 37, .call 53 [(.tmp 35), (.tmp 36)], none⟩,
  ⟨some 7, .alloc [(.imm true 0 [])], none⟩,
  ⟨none, .store 1 (.tmp 7) (.tmp 37), none⟩] [])
(.seq (.region [⟨some 38, .faddr (.tmp 7) 0, none⟩,
  ⟨some 39, .load true 1 (.tmp 38), none⟩,
  ⟨some 40, .mv (.tmp 1), none⟩,
  ⟨some 41, .isl 1 (.tmp 39) (.tmp 40), none⟩,
  ⟨some 42, .load true 1 (.tmp 41), none⟩,
  ⟨some 43, .mv (.tmp 2), none⟩,
  ⟨some 44, .isl 19 (.tmp 42) (.tmp 43), none⟩,
  ⟨some 45, .faddr (.tmp 44) 18, none⟩,
  ⟨some 46, .load true 1 (.tmp 45), none⟩,
  ⟨some 8, .mv (.tmp 46), none⟩] [])
(.seq (.seq (.region [⟨some 47, .faddr (.tmp 7) 0, none⟩,
   ⟨some 48, .load true 1 (.tmp 47), none⟩,
   ⟨some 49, .mv (.tmp 1), none⟩,
   ⟨some 50, .isl 1 (.tmp 48) (.tmp 49), none⟩,
   ⟨some 51, .load true 1 (.tmp 50), none⟩,
   ⟨some 52, .len (.tmp 51), none⟩,
   ⟨some 53, .mv (.con (.int .i64 0)), none⟩] [])
 (.block 0 (.loop (.seq (.region [⟨some 54, .bin .lss (.tmp 53) (.tmp 52), none⟩] [])
   (.seq (.cond (.tmp 54)
     .skip
     (.exit 0))
   (.seq (.block 1 (.seq (.region [⟨some 55, .mv (.tmp 53), none⟩,
       ⟨some 9, .mv (.tmp 55), none⟩] [])
     (.seq (.region [⟨some 56, .faddr (.tmp 7) 0, none⟩,
       ⟨some 57, .load true 1 (.tmp 56), none⟩,
       ⟨some 58, .mv (.tmp 1), none⟩,
       ⟨some 59, .isl 1 (.tmp 57) (.tmp 58), none⟩,
       ⟨some 60, .load true 1 (.tmp 59), none⟩,
       ⟨some 61, .mv (.tmp 9), none⟩,
       ⟨some 62, .isl 19 (.tmp 60) (.tmp 61), none⟩,
       ⟨some 10, .mv (.tmp 62), none⟩] [])
     (.seq (.region [⟨some 63, .mv (.tmp 10), none⟩,
       ⟨some 64, .nilchk (.tmp 63), none⟩,
       ⟨some 65, .faddr (.tmp 64) 18, none⟩,
       ⟨some 66, .load true 1 (.tmp 65), none⟩,
       ⟨some 67, .mv (.tmp 8), none⟩,
       ⟨some 68, .bin .lss (.tmp 66) (.tmp 67), none⟩] [])
     (.cond (.tmp 68)
      (.region [⟨some 69, .mv (.tmp 10), none⟩,
       ⟨some 70, .nilchk (.tmp 69), none⟩,
       ⟨some 71, .faddr (.tmp 70) 18, none⟩,
       ⟨some 72, .load true 1 (.tmp 71), none⟩,
       ⟨some 73, .bin .add (.tmp 72) (.con (.int .i64 1)), none⟩,
       ⟨some 74, .nilchk (.tmp 69), none⟩,
       ⟨some 75, .faddr (.tmp 74) 18, none⟩,
       ⟨none, .store 1 (.tmp 75) (.tmp 73), none⟩] [])
      .skip)))))
   (.region [⟨some 76, .bin .add (.tmp 53) (.con (.int .i64 1)), none⟩,
    ⟨some 53, .mv (.tmp 76), none⟩] [])))))))
(.seq (.region [⟨some 77, .faddr (.tmp 7) 0, none⟩,
  ⟨some 78, .load true 1 (.tmp 77), none⟩,
  ⟨some 79, .mv (.tmp 1), none⟩,
  ⟨some 80, .isl 1 (.tmp 78) (.tmp 79), none⟩,
  ⟨some 81, .load true 1 (.tmp 80), none⟩,
  ⟨some 82, .mv (.tmp 2), none⟩,
  ⟨some 83, .isl 19 (.tmp 81) (.tmp 82), none⟩,
  ⟨some 84, .faddr (.tmp 83) 18, none⟩,
  ⟨none, .store 1 (.tmp 84) (.con (.int .i64 0)), none⟩] [])
(.seq (.region [⟨some 85, .load false 1 (.tmp 7), none⟩,
  ⟨none, .store 1 (.tmp 6) (.tmp 85), none⟩] [])
.ret))))))), [.cell 6 false 1], true, none, false⟩
def f58 : AFun := ⟨28, (.seq (.region [⟨some 4, .mv (.con (.int .i64 0)), none⟩] [])
(.seq (.region [⟨some 5, .mv (.tmp 0), none⟩,
  ⟨some 6, .call 74 [(.tmp 5)], none⟩,
  ⟨some 0, .mv (.tmp 6), none⟩] [])
(.seq (.block 0 (.seq (.region [⟨some 8, .mv (.tmp 1), none⟩,
    ⟨some 9, .bin .eql (.tmp 8) (.con (.int .i64 1)), none⟩,
    ⟨some 10, .mv (.tmp 9), none⟩,
    ⟨some 11, .mv (.tmp 0), some (10, true)⟩,
    ⟨some 12, .bin .eql (.tmp 11) (.con (.int .i64 0)), some (10, true)⟩,
    ⟨some 13, .pick (.tmp 10) (.tmp 12) (.con (.bool false)), none⟩,
    ⟨some 7, .mv (.tmp 13), none⟩] [])
  (.cond (.tmp 7)
   (.seq (.region [⟨some 4, .mv (.con (.int .i64 1)), none⟩] [])
   .ret)
   (.seq (.region [⟨some 15, .mv (.tmp 1), none⟩,
     ⟨some 16, .bin .eql (.tmp 15) (.con (.int .i64 2)), none⟩,
     ⟨some 17, .mv (.tmp 16), none⟩,
     ⟨some 18, .mv (.tmp 0), some (17, true)⟩,
     ⟨some 19, .bin .eql (.tmp 18) (.con (.int .i64 0)), some (17, true)⟩,
     ⟨some 20, .pick (.tmp 17) (.tmp 19) (.con (.bool false)), none⟩,
     ⟨some 14, .mv (.tmp 20), none⟩] [])
   (.cond (.tmp 14)
    (.seq (.region [⟨some 4, .mv (.con (.int .i64 2)), none⟩] [])
    .ret)
    (.seq (.region [⟨some 22, .mv (.tmp 1), none⟩,
      ⟨some 23, .bin .eql (.tmp 22) (.con (.int .i64 2)), none⟩,
      ⟨some 24, .mv (.tmp 23), none⟩,
      ⟨some 25, .mv (.tmp 0), some (24, true)⟩,
      ⟨some 26, .bin .eql (.tmp 25) (.con (.int .i64 1)), some (24, true)⟩,
      ⟨some 27, .pick (.tmp 24) (.tmp 26) (.con (.bool false)), none⟩,
      ⟨some 21, .mv (.tmp 27), none⟩] [])
    (.cond (.tmp 21)
     (.seq (.region [⟨some 4, .mv (.con (.int .i64 3)), none⟩] [])
     .ret)
     .skip)))))))
(.seq (.region [⟨some 4, .mv (.con (.int .i64 0)), none⟩] [])
.ret)))), [.tmp 4], true, none, false⟩
def f59 : AFun := ⟨48, (.seq (.region [⟨some 2, .box (.tmp 0), none⟩,
  ⟨some 4, .alloc [(.int .i64 0), (.int .u32 0), (.int .u8 0), (.int .u8 0), (.int .u8 0), (.int .u8 0), (.int .u8 0), (.int .u8 0), (.int .u8 0), (.int .u8 0), (.int .u8 0), (.int .u8 0), (.int .u8 0), (.int .u8 0), (.int .u8 0), (.int .u8 0), (.int .u8 0), (.int .u8 0), (.int .i64 0)], none⟩] [])
(.seq (.seq (.region [⟨some 8, .mv (.tmp 1), none⟩,
   ⟨some 9, .bin .lss (.tmp 8) (.con (.int .i64 0)), none⟩,
   ⟨some 10, .mv (.tmp 9), none⟩,
   ⟨some 11, .mv (.tmp 1), some (10, false)⟩,
   ⟨some 12, .faddr (.tmp 2) 0, some (10, false)⟩,
   ⟨some 13, .faddr (.tmp 12) 1, some (10, false)⟩,
   ⟨some 14, .load true 1 (.tmp 13), some (10, false)⟩,
   ⟨some 15, .len (.tmp 14), some (10, false)⟩,
   ⟨some 16, .bin .geq (.tmp 11) (.tmp 15), some (10, false)⟩,
   ⟨some 17, .pick (.tmp 10) (.con (.bool true)) (.tmp 16), none⟩] [])
 (.cond (.tmp 17)
  (.seq (.region [⟨some 18, .build [(.int .i64 0), (.int .u32 0), (.int .u8 0), (.int .u8 0), (.int .u8 0), (.int .u8 0), (.int .u8 0), (.int .u8 0), (.int .u8 0), (.int .u8 0), (.int .u8 0), (.int .u8 0), (.int .u8 0), (.int .u8 0), (.int .u8 0), (.int .u8 0), (.int .u8 0), (.int .u8 0), (.int .i64 0)] [], none⟩,
    ⟨none, .store 19 (.tmp 4) (.tmp 18), none⟩] [])
  .ret)
  .skip))
(.seq (.region [⟨some 20, .faddr (.tmp 2) 0, none⟩,
  ⟨some 21, .faddr (.tmp 20) 1, none⟩,
  ⟨some 22, .load true 1 (.tmp 21), none⟩,
  ⟨some 23, .mv (.tmp 1), none⟩,
  ⟨some 24, .isl 1 (.tmp 22) (.tmp 23), none⟩,
  ⟨some 25, .load false 1 (.tmp 24), none⟩,
  ⟨some 26, .faddr (.tmp 2) 2, none⟩,
  ⟨some 27, .load true 1 (.tmp 26), none⟩,
  ⟨some 28, .call 56 [(.tmp 25), (.tmp 27)], none⟩,
  ⟨some 19, .mv (.tmp 28), none⟩,
  ⟨some 29, .extract (.tmp 19) 0, none⟩,
  ⟨some 30, .extract (.tmp 19) 1, none⟩,
  ⟨some 31, .extract (.tmp 19) 2, none⟩,
  ⟨some 5, .mv (.tmp 29), none⟩,
  ⟨some 6, .mv (.tmp 30), none⟩,
  ⟨some 7, .mv (.tmp 31), none⟩] [])
(.seq (.seq (.region [⟨some 32, .mv (.tmp 7), none⟩,
   ⟨some 33, .un .not (.tmp 32), none⟩] [])
 (.cond (.tmp 33)
  (.seq (.region [⟨some 34, .build [(.int .i64 0), (.int .u32 0), (.int .u8 0), (.int .u8 0), (.int .u8 0), (.int .u8 0), (.int .u8 0), (.int .u8 0), (.int .u8 0), (.int .u8 0), (.int .u8 0), (.int .u8 0), (.int .u8 0), (.int .u8 0), (.int .u8 0), (.int .u8 0), (.int .u8 0), (.int .u8 0), (.int .i64 0)] [], none⟩,
    ⟨none, .store 19 (.tmp 4) (.tmp 34), none⟩] [])
  .ret)
  .skip))
(.seq (.region [⟨some 35, .faddr (.tmp 2) 0, none⟩,
  ⟨some 36, .faddr (.tmp 35) 1, none⟩,
  ⟨some 37, .load true 1 (.tmp 36), none⟩,
  ⟨some 38, .mv (.tmp 1), none⟩,
  ⟨some 39, .isl 1 (.tmp 37) (.tmp 38), none⟩,
  ⟨some 40, .faddr (.tmp 39) 0, none⟩,
  ⟨some 41, .load true 1 (.tmp 40), none⟩,
  ⟨some 42, .mv (.tmp 5), none⟩,
  ⟨some 43, .isl 1 (.tmp 41) (.tmp 42), none⟩,
  ⟨some 44, .load true 1 (.tmp 43), none⟩,
  ⟨some 45, .mv (.tmp 6), none⟩,
  ⟨some 46, .isl 19 (.tmp 44) (.tmp 45), none⟩,
  ⟨some 47, .load false 19 (.tmp 46), none⟩,
  ⟨none, .store 19 (.tmp 4) (.tmp 47), none⟩] [])
.ret))))), [.cell 4 false 19], true, none, false⟩
def f60 : AFun := ⟨14, (.seq (.region [⟨some 2, .box (.tmp 0), none⟩,
  ⟨some 4, .mv (.con (.bool false)), none⟩] [])
(.seq (.region [⟨some 5, .mv (.tmp 1), none⟩,
  ⟨some 6, .conv .u64 (.tmp 5), none⟩,
  ⟨some 7, .bin .add (.tmp 6) (.con (.int .u64 1)), none⟩,
  ⟨some 8, .bin .mul (.tmp 7) (.con (.int .u64 16)), none⟩,
  ⟨some 9, .faddr (.tmp 2) 0, none⟩,
  ⟨some 10, .load true 1 (.tmp 9), none⟩,
  ⟨some 11, .len (.tmp 10), none⟩,
  ⟨some 12, .conv .u64 (.tmp 11), none⟩,
  ⟨some 13, .bin .leq (.tmp 8) (.tmp 12), none⟩,
  ⟨some 4, .mv (.tmp 13), none⟩] [])
.ret)), [.tmp 4], true, none, false⟩
def f61 : AFun := ⟨22, (.seq (.region [⟨some 4, .mv (.con (.int .i64 0)), none⟩,
  ⟨some 5, .mv (.con (.bool false)), none⟩] [])
(.seq (.region [⟨some 7, .mv (.tmp 0), none⟩,
  ⟨some 8, .call 74 [(.tmp 7)], none⟩,
  ⟨some 0, .mv (.tmp 8), none⟩] [])
(.seq (.region [⟨some 9, .mv (.tmp 0), none⟩,
  ⟨some 10, .bin .eql (.tmp 9) (.con (.int .i64 3)), none⟩,
  ⟨some 6, .mv (.tmp 10), none⟩] [])
(.seq (.seq (.region [⟨some 11, .mv (.tmp 1), none⟩] [])
 (.block 0 (.seq (.region [⟨some 13, .bin .eql (.tmp 11) (.con (.int .i64 1)), none⟩,
    ⟨some 12, .mv (.tmp 13), none⟩] [])
  (.cond (.tmp 12)
   (.seq (.region [⟨some 14, .mv (.tmp 0), none⟩,
     ⟨some 15, .mn [(.tmp 14), (.con (.int .i64 1))], none⟩,
     ⟨some 16, .mv (.tmp 6), none⟩,
     ⟨some 4, .mv (.tmp 15), none⟩,
     ⟨some 5, .mv (.tmp 16), none⟩] [])
   .ret)
   (.seq (.seq (.region [⟨some 18, .bin .eql (.tmp 11) (.con (.int .i64 2)), none⟩,
      ⟨some 17, .mv (.tmp 18), none⟩] [])
    (.cond (.tmp 17)
     .skip
     (.region [⟨some 19, .bin .eql (.tmp 11) (.con (.int .i64 3)), none⟩,
      ⟨some 17, .mv (.tmp 19), none⟩] [])))
   (.cond (.tmp 17)
    (.seq (.region [⟨some 20, .mv (.tmp 6), none⟩,
      ⟨some 4, .mv (.con (.int .i64 0)), none⟩,
      ⟨some 5, .mv (.tmp 20), none⟩] [])
    .ret)
    .skip))))))
(.seq (.region [⟨some 21, .mv (.tmp 0), none⟩,
  ⟨some 4, .mv (.tmp 21), none⟩,
  ⟨some 5, .mv (.con (.bool false)), none⟩] [])
.ret))))), [.tmp 4, .tmp 5], true, none, false⟩
def f62 : AFun := ⟨33, (.seq (.region [⟨some 3, .box (.tmp 0), none⟩,
  ⟨some 5, .box (.tmp 2), none⟩,
  ⟨some 6, .alloc [(.imm true 0 []), (.imm true 0 [])], none⟩] [])
(.seq (.seq (.region [⟨some 7, .faddr (.tmp 5) 0, none⟩,
   ⟨some 8, .load true 1 (.tmp 7), none⟩,
   ⟨some 9, .bin .neq (.tmp 8) (.con (.int .i64 3)), none⟩,
   ⟨some 10, .mv (.tmp 9), none⟩,
   ⟨some 11, .load false 2 (.tmp 3), some (10, false)⟩,
   ⟨some 12, .faddr (.tmp 5) 1, some (10, false)⟩,
   ⟨some 13, .load true 1 (.tmp 12), some (10, false)⟩,
   ⟨some 14, .call 60 [(.tmp 11), (.tmp 13)], some (10, false)⟩,
   ⟨some 15, .un .not (.tmp 14), some (10, false)⟩,
   ⟨some 16, .pick (.tmp 10) (.con (.bool true)) (.tmp 15), none⟩] [])
 (.cond (.tmp 16)
  (.seq (.region [⟨some 17, .load false 2 (.tmp 3), none⟩,
    ⟨none, .store 2 (.tmp 6) (.tmp 17), none⟩] [])
  .ret)
  .skip))
(.seq (.region [⟨some 18, .faddr (.tmp 3) 0, none⟩,
  ⟨some 19, .load true 1 (.tmp 18), none⟩,
  ⟨some 20, .append 1 1 (.con (.imm true 0 [])) (.tmp 19), none⟩,
  ⟨some 21, .faddr (.tmp 3) 0, none⟩,
  ⟨none, .store 1 (.tmp 21) (.tmp 20), none⟩] [])
(.seq (.region [⟨some 22, .faddr (.tmp 3) 0, none⟩,
  ⟨some 23, .load true 1 (.tmp 22), none⟩,
  ⟨some 24, .faddr (.tmp 5) 1, none⟩,
  ⟨some 25, .load true 1 (.tmp 24), none⟩,
  ⟨some 26, .conv .i64 (.tmp 25), none⟩,
  ⟨some 27, .bin .mul (.tmp 26) (.con (.int .i64 16)), none⟩,
  ⟨some 28, .slSl 1 (.tmp 23) (some (.tmp 27)) none none, none⟩,
  ⟨some 29, .faddr (.tmp 5) 2, none⟩,
  ⟨some 30, .slArr 16 1 (.tmp 29) none none none, none⟩,
  ⟨some 31, .copy 1 (.tmp 28) (.tmp 30), none⟩] [])
(.seq (.region [⟨some 32, .load false 2 (.tmp 3), none⟩,
  ⟨none, .store 2 (.tmp 6) (.tmp 32), none⟩] [])
.ret))))), [.cell 6 false 2], false, none, true⟩
def f63 : AFun := ⟨54, (.seq (.region [⟨some 3, .box (.tmp 0), none⟩,
  ⟨some 6, .alloc [(.imm true 0 [])], none⟩] [])
(.seq (.region [⟨some 13, .load false 1 (.tmp 3), none⟩,
  ⟨some 14, .mv (.tmp 1), none⟩,
  ⟨some 15, .call 56 [(.tmp 13), (.tmp 14)], none⟩,
  ⟨some 12, .mv (.tmp 15), none⟩,
  ⟨some 16, .extract (.tmp 12) 0, none⟩,
  ⟨some 17, .extract (.tmp 12) 1, none⟩,
  ⟨some 18, .extract (.tmp 12) 2, none⟩,
  ⟨some 7, .mv (.tmp 16), none⟩,
  ⟨some 8, .mv (.tmp 17), none⟩,
  ⟨some 9, .mv (.tmp 18), none⟩] [])
(.seq (.seq (.region [⟨some 19, .mv (.tmp 9), none⟩,
   ⟨some 20, .un .not (.tmp 19), none⟩,
   ⟨some 21, .mv (.tmp 20), none⟩,
   ⟨some 22, .mv (.tmp 2), some (21, false)⟩,
   ⟨some 23, .bin .lss (.tmp 22) (.con (.int .i64 0)), some (21, false)⟩,
   ⟨some 24, .pick (.tmp 21) (.con (.bool true)) (.tmp 23), none⟩,
   ⟨some 25, .mv (.tmp 24), none⟩,
   ⟨some 26, .mv (.tmp 2), some (25, false)⟩,
   ⟨some 27, .bin .gtr (.tmp 26) (.con (.int .i64 3)), some (25, false)⟩,
   ⟨some 28, .pick (.tmp 25) (.con (.bool true)) (.tmp 27), none⟩] [])
 (.cond (.tmp 28)
  (.seq (.region [⟨some 29, .load false 1 (.tmp 3), none⟩,
    ⟨none, .store 1 (.tmp 6) (.tmp 29), none⟩] [])
  .ret)
  .skip))
(.seq (.region [⟨some 30, .load false 1 (.tmp 3), none⟩,
  ⟨some 31, .mv (.tmp 7), none⟩,
  ⟨some 32, .call 53 [(.tmp 30), (.tmp 31)], none⟩,
  ⟨some 10, .alloc [(.imm true 0 [])], none⟩,
  ⟨none, .store 1 (.tmp 10) (.tmp 32), none⟩] [])
(.seq (.region [⟨some 33, .faddr (.tmp 10) 0, none⟩,
  ⟨some 34, .load true 1 (.tmp 33), none⟩,
  ⟨some 35, .mv (.tmp 7), none⟩,
  ⟨some 36, .isl 1 (.tmp 34) (.tmp 35), none⟩,
  ⟨some 37, .load true 1 (.tmp 36), none⟩,
  ⟨some 38, .mv (.tmp 8), none⟩,
  ⟨some 39, .isl 19 (.tmp 37) (.tmp 38), none⟩,
  ⟨some 11, .mv (.tmp 39), none⟩] [])
(.seq (.region [⟨some 40, .mv (.tmp 11), none⟩,
  ⟨some 41, .mv (.tmp 2), none⟩,
  ⟨some 42, .nilchk (.tmp 40), none⟩,
  ⟨some 43, .faddr (.tmp 42) 0, none⟩,
  ⟨none, .store 1 (.tmp 43) (.tmp 41), none⟩] [])
(.seq (.seq (.region [⟨some 44, .mv (.tmp 2), none⟩,
   ⟨some 45, .bin .eql (.tmp 44) (.con (.int .i64 0)), none⟩] [])
 (.cond (.tmp 45)
  (.region [⟨some 46, .mv (.tmp 11), none⟩,
   ⟨some 47, .mv (.tmp 11), none⟩,
   ⟨some 48, .nilchk (.tmp 47), none⟩,
   ⟨some 49, .faddr (.tmp 48) 18, none⟩,
   ⟨some 50, .load true 1 (.tmp 49), none⟩,
   ⟨some 51, .build [(.int .i64 0), (.int .u32 0), (.int .u8 0), (.int .u8 0), (.int .u8 0), (.int .u8 0), (.int .u8 0), (.int .u8 0), (.int .u8 0), (.int .u8 0), (.int .u8 0), (.int .u8 0), (.int .u8 0), (.int .u8 0), (.int .u8 0), (.int .u8 0), (.int .u8 0), (.int .u8 0), (.int .i64 0)] [(18, 1, (.tmp 50))], none⟩,
   ⟨some 52, .nilchk (.tmp 46), none⟩,
   ⟨none, .store 19 (.tmp 52) (.tmp 51), none⟩] [])
  .skip))
(.seq (.region [⟨some 53, .load false 1 (.tmp 10), none⟩,
  ⟨none, .store 1 (.tmp 6) (.tmp 53), none⟩] [])
.ret)))))))), [.cell 6 false 1], true, none, false⟩
def f64 : AFun := ⟨17, (.seq (.region [⟨some 4, .mv (.con (.int .i64 0)), none⟩] [])
(.seq (.block 0 (.seq (.region [⟨some 6, .mv (.tmp 0), none⟩,
    ⟨some 7, .bin .eql (.tmp 6) (.con (.int .i64 2)), none⟩,
    ⟨some 8, .mv (.tmp 7), none⟩,
    ⟨some 9, .mv (.tmp 0), some (8, false)⟩,
    ⟨some 10, .bin .eql (.tmp 9) (.con (.int .i64 3)), some (8, false)⟩,
    ⟨some 11, .pick (.tmp 8) (.con (.bool true)) (.tmp 10), none⟩,
    ⟨some 5, .mv (.tmp 11), none⟩] [])
  (.cond (.tmp 5)
   (.seq (.region [⟨some 4, .mv (.con (.int .i64 3)), none⟩] [])
   .ret)
   (.seq (.region [⟨some 13, .mv (.tmp 0), none⟩,
     ⟨some 14, .bin .neq (.tmp 13) (.con (.int .i64 1)), none⟩,
     ⟨some 12, .mv (.tmp 14), none⟩] [])
   (.cond (.tmp 12)
    (.seq (.region [⟨some 4, .mv (.con (.int .i64 0)), none⟩] [])
    .ret)
    (.seq (.region [⟨some 16, .mv (.tmp 1), none⟩,
      ⟨some 15, .mv (.tmp 16), none⟩] [])
    (.cond (.tmp 15)
     (.seq (.region [⟨some 4, .mv (.con (.int .i64 1)), none⟩] [])
     .ret)
     .skip)))))))
(.seq (.region [⟨some 4, .mv (.con (.int .i64 2)), none⟩] [])
.ret))), [.tmp 4], true, none, false⟩
def f65 : AFun := ⟨30, (.seq (.region [⟨some 3, .box (.tmp 0), none⟩,
  ⟨some 6, .mv (.con (.bool false)), none⟩] [])
(.seq (.region [⟨some 9, .load false 2 (.tmp 3), none⟩,
  ⟨some 10, .mv (.tmp 2), none⟩,
  ⟨some 11, .build [(.imm true 0 []), (.imm true 0 []), (.int .u32 0)] [(0, 2, (.tmp 9)), (2, 1, (.tmp 10))], none⟩,
  ⟨some 12, .mkfn 59 [(.tmp 11)] [], none⟩,
  ⟨some 7, .mv (.tmp 12), none⟩] [])
(.seq (.seq (.region [⟨some 13, .faddr (.tmp 3) 1, none⟩,
   ⟨some 14, .load true 1 (.tmp 13), none⟩,
   ⟨some 15, .len (.tmp 14), none⟩,
   ⟨some 16, .mv (.con (.int .i64 0)), none⟩] [])
 (.block 0 (.loop (.seq (.region [⟨some 17, .bin .lss (.tmp 16) (.tmp 15), none⟩] [])
   (.seq (.cond (.tmp 17)
     .skip
     (.exit 0))
   (.seq (.block 1 (.seq (.region [⟨some 18, .mv (.tmp 16), none⟩,
       ⟨some 8, .mv (.tmp 18), none⟩] [])
     (.seq (.region [⟨some 19, .mv (.tmp 8), none⟩,
       ⟨some 20, .mv (.tmp 1), none⟩,
       ⟨some 21, .bin .neq (.tmp 19) (.tmp 20), none⟩,
       ⟨some 22, .mv (.tmp 21), none⟩,
       ⟨some 23, .mv (.tmp 7), some (22, true)⟩,
       ⟨some 24, .mv (.tmp 8), some (22, true)⟩,
       ⟨some 25, .callv (.tmp 23) [(.tmp 24)], some (22, true)⟩,
       ⟨some 26, .field true 0 1 (.tmp 25), some (22, true)⟩,
       ⟨some 27, .bin .neq (.tmp 26) (.con (.int .i64 0)), some (22, true)⟩,
       ⟨some 28, .pick (.tmp 22) (.tmp 27) (.con (.bool false)), none⟩] [])
     (.cond (.tmp 28)
      (.seq (.region [⟨some 6, .mv (.con (.bool true)), none⟩] [])
      .ret)
      .skip))))
   (.region [⟨some 29, .bin .add (.tmp 16) (.con (.int .i64 1)), none⟩,
    ⟨some 16, .mv (.tmp 29), none⟩] [])))))))
(.seq (.region [⟨some 6, .mv (.con (.bool false)), none⟩] [])
.ret)))), [.tmp 6], true, none, false⟩
def f66 : AFun := ⟨76, (.seq (.region [⟨some 4, .box (.tmp 0), none⟩,
  ⟨some 7, .box (.tmp 3), none⟩,
  ⟨some 8, .alloc [(.imm true 0 [])], none⟩,
  ⟨some 9, .alloc [(.int .i64 0), (.int .u32 0), (.int .u8 0), (.int .u8 0), (.int .u8 0), (.int .u8 0), (.int .u8 0), (.int .u8 0), (.int .u8 0), (.int .u8 0), (.int .u8 0), (.int .u8 0), (.int .u8 0), (.int .u8 0), (.int .u8 0), (.int .u8 0), (.int .u8 0), (.int .u8 0), (.int .i64 0)], none⟩] [])
(.seq (.seq (.region [⟨some 15, .mv (.tmp 2), none⟩,
   ⟨some 16, .bin .lss (.tmp 15) (.con (.int .i64 1)), none⟩,
   ⟨some 17, .mv (.tmp 16), none⟩,
   ⟨some 18, .mv (.tmp 2), some (17, false)⟩,
   ⟨some 19, .bin .gtr (.tmp 18) (.con (.int .i64 3)), some (17, false)⟩,
   ⟨some 20, .pick (.tmp 17) (.con (.bool true)) (.tmp 19), none⟩,
   ⟨some 21, .mv (.tmp 20), none⟩,
   ⟨some 22, .load false 1 (.tmp 4), some (21, false)⟩,
   ⟨some 23, .mv (.tmp 1), some (21, false)⟩,
   ⟨some 24, .call 71 [(.tmp 22), (.tmp 23)], some (21, false)⟩,
   ⟨some 25, .len (.tmp 24), some (21, false)⟩,
   ⟨some 26, .bin .eql (.tmp 25) (.con (.int .i64 0)), some (21, false)⟩,
   ⟨some 27, .pick (.tmp 21) (.con (.bool true)) (.tmp 26), none⟩] [])
 (.cond (.tmp 27)
  (.seq (.region [⟨some 28, .load false 1 (.tmp 4), none⟩,
    ⟨some 29, .build [(.int .i64 0), (.int .u32 0), (.int .u8 0), (.int .u8 0), (.int .u8 0), (.int .u8 0), (.int .u8 0), (.int .u8 0), (.int .u8 0), (.int .u8 0), (.int .u8 0), (.int .u8 0), (.int .u8 0), (.int .u8 0), (.int .u8 0), (.int .u8 0), (.int .u8 0), (.int .u8 0), (.int .i64 0)] [], none⟩,
    ⟨none, .store 1 (.tmp 8) (.tmp 28), none⟩,
    ⟨none, .store 19 (.tmp 9) (.tmp 29), none⟩] [])
  .ret)
  .skip))
(.seq (.region [⟨some 31, .load false 1 (.tmp 4), none⟩,
  ⟨some 32, .mv (.tmp 1), none⟩,
  ⟨some 33, .call 75 [(.tmp 31), (.tmp 32)], none⟩,
  ⟨some 30, .mv (.tmp 33), none⟩,
  ⟨some 34, .extract (.tmp 30) 0, none⟩,
  ⟨some 35, .extract (.tmp 30) 1, none⟩,
  ⟨some 10, .mv (.tmp 34), none⟩,
  ⟨some 11, .mv (.tmp 35), none⟩] [])
(.seq (.region [⟨some 36, .load false 1 (.tmp 4), none⟩,
  ⟨some 37, .mv (.tmp 10), none⟩,
  ⟨some 38, .call 53 [(.tmp 36), (.tmp 37)], none⟩,
  ⟨some 12, .alloc [(.imm true 0 [])], none⟩,
  ⟨none, .store 1 (.tmp 12) (.tmp 38), none⟩] [])
(.seq (.region [⟨some 39, .faddr (.tmp 12) 0, none⟩,
  ⟨some 40, .load true 1 (.tmp 39), none⟩,
  ⟨some 41, .mv (.tmp 10), none⟩,
  ⟨some 42, .isl 1 (.tmp 40) (.tmp 41), none⟩,
  ⟨some 43, .load true 1 (.tmp 42), none⟩,
  ⟨some 44, .mv (.tmp 11), none⟩,
  ⟨some 45, .isl 19 (.tmp 43) (.tmp 44), none⟩,
  ⟨some 13, .mv (.tmp 45), none⟩] [])
(.seq (.region [⟨some 46, .mv (.tmp 13), none⟩,
  ⟨some 47, .nilchk (.tmp 46), none⟩,
  ⟨some 48, .load false 19 (.tmp 47), none⟩,
  ⟨some 14, .alloc [(.int .i64 0), (.int .u32 0), (.int .u8 0), (.int .u8 0), (.int .u8 0), (.int .u8 0), (.int .u8 0), (.int .u8 0), (.int .u8 0), (.int .u8 0), (.int .u8 0), (.int .u8 0), (.int .u8 0), (.int .u8 0), (.int .u8 0), (.int .u8 0), (.int .u8 0), (.int .u8 0), (.int .i64 0)], none⟩,
  ⟨none, .store 19 (.tmp 14) (.tmp 48), none⟩] [])
(.seq (.seq (.region [⟨some 49, .faddr (.tmp 14) 0, none⟩,
   ⟨some 50, .load true 1 (.tmp 49), none⟩,
   ⟨some 51, .bin .eql (.tmp 50) (.con (.int .i64 0)), none⟩,
   ⟨some 52, .mv (.tmp 51), none⟩,
   ⟨some 53, .faddr (.tmp 14) 1, some (52, false)⟩,
   ⟨some 54, .load true 1 (.tmp 53), some (52, false)⟩,
   ⟨some 55, .mv (.tmp 1), some (52, false)⟩,
   ⟨some 56, .bin .eql (.tmp 54) (.tmp 55), some (52, false)⟩,
   ⟨some 57, .pick (.tmp 52) (.con (.bool true)) (.tmp 56), none⟩] [])
 (.cond (.tmp 57)
  (.region [⟨some 58, .build [(.int .i64 0), (.int .u32 0), (.int .u8 0), (.int .u8 0), (.int .u8 0), (.int .u8 0), (.int .u8 0), (.int .u8 0), (.int .u8 0), (.int .u8 0), (.int .u8 0), (.int .u8 0), (.int .u8 0), (.int .u8 0), (.int .u8 0), (.int .u8 0), (.int .u8 0), (.int .u8 0), (.int .i64 0)] [], none⟩,
   ⟨none, .store 19 (.tmp 14) (.tmp 58), none⟩] [])
  .skip))
(.seq (.region [⟨some 59, .mv (.tmp 13), none⟩,
  ⟨some 60, .mv (.tmp 13), none⟩,
  ⟨some 61, .mv (.tmp 13), none⟩,
  ⟨some 62, .mv (.tmp 2), none⟩,
  ⟨some 63, .mv (.tmp 1), none⟩,
  ⟨some 64, .load false 16 (.tmp 7), none⟩,
  ⟨some 65, .nilchk (.tmp 59), none⟩,
  ⟨some 66, .faddr (.tmp 65) 0, none⟩,
  ⟨none, .store 1 (.tmp 66) (.tmp 62), none⟩,
  ⟨some 67, .nilchk (.tmp 60), none⟩,
  ⟨some 68, .faddr (.tmp 67) 1, none⟩,
  ⟨none, .store 1 (.tmp 68) (.tmp 63), none⟩,
  ⟨some 69, .nilchk (.tmp 61), none⟩,
  ⟨some 70, .faddr (.tmp 69) 2, none⟩,
  ⟨none, .store 16 (.tmp 70) (.tmp 64), none⟩] [(5, 8), (5, 11)])
(.seq (.region [⟨some 71, .load false 1 (.tmp 12), none⟩,
  ⟨some 72, .mv (.tmp 10), none⟩,
  ⟨some 73, .mv (.tmp 11), none⟩,
  ⟨some 74, .call 57 [(.tmp 71), (.tmp 72), (.tmp 73)], none⟩,
  ⟨some 75, .load false 19 (.tmp 14), none⟩,
  ⟨none, .store 1 (.tmp 8) (.tmp 74), none⟩,
  ⟨none, .store 19 (.tmp 9) (.tmp 75), none⟩] [(3, 4), (4, 5)])
.ret))))))))), [.cell 8 false 1, .cell 9 false 19], true, none, false⟩
def f69 : AFun := ⟨12, (.seq (.region [⟨some 6, .mv (.con (.int .i64 0)), none⟩] [])
(.seq (.region [⟨some 7, .mv (.tmp 0), none⟩,
  ⟨some 8, .mv (.tmp 1), none⟩,
  ⟨some 9, .mx [(.tmp 7), (.tmp 8)], none⟩,
  ⟨some 10, .mv (.tmp 2), none⟩,
  ⟨some 11, .mn [(.tmp 9), (.tmp 10)], none⟩,
  ⟨some 6, .mv (.tmp 11), none⟩] [])
.ret)), [.tmp 6], true, none, false⟩
def f70 : AFun := ⟨19, (.seq (.region [⟨some 4, .mv (.con (.int .i64 0)), none⟩] [])
(.seq (.seq (.region [⟨some 6, .mv (.tmp 0), none⟩,
   ⟨some 7, .len (.tmp 6), none⟩,
   ⟨some 8, .mv (.con (.int .i64 0)), none⟩] [])
 (.block 0 (.loop (.seq (.region [⟨some 9, .bin .lss (.tmp 8) (.tmp 7), none⟩] [])
   (.seq (.cond (.tmp 9)
     .skip
     (.exit 0))
   (.seq (.block 1 (.seq (.region [⟨some 10, .mv (.tmp 8), none⟩,
       ⟨some 5, .mv (.tmp 10), none⟩] [])
     (.seq (.region [⟨some 11, .mv (.tmp 1), none⟩,
       ⟨some 12, .mv (.tmp 0), none⟩,
       ⟨some 13, .mv (.tmp 5), none⟩,
       ⟨some 14, .isl 19 (.tmp 12) (.tmp 13), none⟩,
       ⟨some 15, .load false 19 (.tmp 14), none⟩,
       ⟨some 16, .callv (.tmp 11) [(.tmp 15)], none⟩] [])
     (.cond (.tmp 16)
      (.seq (.region [⟨some 17, .mv (.tmp 5), none⟩,
        ⟨some 4, .mv (.tmp 17), none⟩] [])
      .ret)
      .skip))))
   (.region [⟨some 18, .bin .add (.tmp 8) (.con (.int .i64 1)), none⟩,
    ⟨some 8, .mv (.tmp 18), none⟩] [])))))))
(.seq (.region [⟨some 4, .mv (.con (.int .i64 (-1))), none⟩] [])
.ret))), [.tmp 4], false, none, false⟩
def f71 : AFun := ⟨16, (.seq (.region [⟨some 2, .box (.tmp 0), none⟩,
  ⟨some 4, .mv (.con (.imm true 0 [])), none⟩] [])
(.seq (.seq (.region [⟨some 5, .faddr (.tmp 2) 0, none⟩,
   ⟨some 6, .load true 1 (.tmp 5), none⟩,
   ⟨some 7, .len (.tmp 6), none⟩,
   ⟨some 8, .bin .eql (.tmp 7) (.con (.int .i64 0)), none⟩] [])
 (.cond (.tmp 8)
  (.seq (.region [⟨some 4, .mv (.con (.imm true 0 [])), none⟩] [])
  .ret)
  .skip))
(.seq (.region [⟨some 9, .faddr (.tmp 2) 0, none⟩,
  ⟨some 10, .load true 1 (.tmp 9), none⟩,
  ⟨some 11, .load false 1 (.tmp 2), none⟩,
  ⟨some 12, .mv (.tmp 1), none⟩,
  ⟨some 13, .call 73 [(.tmp 11), (.tmp 12)], none⟩,
  ⟨some 14, .isl 1 (.tmp 10) (.tmp 13), none⟩,
  ⟨some 15, .load true 1 (.tmp 14), none⟩,
  ⟨some 4, .mv (.tmp 15), none⟩] [(1, 4)])
.ret))), [.tmp 4], true, none, false⟩
def f72 : AFun := ⟨13, (.seq (.region [⟨some 2, .box (.tmp 0), none⟩,
  ⟨some 3, .mv (.con (.bool false)), none⟩] [])
(.seq (.region [⟨some 4, .faddr (.tmp 2) 1, none⟩,
  ⟨some 5, .load true 1 (.tmp 4), none⟩,
  ⟨some 6, .load true 1 (.tmp 1), none⟩,
  ⟨some 7, .bin .eql (.tmp 5) (.tmp 6), none⟩,
  ⟨some 8, .mv (.tmp 7), none⟩,
  ⟨some 9, .faddr (.tmp 2) 0, some (8, true)⟩,
  ⟨some 10, .load true 1 (.tmp 9), some (8, true)⟩,
  ⟨some 11, .bin .neq (.tmp 10) (.con (.int .i64 0)), some (8, true)⟩,
  ⟨some 12, .pick (.tmp 8) (.tmp 11) (.con (.bool false)), none⟩,
  ⟨some 3, .mv (.tmp 12), none⟩] [])
.ret)), [.tmp 3], false, none, false⟩
def f73 : AFun := ⟨17, (.seq (.region [⟨some 2, .box (.tmp 0), none⟩,
  ⟨some 4, .mv (.con (.int .i64 0)), none⟩] [])
(.seq (.seq (.region [⟨some 5, .faddr (.tmp 2) 0, none⟩,
   ⟨some 6, .load true 1 (.tmp 5), none⟩,
   ⟨some 7, .len (.tmp 6), none⟩,
   ⟨some 8, .bin .eql (.tmp 7) (.con (.int .i64 0)), none⟩] [])
 (.cond (.tmp 8)
  (.seq (.region [⟨some 4, .mv (.con (.int .i64 0)), none⟩] [])
  .ret)
  .skip))
(.seq (.region [⟨some 9, .mv (.tmp 1), none⟩,
  ⟨some 10, .conv .u64 (.tmp 9), none⟩,
  ⟨some 11, .faddr (.tmp 2) 0, none⟩,
  ⟨some 12, .load true 1 (.tmp 11), none⟩,
  ⟨some 13, .len (.tmp 12), none⟩,
  ⟨some 14, .conv .u64 (.tmp 13), none⟩,
  ⟨some 15, .bin .rem (.tmp 10) (.tmp 14), none⟩,
  ⟨some 16, .conv .i64 (.tmp 15), none⟩,
  ⟨some 4, .mv (.tmp 16), none⟩] [])
.ret))), [.tmp 4], true, none, false⟩
def f74 : AFun := ⟨7, (.seq (.region [⟨some 2, .mv (.con (.int .i64 0)), none⟩] [])
(.seq (.seq (.region [⟨some 3, .mv (.tmp 0), none⟩,
   ⟨some 4, .call 76 [(.tmp 3)], none⟩,
   ⟨some 5, .un .not (.tmp 4), none⟩] [])
 (.cond (.tmp 5)
  (.seq (.region [⟨some 2, .mv (.con (.int .i64 0)), none⟩] [])
  .ret)
  .skip))
(.seq (.region [⟨some 6, .mv (.tmp 0), none⟩,
  ⟨some 2, .mv (.tmp 6), none⟩] [])
.ret))), [.tmp 2], true, none, false⟩
def f75 : AFun := ⟨56, (.seq (.region [⟨some 2, .box (.tmp 0), none⟩,
  ⟨some 4, .mv (.con (.int .i64 0)), none⟩,
  ⟨some 5, .mv (.con (.int .i64 0)), none⟩] [])
(.seq (.region [⟨some 14, .load false 1 (.tmp 2), none⟩,
  ⟨some 15, .mv (.tmp 1), none⟩,
  ⟨some 16, .call 71 [(.tmp 14), (.tmp 15)], none⟩,
  ⟨some 6, .mv (.tmp 16), none⟩] [])
(.seq (.seq (.region [⟨some 18, .load false 1 (.tmp 2), none⟩,
   ⟨some 19, .mv (.tmp 1), none⟩,
   ⟨some 20, .call 56 [(.tmp 18), (.tmp 19)], none⟩,
   ⟨some 17, .mv (.tmp 20), none⟩,
   ⟨some 21, .extract (.tmp 17) 0, none⟩,
   ⟨some 22, .extract (.tmp 17) 1, none⟩,
   ⟨some 23, .extract (.tmp 17) 2, none⟩,
   ⟨some 7, .mv (.tmp 21), none⟩,
   ⟨some 8, .mv (.tmp 22), none⟩,
   ⟨some 9, .mv (.tmp 23), none⟩] [])
 (.seq (.region [⟨some 24, .mv (.tmp 9), none⟩] [])
 (.cond (.tmp 24)
  (.seq (.region [⟨some 25, .mv (.tmp 7), none⟩,
    ⟨some 26, .mv (.tmp 8), none⟩,
    ⟨some 4, .mv (.tmp 25), none⟩,
    ⟨some 5, .mv (.tmp 26), none⟩] [])
  .ret)
  .skip)))
(.seq (.seq (.region [⟨some 27, .mv (.tmp 6), none⟩,
   ⟨some 28, .call 70 [(.tmp 27), (.con (.fn 77 [] []))], none⟩,
   ⟨some 10, .mv (.tmp 28), none⟩] [])
 (.seq (.region [⟨some 29, .mv (.tmp 10), none⟩,
   ⟨some 30, .bin .geq (.tmp 29) (.con (.int .i64 0)), none⟩] [])
 (.cond (.tmp 30)
  (.seq (.region [⟨some 31, .load false 1 (.tmp 2), none⟩,
    ⟨some 32, .mv (.tmp 1), none⟩,
    ⟨some 33, .call 73 [(.tmp 31), (.tmp 32)], none⟩,
    ⟨some 34, .mv (.tmp 10), none⟩,
    ⟨some 4, .mv (.tmp 33), none⟩,
    ⟨some 5, .mv (.tmp 34), none⟩] [])
  .ret)
  .skip)))
(.seq (.region [⟨some 11, .mv (.con (.int .i64 0)), none⟩] [])
(.seq (.seq (.region [⟨some 35, .mv (.tmp 6), none⟩,
   ⟨some 36, .len (.tmp 35), none⟩,
   ⟨some 37, .mv (.con (.int .i64 0)), none⟩] [])
 (.block 0 (.loop (.seq (.region [⟨some 38, .bin .lss (.tmp 37) (.tmp 36), none⟩] [])
   (.seq (.cond (.tmp 38)
     .skip
     (.exit 0))
   (.seq (.block 1 (.seq (.region [⟨some 39, .mv (.tmp 37), none⟩,
       ⟨some 40, .isl 19 (.tmp 35) (.tmp 37), none⟩,
       ⟨some 41, .load false 19 (.tmp 40), none⟩,
       ⟨some 13, .alloc [(.int .i64 0), (.int .u32 0), (.int .u8 0), (.int .u8 0), (.int .u8 0), (.int .u8 0), (.int .u8 0), (.int .u8 0), (.int .u8 0), (.int .u8 0), (.int .u8 0), (.int .u8 0), (.int .u8 0), (.int .u8 0), (.int .u8 0), (.int .u8 0), (.int .u8 0), (.int .u8 0), (.int .i64 0)], none⟩,
       ⟨some 12, .mv (.tmp 39), none⟩,
       ⟨none, .store 19 (.tmp 13) (.tmp 41), none⟩] [])
     (.seq (.region [⟨some 42, .faddr (.tmp 13) 18, none⟩,
       ⟨some 43, .load true 1 (.tmp 42), none⟩,
       ⟨some 44, .mv (.tmp 6), none⟩,
       ⟨some 45, .mv (.tmp 11), none⟩,
       ⟨some 46, .isl 19 (.tmp 44) (.tmp 45), none⟩,
       ⟨some 47, .faddr (.tmp 46) 18, none⟩,
       ⟨some 48, .load true 1 (.tmp 47), none⟩,
       ⟨some 49, .bin .gtr (.tmp 43) (.tmp 48), none⟩] [])
     (.cond (.tmp 49)
      (.region [⟨some 50, .mv (.tmp 12), none⟩,
       ⟨some 11, .mv (.tmp 50), none⟩] [])
      .skip))))
   (.region [⟨some 51, .bin .add (.tmp 37) (.con (.int .i64 1)), none⟩,
    ⟨some 37, .mv (.tmp 51), none⟩] [])))))))
(.seq (.region [⟨some 52, .load false 1 (.tmp 2), none⟩,
  ⟨some 53, .mv (.tmp 1), none⟩,
  ⟨some 54, .call 73 [(.tmp 52), (.tmp 53)], none⟩,
  ⟨some 55, .mv (.tmp 11), none⟩,
  ⟨some 4, .mv (.tmp 54), none⟩,
  ⟨some 5, .mv (.tmp 55), none⟩] [])
.ret))))))), [.tmp 4, .tmp 5], true, none, false⟩
def f76 : AFun := ⟨9, (.seq (.region [⟨some 2, .mv (.con (.bool false)), none⟩] [])
(.seq (.region [⟨some 3, .mv (.tmp 0), none⟩,
  ⟨some 4, .bin .geq (.tmp 3) (.con (.int .i64 0)), none⟩,
  ⟨some 5, .mv (.tmp 4), none⟩,
  ⟨some 6, .mv (.tmp 0), some (5, true)⟩,
  ⟨some 7, .bin .leq (.tmp 6) (.con (.int .i64 3)), some (5, true)⟩,
  ⟨some 8, .pick (.tmp 5) (.tmp 7) (.con (.bool false)), none⟩,
  ⟨some 2, .mv (.tmp 8), none⟩] [])
.ret)), [.tmp 2], true, none, false⟩
def f77 : AFun := ⟨6, (.seq (.region [⟨some 1, .box (.tmp 0), none⟩,
  ⟨some 2, .mv (.con (.bool false)), none⟩] [])
(.seq (.region [⟨some 3, .faddr (.tmp 1) 0, none⟩,
  ⟨some 4, .load true 1 (.tmp 3), none⟩,
  ⟨some 5, .bin .eql (.tmp 4) (.con (.int .i64 0)), none⟩,
  ⟨some 2, .mv (.tmp 5), none⟩] [])
.ret)), [.tmp 2], false, none, false⟩
-- CLONE 29 29
-- CLONE 55 55
-- CLONE 67 74
-- CLONE 68 77
def f29 : AFun := ⟨0, .skip, [], true, some (1, 1), false⟩
def f55 : AFun := ⟨0, .skip, [], true, some (1, 24), false⟩
def f67 : AFun := ⟨0, .skip, [], true, some (1, 24), false⟩
def f68 : AFun := ⟨0, .skip, [], true, some (19, 40), false⟩
end Fn
open Fn
theorem autos : True ∧ f10.auto = true ∧ f22.auto = true ∧ f30.auto = false ∧ f31.auto = false ∧ f33.auto = false ∧ f34.auto = false ∧ f35.auto = true ∧ f53.auto = false ∧ f62.auto = true ∧ f70.auto = false ∧ f72.auto = false ∧ f77.auto = false := ⟨trivial, rfl, rfl, rfl, rfl, rfl, rfl, rfl, rfl, rfl, rfl, rfl, rfl⟩
def ap : AProg
  | 3 => some f3
  | 4 => some f4
  | 5 => some f5
  | 6 => some f6
  | 7 => some f7
  | 8 => some f8
  | 9 => some f9
  | 10 => some f10
  | 11 => some f11
  | 12 => some f12
  | 13 => some f13
  | 14 => some f14
  | 15 => some f15
  | 16 => some f16
  | 17 => some f17
  | 18 => some f18
  | 19 => some f19
  | 20 => some f20
  | 21 => some f21
  | 22 => some f22
  | 23 => some f23
  | 24 => some f24
  | 25 => some f25
  | 26 => some f26
  | 27 => some f27
  | 28 => some f28
  | 29 => some f29
  | 30 => some f30
  | 31 => some f31
  | 32 => some f32
  | 33 => some f33
  | 34 => some f34
  | 35 => some f35
  | 36 => some f36
  | 37 => some f37
  | 38 => some f38
  | 39 => some f39
  | 40 => some f40
  | 41 => some f41
  | 42 => some f42
  | 43 => some f43
  | 44 => some f44
  | 45 => some f45
  | 46 => some f46
  | 47 => some f47
  | 48 => some f48
  | 49 => some f49
  | 50 => some f50
  | 51 => some f51
  | 52 => some f52
  | 53 => some f53
  | 54 => some f54
  | 55 => some f55
  | 56 => some f56
  | 57 => some f57
  | 58 => some f58
  | 59 => some f59
  | 60 => some f60
  | 61 => some f61
  | 62 => some f62
  | 63 => some f63
  | 64 => some f64
  | 65 => some f65
  | 66 => some f66
  | 67 => some f67
  | 68 => some f68
  | 69 => some f69
  | 70 => some f70
  | 71 => some f71
  | 72 => some f72
  | 73 => some f73
  | 74 => some f74
  | 75 => some f75
  | 76 => some f76
  | 77 => some f77
  | _ => none
theorem ok3 : FnOk Try.prog 3 f3 := fnOk_of (fn := Try.f3) Try.func3 (by kernel_rfl) rfl (by kernel_rfl) rfl (by kernel_rfl) rfl
theorem ok4 : FnOk Try.prog 4 f4 := fnOk_of (fn := Try.f4) Try.func4 (by kernel_rfl) rfl (by kernel_rfl) rfl (by kernel_rfl) rfl
theorem ok5 : FnOk Try.prog 5 f5 := fnOk_of (fn := Try.f5) Try.func5 (by kernel_rfl) rfl (by kernel_rfl) rfl (by kernel_rfl) rfl
theorem ok6 : FnOk Try.prog 6 f6 := fnOk_of (fn := Try.f6) Try.func6 (by kernel_rfl) rfl (by kernel_rfl) rfl (by kernel_rfl) rfl
theorem ok7 : FnOk Try.prog 7 f7 := fnOk_of (fn := Try.f7) Try.func7 (by kernel_rfl) rfl (by kernel_rfl) rfl (by kernel_rfl) rfl
theorem ok8 : FnOk Try.prog 8 f8 := fnOk_of (fn := Try.f8) Try.func8 (by kernel_rfl) rfl (by kernel_rfl) rfl (by kernel_rfl) rfl
theorem ok9 : FnOk Try.prog 9 f9 := fnOk_of (fn := Try.f9) Try.func9 (by kernel_rfl) rfl (by kernel_rfl) rfl (by kernel_rfl) rfl
theorem ok10 : FnOk Try.prog 10 f10 := fnOk_of (fn := Try.f10) Try.func10 (by kernel_rfl) rfl (by kernel_rfl) rfl (by kernel_rfl) rfl
theorem ok11 : FnOk Try.prog 11 f11 := fnOk_of (fn := Try.f11) Try.func11 (by kernel_rfl) rfl (by kernel_rfl) rfl (by kernel_rfl) rfl
theorem ok12 : FnOk Try.prog 12 f12 := fnOk_of (fn := Try.f12) Try.func12 (by kernel_rfl) rfl (by kernel_rfl) rfl (by kernel_rfl) rfl
theorem ok13 : FnOk Try.prog 13 f13 := fnOk_of (fn := Try.f13) Try.func13 (by kernel_rfl) rfl (by kernel_rfl) rfl (by kernel_rfl) rfl
theorem ok14 : FnOk Try.prog 14 f14 := fnOk_of (fn := Try.f14) Try.func14 (by kernel_rfl) rfl (by kernel_rfl) rfl (by kernel_rfl) rfl
theorem ok15 : FnOk Try.prog 15 f15 := fnOk_of (fn := Try.f15) Try.func15 (by kernel_rfl) rfl (by kernel_rfl) rfl (by kernel_rfl) rfl
theorem ok16 : FnOk Try.prog 16 f16 := fnOk_of (fn := Try.f16) Try.func16 (by kernel_rfl) rfl (by kernel_rfl) rfl (by kernel_rfl) rfl
theorem ok17 : FnOk Try.prog 17 f17 := fnOk_of (fn := Try.f17) Try.func17 (by kernel_rfl) rfl (by kernel_rfl) rfl (by kernel_rfl) rfl
theorem ok18 : FnOk Try.prog 18 f18 := fnOk_of (fn := Try.f18) Try.func18 (by kernel_rfl) rfl (by kernel_rfl) rfl (by kernel_rfl) rfl
theorem ok19 : FnOk Try.prog 19 f19 := fnOk_of (fn := Try.f19) Try.func19 (by kernel_rfl) rfl (by kernel_rfl) rfl (by kernel_rfl) rfl
theorem ok20 : FnOk Try.prog 20 f20 := fnOk_of (fn := Try.f20) Try.func20 (by kernel_rfl) rfl (by kernel_rfl) rfl (by kernel_rfl) rfl
theorem ok21 : FnOk Try.prog 21 f21 := fnOk_of (fn := Try.f21) Try.func21 (by kernel_rfl) rfl (by kernel_rfl) rfl (by kernel_rfl) rfl
theorem ok22 : FnOk Try.prog 22 f22 := fnOk_of (fn := Try.f22) Try.func22 (by kernel_rfl) rfl (by kernel_rfl) rfl (by kernel_rfl) rfl
theorem ok23 : FnOk Try.prog 23 f23 := fnOk_of (fn := Try.f23) Try.func23 (by kernel_rfl) rfl (by kernel_rfl) rfl (by kernel_rfl) rfl
theorem ok24 : FnOk Try.prog 24 f24 := fnOk_of (fn := Try.f24) Try.func24 (by kernel_rfl) rfl (by kernel_rfl) rfl (by kernel_rfl) rfl
theorem ok25 : FnOk Try.prog 25 f25 := fnOk_of (fn := Try.f25) Try.func25 (by kernel_rfl) rfl (by kernel_rfl) rfl (by kernel_rfl) rfl
theorem ok26 : FnOk Try.prog 26 f26 := fnOk_of (fn := Try.f26) Try.func26 (by kernel_rfl) rfl (by kernel_rfl) rfl (by kernel_rfl) rfl
theorem ok27 : FnOk Try.prog 27 f27 := fnOk_of (fn := Try.f27) Try.func27 (by kernel_rfl) rfl (by kernel_rfl) rfl (by kernel_rfl) rfl
theorem ok28 : FnOk Try.prog 28 f28 := fnOk_of (fn := Try.f28) Try.func28 (by kernel_rfl) rfl (by kernel_rfl) rfl (by kernel_rfl) rfl
theorem ok29 : FnOk Try.prog 29 f29 := .inl ⟨_, _, rfl, rfl, clone_ok2 Try.func29 rfl ⟨rfl, rfl, rfl⟩ ⟨rfl, rfl, rfl⟩ ⟨rfl, rfl, rfl⟩ ⟨rfl, rfl, rfl⟩ ⟨rfl, rfl, rfl⟩ ⟨rfl, rfl, rfl⟩ ⟨rfl, rfl, rfl⟩ ⟨rfl, rfl, rfl⟩ rfl rfl Try.underlying29 (by kernel_rfl) (by kernel_rfl), Try.f29, Try.func29, by kernel_rfl, rfl⟩
theorem ok30 : FnOk Try.prog 30 f30 := fnOk_of (fn := Try.f30) Try.func30 (by kernel_rfl) rfl (by kernel_rfl) rfl (by kernel_rfl) rfl
theorem ok31 : FnOk Try.prog 31 f31 := fnOk_of (fn := Try.f31) Try.func31 (by kernel_rfl) rfl (by kernel_rfl) rfl (by kernel_rfl) rfl
theorem ok32 : FnOk Try.prog 32 f32 := fnOk_of (fn := Try.f32) Try.func32 (by kernel_rfl) rfl (by kernel_rfl) rfl (by kernel_rfl) rfl
theorem ok33 : FnOk Try.prog 33 f33 := fnOk_of (fn := Try.f33) Try.func33 (by kernel_rfl) rfl (by kernel_rfl) rfl (by kernel_rfl) rfl
theorem ok34 : FnOk Try.prog 34 f34 := fnOk_of (fn := Try.f34) Try.func34 (by kernel_rfl) rfl (by kernel_rfl) rfl (by kernel_rfl) rfl
theorem ok35 : FnOk Try.prog 35 f35 := fnOk_of (fn := Try.f35) Try.func35 (by kernel_rfl) rfl (by kernel_rfl) rfl (by kernel_rfl) rfl
theorem ok36 : FnOk Try.prog 36 f36 := fnOk_of (fn := Try.f36) Try.func36 (by kernel_rfl) rfl (by kernel_rfl) rfl (by kernel_rfl) rfl
theorem ok37 : FnOk Try.prog 37 f37 := fnOk_of (fn := Try.f37) Try.func37 (by kernel_rfl) rfl (by kernel_rfl) rfl (by kernel_rfl) rfl
theorem ok38 : FnOk Try.prog 38 f38 := fnOk_of (fn := Try.f38) Try.func38 (by kernel_rfl) rfl (by kernel_rfl) rfl (by kernel_rfl) rfl
theorem ok39 : FnOk Try.prog 39 f39 := fnOk_of (fn := Try.f39) Try.func39 (by kernel_rfl) rfl (by kernel_rfl) rfl (by kernel_rfl) rfl
theorem ok40 : FnOk Try.prog 40 f40 := fnOk_of (fn := Try.f40) Try.func40 (by kernel_rfl) rfl (by kernel_rfl) rfl (by kernel_rfl) rfl
theorem ok41 : FnOk Try.prog 41 f41 := fnOk_of (fn := Try.f41) Try.func41 (by kernel_rfl) rfl (by kernel_rfl) rfl (by kernel_rfl) rfl
theorem ok42 : FnOk Try.prog 42 f42 := fnOk_of (fn := Try.f42) Try.func42 (by kernel_rfl) rfl (by kernel_rfl) rfl (by kernel_rfl) rfl
theorem ok43 : FnOk Try.prog 43 f43 := fnOk_of (fn := Try.f43) Try.func43 (by kernel_rfl) rfl (by kernel_rfl) rfl (by kernel_rfl) rfl
theorem ok44 : FnOk Try.prog 44 f44 := fnOk_of (fn := Try.f44) Try.func44 (by kernel_rfl) rfl (by kernel_rfl) rfl (by kernel_rfl) rfl
theorem ok45 : FnOk Try.prog 45 f45 := fnOk_of (fn := Try.f45) Try.func45 (by kernel_rfl) rfl (by kernel_rfl) rfl (by kernel_rfl) rfl
theorem ok46 : FnOk Try.prog 46 f46 := fnOk_of (fn := Try.f46) Try.func46 (by kernel_rfl) rfl (by kernel_rfl) rfl (by kernel_rfl) rfl
theorem ok47 : FnOk Try.prog 47 f47 := fnOk_of (fn := Try.f47) Try.func47 (by kernel_rfl) rfl (by kernel_rfl) rfl (by kernel_rfl) rfl
theorem ok48 : FnOk Try.prog 48 f48 := fnOk_of (fn := Try.f48) Try.func48 (by kernel_rfl) rfl (by kernel_rfl) rfl (by kernel_rfl) rfl
theorem ok49 : FnOk Try.prog 49 f49 := fnOk_of (fn := Try.f49) Try.func49 (by kernel_rfl) rfl (by kernel_rfl) rfl (by kernel_rfl) rfl
theorem ok50 : FnOk Try.prog 50 f50 := fnOk_of (fn := Try.f50) Try.func50 (by kernel_rfl) rfl (by kernel_rfl) rfl (by kernel_rfl) rfl
theorem ok51 : FnOk Try.prog 51 f51 := fnOk_of (fn := Try.f51) Try.func51 (by kernel_rfl) rfl (by kernel_rfl) rfl (by kernel_rfl) rfl
theorem ok52 : FnOk Try.prog 52 f52 := fnOk_of (fn := Try.f52) Try.func52 (by kernel_rfl) rfl (by kernel_rfl) rfl (by kernel_rfl) rfl
theorem ok53 : FnOk Try.prog 53 f53 := fnOk_of (fn := Try.f53) Try.func53 (by kernel_rfl) rfl (by kernel_rfl) rfl (by kernel_rfl) rfl
theorem ok54 : FnOk Try.prog 54 f54 := fnOk_of (fn := Try.f54) Try.func54 (by kernel_rfl) rfl (by kernel_rfl) rfl (by kernel_rfl) rfl
theorem ok55 : FnOk Try.prog 55 f55 := .inl ⟨_, _, rfl, rfl, clone_ok2 Try.func55 rfl ⟨rfl, rfl, rfl⟩ ⟨rfl, rfl, rfl⟩ ⟨rfl, rfl, rfl⟩ ⟨rfl, rfl, rfl⟩ ⟨rfl, rfl, rfl⟩ ⟨rfl, rfl, rfl⟩ ⟨rfl, rfl, rfl⟩ ⟨rfl, rfl, rfl⟩ rfl rfl Try.underlying55 (by kernel_rfl) (by kernel_rfl), Try.f55, Try.func55, by kernel_rfl, rfl⟩
theorem ok56 : FnOk Try.prog 56 f56 := fnOk_of (fn := Try.f56) Try.func56 (by kernel_rfl) rfl (by kernel_rfl) rfl (by kernel_rfl) rfl
theorem ok57 : FnOk Try.prog 57 f57 := fnOk_of (fn := Try.f57) Try.func57 (by kernel_rfl) rfl (by kernel_rfl) rfl (by kernel_rfl) rfl
theorem ok58 : FnOk Try.prog 58 f58 := fnOk_of (fn := Try.f58) Try.func58 (by kernel_rfl) rfl (by kernel_rfl) rfl (by kernel_rfl) rfl
theorem ok59 : FnOk Try.prog 59 f59 := fnOk_of (fn := Try.f59) Try.func59 (by kernel_rfl) rfl (by kernel_rfl) rfl (by kernel_rfl) rfl
theorem ok60 : FnOk Try.prog 60 f60 := fnOk_of (fn := Try.f60) Try.func60 (by kernel_rfl) rfl (by kernel_rfl) rfl (by kernel_rfl) rfl
theorem ok61 : FnOk Try.prog 61 f61 := fnOk_of (fn := Try.f61) Try.func61 (by kernel_rfl) rfl (by kernel_rfl) rfl (by kernel_rfl) rfl
theorem ok62 : FnOk Try.prog 62 f62 := fnOk_of (fn := Try.f62) Try.func62 (by kernel_rfl) rfl (by kernel_rfl) rfl (by kernel_rfl) rfl
theorem ok63 : FnOk Try.prog 63 f63 := fnOk_of (fn := Try.f63) Try.func63 (by kernel_rfl) rfl (by kernel_rfl) rfl (by kernel_rfl) rfl
theorem ok64 : FnOk Try.prog 64 f64 := fnOk_of (fn := Try.f64) Try.func64 (by kernel_rfl) rfl (by kernel_rfl) rfl (by kernel_rfl) rfl
theorem ok65 : FnOk Try.prog 65 f65 := fnOk_of (fn := Try.f65) Try.func65 (by kernel_rfl) rfl (by kernel_rfl) rfl (by kernel_rfl) rfl
theorem ok66 : FnOk Try.prog 66 f66 := fnOk_of (fn := Try.f66) Try.func66 (by kernel_rfl) rfl (by kernel_rfl) rfl (by kernel_rfl) rfl
theorem ok67 : FnOk Try.prog 67 f67 := .inl ⟨_, _, rfl, rfl, clone_ok2 Try.func67 rfl ⟨rfl, rfl, rfl⟩ ⟨rfl, rfl, rfl⟩ ⟨rfl, rfl, rfl⟩ ⟨rfl, rfl, rfl⟩ ⟨rfl, rfl, rfl⟩ ⟨rfl, rfl, rfl⟩ ⟨rfl, rfl, rfl⟩ ⟨rfl, rfl, rfl⟩ rfl rfl Try.underlying74 (by kernel_rfl) (by kernel_rfl), Try.f67, Try.func67, by kernel_rfl, rfl⟩
theorem ok68 : FnOk Try.prog 68 f68 := .inl ⟨_, _, rfl, rfl, clone_ok2 Try.func68 rfl ⟨rfl, rfl, rfl⟩ ⟨rfl, rfl, rfl⟩ ⟨rfl, rfl, rfl⟩ ⟨rfl, rfl, rfl⟩ ⟨rfl, rfl, rfl⟩ ⟨rfl, rfl, rfl⟩ ⟨rfl, rfl, rfl⟩ ⟨rfl, rfl, rfl⟩ rfl rfl Try.underlying77 (by kernel_rfl) (by kernel_rfl), Try.f68, Try.func68, by kernel_rfl, rfl⟩
theorem ok69 : FnOk Try.prog 69 f69 := fnOk_of (fn := Try.f69) Try.func69 (by kernel_rfl) rfl (by kernel_rfl) rfl (by kernel_rfl) rfl
theorem ok70 : FnOk Try.prog 70 f70 := fnOk_of (fn := Try.f70) Try.func70 (by kernel_rfl) rfl (by kernel_rfl) rfl (by kernel_rfl) rfl
theorem ok71 : FnOk Try.prog 71 f71 := fnOk_of (fn := Try.f71) Try.func71 (by kernel_rfl) rfl (by kernel_rfl) rfl (by kernel_rfl) rfl
theorem ok72 : FnOk Try.prog 72 f72 := fnOk_of (fn := Try.f72) Try.func72 (by kernel_rfl) rfl (by kernel_rfl) rfl (by kernel_rfl) rfl
theorem ok73 : FnOk Try.prog 73 f73 := fnOk_of (fn := Try.f73) Try.func73 (by kernel_rfl) rfl (by kernel_rfl) rfl (by kernel_rfl) rfl
theorem ok74 : FnOk Try.prog 74 f74 := fnOk_of (fn := Try.f74) Try.func74 (by kernel_rfl) rfl (by kernel_rfl) rfl (by kernel_rfl) rfl
theorem ok75 : FnOk Try.prog 75 f75 := fnOk_of (fn := Try.f75) Try.func75 (by kernel_rfl) rfl (by kernel_rfl) rfl (by kernel_rfl) rfl
theorem ok76 : FnOk Try.prog 76 f76 := fnOk_of (fn := Try.f76) Try.func76 (by kernel_rfl) rfl (by kernel_rfl) rfl (by kernel_rfl) rfl
theorem ok77 : FnOk Try.prog 77 f77 := fnOk_of (fn := Try.f77) Try.func77 (by kernel_rfl) rfl (by kernel_rfl) rfl (by kernel_rfl) rfl
theorem ap_ok : ∀ f F, ap f = some F → FnOk Try.prog f F := by
  intro f F h
  unfold ap at h
  split at h
  · obtain rfl := Option.some.inj h; exact ok3
  · obtain rfl := Option.some.inj h; exact ok4
  · obtain rfl := Option.some.inj h; exact ok5
  · obtain rfl := Option.some.inj h; exact ok6
  · obtain rfl := Option.some.inj h; exact ok7
  · obtain rfl := Option.some.inj h; exact ok8
  · obtain rfl := Option.some.inj h; exact ok9
  · obtain rfl := Option.some.inj h; exact ok10
  · obtain rfl := Option.some.inj h; exact ok11
  · obtain rfl := Option.some.inj h; exact ok12
  · obtain rfl := Option.some.inj h; exact ok13
  · obtain rfl := Option.some.inj h; exact ok14
  · obtain rfl := Option.some.inj h; exact ok15
  · obtain rfl := Option.some.inj h; exact ok16
  · obtain rfl := Option.some.inj h; exact ok17
  · obtain rfl := Option.some.inj h; exact ok18
  · obtain rfl := Option.some.inj h; exact ok19
  · obtain rfl := Option.some.inj h; exact ok20
  · obtain rfl := Option.some.inj h; exact ok21
  · obtain rfl := Option.some.inj h; exact ok22
  · obtain rfl := Option.some.inj h; exact ok23
  · obtain rfl := Option.some.inj h; exact ok24
  · obtain rfl := Option.some.inj h; exact ok25
  · obtain rfl := Option.some.inj h; exact ok26
  · obtain rfl := Option.some.inj h; exact ok27
  · obtain rfl := Option.some.inj h; exact ok28
  · obtain rfl := Option.some.inj h; exact ok29
  · obtain rfl := Option.some.inj h; exact ok30
  · obtain rfl := Option.some.inj h; exact ok31
  · obtain rfl := Option.some.inj h; exact ok32
  · obtain rfl := Option.some.inj h; exact ok33
  · obtain rfl := Option.some.inj h; exact ok34
  · obtain rfl := Option.some.inj h; exact ok35
  · obtain rfl := Option.some.inj h; exact ok36
  · obtain rfl := Option.some.inj h; exact ok37
  · obtain rfl := Option.some.inj h; exact ok38
  · obtain rfl := Option.some.inj h; exact ok39
  · obtain rfl := Option.some.inj h; exact ok40
  · obtain rfl := Option.some.inj h; exact ok41
  · obtain rfl := Option.some.inj h; exact ok42
  · obtain rfl := Option.some.inj h; exact ok43
  · obtain rfl := Option.some.inj h; exact ok44
  · obtain rfl := Option.some.inj h; exact ok45
  · obtain rfl := Option.some.inj h; exact ok46
  · obtain rfl := Option.some.inj h; exact ok47
  · obtain rfl := Option.some.inj h; exact ok48
  · obtain rfl := Option.some.inj h; exact ok49
  · obtain rfl := Option.some.inj h; exact ok50
  · obtain rfl := Option.some.inj h; exact ok51
  · obtain rfl := Option.some.inj h; exact ok52
  · obtain rfl := Option.some.inj h; exact ok53
  · obtain rfl := Option.some.inj h; exact ok54
  · obtain rfl := Option.some.inj h; exact ok55
  · obtain rfl := Option.some.inj h; exact ok56
  · obtain rfl := Option.some.inj h; exact ok57
  · obtain rfl := Option.some.inj h; exact ok58
  · obtain rfl := Option.some.inj h; exact ok59
  · obtain rfl := Option.some.inj h; exact ok60
  · obtain rfl := Option.some.inj h; exact ok61
  · obtain rfl := Option.some.inj h; exact ok62
  · obtain rfl := Option.some.inj h; exact ok63
  · obtain rfl := Option.some.inj h; exact ok64
  · obtain rfl := Option.some.inj h; exact ok65
  · obtain rfl := Option.some.inj h; exact ok66
  · obtain rfl := Option.some.inj h; exact ok67
  · obtain rfl := Option.some.inj h; exact ok68
  · obtain rfl := Option.some.inj h; exact ok69
  · obtain rfl := Option.some.inj h; exact ok70
  · obtain rfl := Option.some.inj h; exact ok71
  · obtain rfl := Option.some.inj h; exact ok72
  · obtain rfl := Option.some.inj h; exact ok73
  · obtain rfl := Option.some.inj h; exact ok74
  · obtain rfl := Option.some.inj h; exact ok75
  · obtain rfl := Option.some.inj h; exact ok76
  · obtain rfl := Option.some.inj h; exact ok77
  · cases h
end Go.Proofs.Ytabfinhkoihhfaa.Abs
