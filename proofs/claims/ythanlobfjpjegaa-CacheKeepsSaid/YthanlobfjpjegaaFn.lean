/- The functions of the program, as the plain machine has them; each stands for the program's own. Written by this session's programs Comp.lean and genfn.py. -/
import Derived.Test.YthanlobfjpjegaaC3
import Derived.Test.YthanlobfjpjegaaProg
import Derived.KernelRfl
namespace Go.Proofs.Ythanlobfjpjegaa.Abs
open Go Go.RowKit
set_option linter.unusedVariables false
set_option maxRecDepth 100000
namespace Fn
/-- gosem.cut.init -/
def f2 : AFun := ⟨1, (.region [⟨some 0, .call 1 [], none⟩] []), [], true, none⟩
/-- cotterel/cotterellaw39.CacheNews -/
def f3 : AFun := ⟨34, (.seq (.region [⟨some 5, .box (.tmp 2), none⟩,
  ⟨some 6, .mv (.con (.bool false)), none⟩] [])
(.seq (.seq (.region [⟨some 8, .load false 1 (.tmp 5), none⟩,
   ⟨some 9, .call 8 [(.tmp 8)], none⟩,
   ⟨some 10, .un .not (.tmp 9), none⟩] [])
 (.cond (.tmp 10)
  (.seq (.region [⟨some 11, .call 9 [], none⟩,
    ⟨some 6, .mv (.tmp 11), none⟩] [])
  .ret)
  .skip))
(.seq (.region [⟨some 12, .mv (.tmp 0), none⟩,
  ⟨some 13, .mv (.tmp 1), none⟩,
  ⟨some 14, .call 10 [(.tmp 12), (.tmp 13)], none⟩,
  ⟨some 7, .alloc [(.imm true 0 [])], none⟩,
  ⟨none, .store 1 (.tmp 7) (.tmp 14), none⟩] [])
(.seq (.region [⟨some 15, .load false 1 (.tmp 7), none⟩,
  ⟨some 16, .mv (.tmp 0), none⟩,
  ⟨some 17, .mv (.tmp 1), none⟩,
  ⟨some 18, .call 12 [(.tmp 16), (.tmp 17)], none⟩,
  ⟨some 19, .call 11 [(.tmp 15), (.tmp 18)], none⟩,
  ⟨some 20, .mv (.tmp 19), none⟩,
  ⟨some 21, .load false 1 (.tmp 7), some (20, true)⟩,
  ⟨some 22, .call 13 [(.tmp 21)], some (20, true)⟩,
  ⟨some 23, .pick (.tmp 20) (.tmp 22) (.con (.bool false)), none⟩,
  ⟨some 24, .mv (.tmp 23), none⟩,
  ⟨some 25, .load false 1 (.tmp 5), some (24, true)⟩,
  ⟨some 26, .call 13 [(.tmp 25)], some (24, true)⟩,
  ⟨some 27, .load false 1 (.tmp 5), some (24, true)⟩,
  ⟨some 28, .call 14 [(.tmp 27)], some (24, true)⟩,
  ⟨some 29, .beq false (.tmp 26) (.tmp 28), some (24, true)⟩,
  ⟨some 30, .pick (.tmp 24) (.tmp 29) (.con (.bool false)), none⟩,
  ⟨some 31, .mv (.tmp 30), none⟩,
  ⟨some 32, .call 9 [], some (31, true)⟩,
  ⟨some 33, .pick (.tmp 31) (.tmp 32) (.con (.bool false)), none⟩,
  ⟨some 6, .mv (.tmp 33), none⟩] [(0, 3), (11, 12)])
.ret)))), [.tmp 6], true, none⟩
/-- cotterel/cotterellaw39.CacheFinds -/
def f4 : AFun := ⟨93, (.seq (.region [⟨some 3, .box (.tmp 0), none⟩,
  ⟨some 6, .mv (.con (.bool false)), none⟩] [])
(.seq (.seq (.region [⟨some 17, .load false 1 (.tmp 3), none⟩,
   ⟨some 18, .call 8 [(.tmp 17)], none⟩,
   ⟨some 19, .un .not (.tmp 18), none⟩] [])
 (.cond (.tmp 19)
  (.seq (.region [⟨some 20, .call 9 [], none⟩,
    ⟨some 6, .mv (.tmp 20), none⟩] [])
  .ret)
  .skip))
(.seq (.region [⟨some 22, .load false 1 (.tmp 3), none⟩,
  ⟨some 23, .mv (.tmp 1), none⟩,
  ⟨some 24, .call 15 [(.tmp 22), (.tmp 23)], none⟩,
  ⟨some 21, .mv (.tmp 24), none⟩,
  ⟨some 25, .extract (.tmp 21) 0, none⟩,
  ⟨some 26, .extract (.tmp 21) 1, none⟩,
  ⟨some 27, .extract (.tmp 21) 2, none⟩,
  ⟨some 7, .mv (.tmp 25), none⟩,
  ⟨some 8, .mv (.tmp 26), none⟩,
  ⟨some 9, .mv (.tmp 27), none⟩] [])
(.seq (.region [⟨some 29, .load false 1 (.tmp 3), none⟩,
  ⟨some 30, .mv (.tmp 1), none⟩,
  ⟨some 31, .call 16 [(.tmp 29), (.tmp 30)], none⟩,
  ⟨some 28, .mv (.tmp 31), none⟩,
  ⟨some 32, .extract (.tmp 28) 0, none⟩,
  ⟨some 33, .extract (.tmp 28) 1, none⟩,
  ⟨some 34, .extract (.tmp 28) 2, none⟩,
  ⟨some 10, .mv (.tmp 32), none⟩,
  ⟨some 11, .mv (.tmp 33), none⟩,
  ⟨some 12, .mv (.tmp 34), none⟩] [])
(.seq (.region [⟨some 36, .load false 1 (.tmp 3), none⟩,
  ⟨some 37, .mv (.tmp 1), none⟩,
  ⟨some 38, .call 17 [(.tmp 36), (.tmp 37)], none⟩,
  ⟨some 35, .mv (.tmp 38), none⟩,
  ⟨some 39, .extract (.tmp 35) 0, none⟩,
  ⟨some 40, .extract (.tmp 35) 1, none⟩,
  ⟨some 13, .mv (.tmp 39), none⟩,
  ⟨some 14, .mv (.tmp 40), none⟩] [])
(.seq (.region [⟨some 42, .load false 1 (.tmp 3), none⟩,
  ⟨some 43, .mv (.tmp 1), none⟩,
  ⟨some 44, .call 18 [(.tmp 42), (.tmp 43)], none⟩,
  ⟨some 41, .mv (.tmp 44), none⟩,
  ⟨some 45, .extract (.tmp 41) 0, none⟩,
  ⟨some 46, .extract (.tmp 41) 1, none⟩,
  ⟨some 15, .mv (.tmp 45), none⟩,
  ⟨some 16, .mv (.tmp 46), none⟩] [])
(.seq (.region [⟨some 47, .mv (.tmp 7), none⟩,
  ⟨some 48, .mv (.tmp 10), none⟩,
  ⟨some 49, .bin .eql (.tmp 47) (.tmp 48), none⟩,
  ⟨some 50, .mv (.tmp 49), none⟩,
  ⟨some 51, .mv (.tmp 8), some (50, true)⟩,
  ⟨some 52, .mv (.tmp 11), some (50, true)⟩,
  ⟨some 53, .bin .eql (.tmp 51) (.tmp 52), some (50, true)⟩,
  ⟨some 54, .pick (.tmp 50) (.tmp 53) (.con (.bool false)), none⟩,
  ⟨some 55, .mv (.tmp 54), none⟩,
  ⟨some 56, .mv (.tmp 9), some (55, true)⟩,
  ⟨some 57, .mv (.tmp 12), some (55, true)⟩,
  ⟨some 58, .beq false (.tmp 56) (.tmp 57), some (55, true)⟩,
  ⟨some 59, .pick (.tmp 55) (.tmp 58) (.con (.bool false)), none⟩,
  ⟨some 60, .mv (.tmp 59), none⟩,
  ⟨some 61, .mv (.tmp 13), some (60, true)⟩,
  ⟨some 62, .mv (.tmp 15), some (60, true)⟩,
  ⟨some 63, .bin .eql (.tmp 61) (.tmp 62), some (60, true)⟩,
  ⟨some 64, .pick (.tmp 60) (.tmp 63) (.con (.bool false)), none⟩,
  ⟨some 65, .mv (.tmp 64), none⟩,
  ⟨some 66, .mv (.tmp 14), some (65, true)⟩,
  ⟨some 67, .mv (.tmp 16), some (65, true)⟩,
  ⟨some 68, .bin .eql (.tmp 66) (.tmp 67), some (65, true)⟩,
  ⟨some 69, .pick (.tmp 65) (.tmp 68) (.con (.bool false)), none⟩,
  ⟨some 70, .mv (.tmp 69), none⟩,
  ⟨some 71, .load false 1 (.tmp 3), some (70, true)⟩,
  ⟨some 72, .mv (.tmp 15), some (70, true)⟩,
  ⟨some 73, .mv (.tmp 2), some (70, true)⟩,
  ⟨some 74, .call 19 [(.tmp 71), (.tmp 72), (.tmp 73)], some (70, true)⟩,
  ⟨some 75, .load false 1 (.tmp 3), some (70, true)⟩,
  ⟨some 76, .mv (.tmp 15), some (70, true)⟩,
  ⟨some 77, .mv (.tmp 2), some (70, true)⟩,
  ⟨some 78, .call 20 [(.tmp 75), (.tmp 76), (.tmp 77)], some (70, true)⟩,
  ⟨some 79, .call 11 [(.tmp 74), (.tmp 78)], some (70, true)⟩,
  ⟨some 80, .pick (.tmp 70) (.tmp 79) (.con (.bool false)), none⟩,
  ⟨some 81, .mv (.tmp 80), none⟩,
  ⟨some 82, .load false 1 (.tmp 3), some (81, true)⟩,
  ⟨some 83, .mv (.tmp 2), some (81, true)⟩,
  ⟨some 84, .call 19 [(.tmp 82), (.tmp 83), (.con (.int .i64 0))], some (81, true)⟩,
  ⟨some 85, .load false 1 (.tmp 3), some (81, true)⟩,
  ⟨some 86, .mv (.tmp 2), some (81, true)⟩,
  ⟨some 87, .call 20 [(.tmp 85), (.tmp 86), (.con (.int .i64 0))], some (81, true)⟩,
  ⟨some 88, .call 11 [(.tmp 84), (.tmp 87)], some (81, true)⟩,
  ⟨some 89, .pick (.tmp 81) (.tmp 88) (.con (.bool false)), none⟩,
  ⟨some 90, .mv (.tmp 89), none⟩,
  ⟨some 91, .call 9 [], some (90, true)⟩,
  ⟨some 92, .pick (.tmp 90) (.tmp 91) (.con (.bool false)), none⟩,
  ⟨some 6, .mv (.tmp 92), none⟩] [(27, 28), (37, 38)])
.ret))))))), [.tmp 6], true, none⟩
/-- cotterel/cotterellaw39.CacheReads -/
def f5 : AFun := ⟨78, (.seq (.region [⟨some 3, .box (.tmp 0), none⟩,
  ⟨some 4, .box (.tmp 1), none⟩,
  ⟨some 6, .mv (.con (.bool false)), none⟩] [])
(.seq (.seq (.region [⟨some 15, .load false 1 (.tmp 3), none⟩,
   ⟨some 16, .call 8 [(.tmp 15)], none⟩,
   ⟨some 17, .un .not (.tmp 16), none⟩] [])
 (.cond (.tmp 17)
  (.seq (.region [⟨some 18, .call 9 [], none⟩,
    ⟨some 6, .mv (.tmp 18), none⟩] [])
  .ret)
  .skip))
(.seq (.region [⟨some 20, .load false 1 (.tmp 3), none⟩,
  ⟨some 21, .faddr (.tmp 4) 0, none⟩,
  ⟨some 22, .load true 1 (.tmp 21), none⟩,
  ⟨some 23, .faddr (.tmp 4) 1, none⟩,
  ⟨some 24, .load true 1 (.tmp 23), none⟩,
  ⟨some 25, .call 21 [(.tmp 20), (.tmp 22), (.tmp 24)], none⟩,
  ⟨some 19, .mv (.tmp 25), none⟩,
  ⟨some 26, .extract (.tmp 19) 0, none⟩,
  ⟨some 27, .extract (.tmp 19) 1, none⟩,
  ⟨some 7, .mv (.tmp 26), none⟩,
  ⟨some 8, .mv (.tmp 27), none⟩] [])
(.seq (.region [⟨some 29, .load false 1 (.tmp 3), none⟩,
  ⟨some 30, .faddr (.tmp 4) 0, none⟩,
  ⟨some 31, .load true 1 (.tmp 30), none⟩,
  ⟨some 32, .faddr (.tmp 4) 1, none⟩,
  ⟨some 33, .load true 1 (.tmp 32), none⟩,
  ⟨some 34, .call 22 [(.tmp 29), (.tmp 31), (.tmp 33)], none⟩,
  ⟨some 28, .mv (.tmp 34), none⟩,
  ⟨some 35, .extract (.tmp 28) 0, none⟩,
  ⟨some 36, .extract (.tmp 28) 1, none⟩,
  ⟨some 9, .mv (.tmp 35), none⟩,
  ⟨some 10, .mv (.tmp 36), none⟩] [])
(.seq (.region [⟨some 38, .load false 1 (.tmp 3), none⟩,
  ⟨some 39, .faddr (.tmp 4) 0, none⟩,
  ⟨some 40, .load true 1 (.tmp 39), none⟩,
  ⟨some 41, .faddr (.tmp 4) 1, none⟩,
  ⟨some 42, .load true 1 (.tmp 41), none⟩,
  ⟨some 43, .mv (.tmp 2), none⟩,
  ⟨some 44, .call 23 [(.tmp 38), (.tmp 40), (.tmp 42), (.tmp 43)], none⟩,
  ⟨some 37, .mv (.tmp 44), none⟩,
  ⟨some 45, .extract (.tmp 37) 0, none⟩,
  ⟨some 46, .extract (.tmp 37) 1, none⟩,
  ⟨some 11, .alloc [(.imm true 0 [])], none⟩,
  ⟨none, .store 1 (.tmp 11) (.tmp 45), none⟩,
  ⟨some 12, .mv (.tmp 46), none⟩] [])
(.seq (.region [⟨some 48, .load false 1 (.tmp 3), none⟩,
  ⟨some 49, .faddr (.tmp 4) 0, none⟩,
  ⟨some 50, .load true 1 (.tmp 49), none⟩,
  ⟨some 51, .faddr (.tmp 4) 1, none⟩,
  ⟨some 52, .load true 1 (.tmp 51), none⟩,
  ⟨some 53, .mv (.tmp 2), none⟩,
  ⟨some 54, .call 24 [(.tmp 48), (.tmp 50), (.tmp 52), (.tmp 53)], none⟩,
  ⟨some 47, .mv (.tmp 54), none⟩,
  ⟨some 55, .extract (.tmp 47) 0, none⟩,
  ⟨some 56, .extract (.tmp 47) 1, none⟩,
  ⟨some 13, .alloc [(.imm true 0 [])], none⟩,
  ⟨none, .store 1 (.tmp 13) (.tmp 55), none⟩,
  ⟨some 14, .mv (.tmp 56), none⟩] [])
(.seq (.region [⟨some 57, .mv (.tmp 7), none⟩,
  ⟨some 58, .mv (.tmp 9), none⟩,
  ⟨some 59, .bin .eql (.tmp 57) (.tmp 58), none⟩,
  ⟨some 60, .mv (.tmp 59), none⟩,
  ⟨some 61, .mv (.tmp 8), some (60, true)⟩,
  ⟨some 62, .mv (.tmp 10), some (60, true)⟩,
  ⟨some 63, .beq false (.tmp 61) (.tmp 62), some (60, true)⟩,
  ⟨some 64, .pick (.tmp 60) (.tmp 63) (.con (.bool false)), none⟩,
  ⟨some 65, .mv (.tmp 64), none⟩,
  ⟨some 66, .load false 1 (.tmp 11), some (65, true)⟩,
  ⟨some 67, .load false 1 (.tmp 13), some (65, true)⟩,
  ⟨some 68, .call 11 [(.tmp 66), (.tmp 67)], some (65, true)⟩,
  ⟨some 69, .pick (.tmp 65) (.tmp 68) (.con (.bool false)), none⟩,
  ⟨some 70, .mv (.tmp 69), none⟩,
  ⟨some 71, .mv (.tmp 12), some (70, true)⟩,
  ⟨some 72, .mv (.tmp 14), some (70, true)⟩,
  ⟨some 73, .beq false (.tmp 71) (.tmp 72), some (70, true)⟩,
  ⟨some 74, .pick (.tmp 70) (.tmp 73) (.con (.bool false)), none⟩,
  ⟨some 75, .mv (.tmp 74), none⟩,
  ⟨some 76, .call 9 [], some (75, true)⟩,
  ⟨some 77, .pick (.tmp 75) (.tmp 76) (.con (.bool false)), none⟩,
  ⟨some 6, .mv (.tmp 77), none⟩] [])
.ret))))))), [.tmp 6], true, none⟩
/-- cotterel/cotterellaw39.CacheFills -/
def f6 : AFun := ⟨61, (.seq (.region [⟨some 2, .box (.tmp 0), none⟩,
  ⟨some 3, .box (.tmp 1), none⟩,
  ⟨some 4, .mv (.con (.bool false)), none⟩] [])
(.seq (.seq (.region [⟨some 9, .load false 1 (.tmp 2), none⟩,
   ⟨some 10, .call 8 [(.tmp 9)], none⟩,
   ⟨some 11, .un .not (.tmp 10), none⟩] [])
 (.cond (.tmp 11)
  (.seq (.region [⟨some 12, .call 9 [], none⟩,
    ⟨some 4, .mv (.tmp 12), none⟩] [])
  .ret)
  .skip))
(.seq (.region [⟨some 14, .load false 1 (.tmp 2), none⟩,
  ⟨some 15, .faddr (.tmp 3) 0, none⟩,
  ⟨some 16, .load true 1 (.tmp 15), none⟩,
  ⟨some 17, .faddr (.tmp 3) 1, none⟩,
  ⟨some 18, .load true 1 (.tmp 17), none⟩,
  ⟨some 19, .faddr (.tmp 3) 2, none⟩,
  ⟨some 20, .load false 16 (.tmp 19), none⟩,
  ⟨some 21, .call 25 [(.tmp 14), (.tmp 16), (.tmp 18), (.tmp 20)], none⟩,
  ⟨some 13, .mv (.tmp 21), none⟩,
  ⟨some 22, .extract (.tmp 13) 0, none⟩,
  ⟨some 23, .extract (.tmp 13) 1, none⟩,
  ⟨some 5, .alloc [(.imm true 0 [])], none⟩,
  ⟨some 6, .alloc [(.int .i64 0), (.int .u32 0), (.int .u8 0), (.int .u8 0), (.int .u8 0), (.int .u8 0), (.int .u8 0), (.int .u8 0), (.int .u8 0), (.int .u8 0), (.int .u8 0), (.int .u8 0), (.int .u8 0), (.int .u8 0), (.int .u8 0), (.int .u8 0), (.int .u8 0), (.int .u8 0), (.int .i64 0)], none⟩,
  ⟨none, .store 1 (.tmp 5) (.tmp 22), none⟩,
  ⟨none, .store 19 (.tmp 6) (.tmp 23), none⟩] [])
(.seq (.region [⟨some 25, .load false 1 (.tmp 2), none⟩,
  ⟨some 26, .faddr (.tmp 3) 0, none⟩,
  ⟨some 27, .load true 1 (.tmp 26), none⟩,
  ⟨some 28, .faddr (.tmp 3) 1, none⟩,
  ⟨some 29, .load true 1 (.tmp 28), none⟩,
  ⟨some 30, .faddr (.tmp 3) 2, none⟩,
  ⟨some 31, .load false 16 (.tmp 30), none⟩,
  ⟨some 32, .call 26 [(.tmp 25), (.tmp 27), (.tmp 29), (.tmp 31)], none⟩,
  ⟨some 24, .mv (.tmp 32), none⟩,
  ⟨some 33, .extract (.tmp 24) 0, none⟩,
  ⟨some 34, .extract (.tmp 24) 1, none⟩,
  ⟨some 7, .alloc [(.imm true 0 [])], none⟩,
  ⟨some 8, .alloc [(.int .i64 0), (.int .u32 0), (.int .u8 0), (.int .u8 0), (.int .u8 0), (.int .u8 0), (.int .u8 0), (.int .u8 0), (.int .u8 0), (.int .u8 0), (.int .u8 0), (.int .u8 0), (.int .u8 0), (.int .u8 0), (.int .u8 0), (.int .u8 0), (.int .u8 0), (.int .u8 0), (.int .i64 0)], none⟩,
  ⟨none, .store 1 (.tmp 7) (.tmp 33), none⟩,
  ⟨none, .store 19 (.tmp 8) (.tmp 34), none⟩] [])
(.seq (.region [⟨some 35, .load false 1 (.tmp 5), none⟩,
  ⟨some 36, .load false 1 (.tmp 7), none⟩,
  ⟨some 37, .call 11 [(.tmp 35), (.tmp 36)], none⟩,
  ⟨some 38, .mv (.tmp 37), none⟩,
  ⟨some 39, .load false 19 (.tmp 6), some (38, true)⟩,
  ⟨some 40, .load false 19 (.tmp 8), some (38, true)⟩,
  ⟨some 41, .aeq false [some .i64, some .u32, some .u8, some .u8, some .u8, some .u8, some .u8, some .u8, some .u8, some .u8, some .u8, some .u8, some .u8, some .u8, some .u8, some .u8, some .u8, some .u8, some .i64] (.tmp 39) (.tmp 40), some (38, true)⟩,
  ⟨some 42, .pick (.tmp 38) (.tmp 41) (.con (.bool false)), none⟩,
  ⟨some 43, .mv (.tmp 42), none⟩,
  ⟨some 44, .load false 1 (.tmp 2), some (43, true)⟩,
  ⟨some 45, .faddr (.tmp 3) 0, some (43, true)⟩,
  ⟨some 46, .load true 1 (.tmp 45), some (43, true)⟩,
  ⟨some 47, .faddr (.tmp 3) 1, some (43, true)⟩,
  ⟨some 48, .load true 1 (.tmp 47), some (43, true)⟩,
  ⟨some 49, .call 27 [(.tmp 44), (.tmp 46), (.tmp 48)], some (43, true)⟩,
  ⟨some 50, .load false 1 (.tmp 2), some (43, true)⟩,
  ⟨some 51, .faddr (.tmp 3) 0, some (43, true)⟩,
  ⟨some 52, .load true 1 (.tmp 51), some (43, true)⟩,
  ⟨some 53, .faddr (.tmp 3) 1, some (43, true)⟩,
  ⟨some 54, .load true 1 (.tmp 53), some (43, true)⟩,
  ⟨some 55, .call 28 [(.tmp 50), (.tmp 52), (.tmp 54)], some (43, true)⟩,
  ⟨some 56, .call 11 [(.tmp 49), (.tmp 55)], some (43, true)⟩,
  ⟨some 57, .pick (.tmp 43) (.tmp 56) (.con (.bool false)), none⟩,
  ⟨some 58, .mv (.tmp 57), none⟩,
  ⟨some 59, .call 9 [], some (58, true)⟩,
  ⟨some 60, .pick (.tmp 58) (.tmp 59) (.con (.bool false)), none⟩,
  ⟨some 4, .mv (.tmp 60), none⟩] [(14, 15), (14, 17), (14, 19)])
.ret))))), [.tmp 4], true, none⟩
/-- cotterel/cotterellaw39.CacheKeeps -/
def f7 : AFun := ⟨220, (.seq (.region [⟨some 3, .box (.tmp 0), none⟩,
  ⟨some 4, .box (.tmp 1), none⟩,
  ⟨some 5, .box (.tmp 2), none⟩,
  ⟨some 6, .mv (.con (.bool false)), none⟩] [])
(.seq (.seq (.region [⟨some 22, .load false 1 (.tmp 3), none⟩,
   ⟨some 23, .call 8 [(.tmp 22)], none⟩,
   ⟨some 24, .un .not (.tmp 23), none⟩,
   ⟨some 25, .mv (.tmp 24), none⟩,
   ⟨some 26, .load false 1 (.tmp 3), some (25, false)⟩,
   ⟨some 27, .call 14 [(.tmp 26)], some (25, false)⟩,
   ⟨some 28, .un .not (.tmp 27), some (25, false)⟩,
   ⟨some 29, .pick (.tmp 25) (.con (.bool true)) (.tmp 28), none⟩,
   ⟨some 30, .mv (.tmp 29), none⟩,
   ⟨some 31, .faddr (.tmp 4) 1, some (30, false)⟩,
   ⟨some 32, .load true 1 (.tmp 31), some (30, false)⟩,
   ⟨some 33, .bin .lss (.tmp 32) (.con (.int .i64 1)), some (30, false)⟩,
   ⟨some 34, .pick (.tmp 30) (.con (.bool true)) (.tmp 33), none⟩,
   ⟨some 35, .mv (.tmp 34), none⟩,
   ⟨some 36, .faddr (.tmp 4) 1, some (35, false)⟩,
   ⟨some 37, .load true 1 (.tmp 36), some (35, false)⟩,
   ⟨some 38, .bin .gtr (.tmp 37) (.con (.int .i64 3)), some (35, false)⟩,
   ⟨some 39, .pick (.tmp 35) (.con (.bool true)) (.tmp 38), none⟩] [])
 (.cond (.tmp 39)
  (.seq (.region [⟨some 40, .call 9 [], none⟩,
    ⟨some 6, .mv (.tmp 40), none⟩] [])
  .ret)
  .skip))
(.seq (.region [⟨some 42, .load false 1 (.tmp 3), none⟩,
  ⟨some 43, .faddr (.tmp 4) 0, none⟩,
  ⟨some 44, .load true 1 (.tmp 43), none⟩,
  ⟨some 45, .faddr (.tmp 4) 1, none⟩,
  ⟨some 46, .load true 1 (.tmp 45), none⟩,
  ⟨some 47, .faddr (.tmp 4) 2, none⟩,
  ⟨some 48, .load false 16 (.tmp 47), none⟩,
  ⟨some 49, .call 25 [(.tmp 42), (.tmp 44), (.tmp 46), (.tmp 48)], none⟩,
  ⟨some 41, .mv (.tmp 49), none⟩,
  ⟨some 50, .extract (.tmp 41) 0, none⟩,
  ⟨some 51, .extract (.tmp 41) 1, none⟩,
  ⟨some 7, .alloc [(.imm true 0 [])], none⟩,
  ⟨some 8, .alloc [(.int .i64 0), (.int .u32 0), (.int .u8 0), (.int .u8 0), (.int .u8 0), (.int .u8 0), (.int .u8 0), (.int .u8 0), (.int .u8 0), (.int .u8 0), (.int .u8 0), (.int .u8 0), (.int .u8 0), (.int .u8 0), (.int .u8 0), (.int .u8 0), (.int .u8 0), (.int .u8 0), (.int .i64 0)], none⟩,
  ⟨none, .store 1 (.tmp 7) (.tmp 50), none⟩,
  ⟨none, .store 19 (.tmp 8) (.tmp 51), none⟩] [])
(.seq (.region [⟨some 53, .load false 1 (.tmp 7), none⟩,
  ⟨some 54, .faddr (.tmp 4) 0, none⟩,
  ⟨some 55, .load true 1 (.tmp 54), none⟩,
  ⟨some 56, .call 15 [(.tmp 53), (.tmp 55)], none⟩,
  ⟨some 52, .mv (.tmp 56), none⟩,
  ⟨some 57, .extract (.tmp 52) 0, none⟩,
  ⟨some 58, .extract (.tmp 52) 1, none⟩,
  ⟨some 59, .extract (.tmp 52) 2, none⟩,
  ⟨some 9, .mv (.tmp 57), none⟩,
  ⟨some 10, .mv (.tmp 58), none⟩,
  ⟨some 11, .mv (.tmp 59), none⟩] [])
(.seq (.seq (.region [⟨some 60, .load false 1 (.tmp 7), none⟩,
   ⟨some 61, .call 13 [(.tmp 60)], none⟩,
   ⟨some 62, .un .not (.tmp 61), none⟩,
   ⟨some 63, .mv (.tmp 62), none⟩,
   ⟨some 64, .mv (.tmp 11), some (63, false)⟩,
   ⟨some 65, .un .not (.tmp 64), some (63, false)⟩,
   ⟨some 66, .pick (.tmp 63) (.con (.bool true)) (.tmp 65), none⟩,
   ⟨some 67, .mv (.tmp 66), none⟩,
   ⟨some 68, .mv (.tmp 9), some (67, false)⟩,
   ⟨some 69, .bin .lss (.tmp 68) (.con (.int .i64 0)), some (67, false)⟩,
   ⟨some 70, .pick (.tmp 67) (.con (.bool true)) (.tmp 69), none⟩,
   ⟨some 71, .mv (.tmp 70), none⟩,
   ⟨some 72, .mv (.tmp 9), some (71, false)⟩,
   ⟨some 73, .faddr (.tmp 7) 0, some (71, false)⟩,
   ⟨some 74, .load true 1 (.tmp 73), some (71, false)⟩,
   ⟨some 75, .len (.tmp 74), some (71, false)⟩,
   ⟨some 76, .bin .geq (.tmp 72) (.tmp 75), some (71, false)⟩,
   ⟨some 77, .pick (.tmp 71) (.con (.bool true)) (.tmp 76), none⟩,
   ⟨some 78, .mv (.tmp 77), none⟩,
   ⟨some 79, .mv (.tmp 10), some (78, false)⟩,
   ⟨some 80, .bin .lss (.tmp 79) (.con (.int .i64 0)), some (78, false)⟩,
   ⟨some 81, .pick (.tmp 78) (.con (.bool true)) (.tmp 80), none⟩,
   ⟨some 82, .mv (.tmp 81), none⟩,
   ⟨some 83, .mv (.tmp 10), some (82, false)⟩,
   ⟨some 84, .faddr (.tmp 7) 0, some (82, false)⟩,
   ⟨some 85, .load true 1 (.tmp 84), some (82, false)⟩,
   ⟨some 86, .mv (.tmp 9), some (82, false)⟩,
   ⟨some 87, .isl 1 (.tmp 85) (.tmp 86), some (82, false)⟩,
   ⟨some 88, .load true 1 (.tmp 87), some (82, false)⟩,
   ⟨some 89, .len (.tmp 88), some (82, false)⟩,
   ⟨some 90, .bin .geq (.tmp 83) (.tmp 89), some (82, false)⟩,
   ⟨some 91, .pick (.tmp 82) (.con (.bool true)) (.tmp 90), none⟩,
   ⟨some 92, .mv (.tmp 91), none⟩,
   ⟨some 93, .faddr (.tmp 7) 0, some (92, false)⟩,
   ⟨some 94, .load true 1 (.tmp 93), some (92, false)⟩,
   ⟨some 95, .mv (.tmp 9), some (92, false)⟩,
   ⟨some 96, .isl 1 (.tmp 94) (.tmp 95), some (92, false)⟩,
   ⟨some 97, .load true 1 (.tmp 96), some (92, false)⟩,
   ⟨some 98, .mv (.tmp 10), some (92, false)⟩,
   ⟨some 99, .isl 19 (.tmp 97) (.tmp 98), some (92, false)⟩,
   ⟨some 100, .faddr (.tmp 99) 18, some (92, false)⟩,
   ⟨some 101, .load true 1 (.tmp 100), some (92, false)⟩,
   ⟨some 102, .bin .neq (.tmp 101) (.con (.int .i64 0)), some (92, false)⟩,
   ⟨some 103, .pick (.tmp 92) (.con (.bool true)) (.tmp 102), none⟩,
   ⟨some 104, .mv (.tmp 103), none⟩,
   ⟨some 105, .faddr (.tmp 7) 0, some (104, false)⟩,
   ⟨some 106, .load true 1 (.tmp 105), some (104, false)⟩,
   ⟨some 107, .mv (.tmp 9), some (104, false)⟩,
   ⟨some 108, .isl 1 (.tmp 106) (.tmp 107), some (104, false)⟩,
   ⟨some 109, .load true 1 (.tmp 108), some (104, false)⟩,
   ⟨some 110, .mv (.tmp 10), some (104, false)⟩,
   ⟨some 111, .isl 19 (.tmp 109) (.tmp 110), some (104, false)⟩,
   ⟨some 112, .faddr (.tmp 111) 2, some (104, false)⟩,
   ⟨some 113, .load false 16 (.tmp 112), some (104, false)⟩,
   ⟨some 114, .faddr (.tmp 4) 2, some (104, false)⟩,
   ⟨some 115, .load false 16 (.tmp 114), some (104, false)⟩,
   ⟨some 116, .aeq true [some .u8, some .u8, some .u8, some .u8, some .u8, some .u8, some .u8, some .u8, some .u8, some .u8, some .u8, some .u8, some .u8, some .u8, some .u8, some .u8] (.tmp 113) (.tmp 115), some (104, false)⟩,
   ⟨some 117, .pick (.tmp 104) (.con (.bool true)) (.tmp 116), none⟩] [])
 (.cond (.tmp 117)
  (.seq (.region [⟨some 6, .mv (.con (.bool false)), none⟩] [])
  .ret)
  .skip))
(.seq (.seq (.region [⟨some 12, .mv (.con (.int .i64 0)), none⟩] [])
 (.block 0 (.loop (.seq (.seq (.region [⟨some 118, .mv (.tmp 12), none⟩,
      ⟨some 119, .faddr (.tmp 3) 0, none⟩,
      ⟨some 120, .load true 1 (.tmp 119), none⟩,
      ⟨some 121, .len (.tmp 120), none⟩,
      ⟨some 122, .bin .lss (.tmp 118) (.tmp 121), none⟩] [])
    (.cond (.tmp 122)
     .skip
     (.exit 0)))
   (.seq (.block 1 (.seq (.region [⟨some 13, .mv (.con (.int .i64 0)), none⟩] [])
     (.block 2 (.loop (.seq (.seq (.region [⟨some 125, .mv (.tmp 13), none⟩,
          ⟨some 126, .faddr (.tmp 3) 0, none⟩,
          ⟨some 127, .load true 1 (.tmp 126), none⟩,
          ⟨some 128, .mv (.tmp 12), none⟩,
          ⟨some 129, .isl 1 (.tmp 127) (.tmp 128), none⟩,
          ⟨some 130, .load true 1 (.tmp 129), none⟩,
          ⟨some 131, .len (.tmp 130), none⟩,
          ⟨some 132, .bin .lss (.tmp 125) (.tmp 131), none⟩] [])
        (.cond (.tmp 132)
         .skip
         (.exit 2)))
       (.seq (.block 3 (.seq (.region [⟨some 135, .faddr (.tmp 3) 0, none⟩,
           ⟨some 136, .load true 1 (.tmp 135), none⟩,
           ⟨some 137, .mv (.tmp 12), none⟩,
           ⟨some 138, .isl 1 (.tmp 136) (.tmp 137), none⟩,
           ⟨some 139, .load true 1 (.tmp 138), none⟩,
           ⟨some 140, .mv (.tmp 13), none⟩,
           ⟨some 141, .isl 19 (.tmp 139) (.tmp 140), none⟩,
           ⟨some 142, .load false 19 (.tmp 141), none⟩,
           ⟨some 14, .alloc [(.int .i64 0), (.int .u32 0), (.int .u8 0), (.int .u8 0), (.int .u8 0), (.int .u8 0), (.int .u8 0), (.int .u8 0), (.int .u8 0), (.int .u8 0), (.int .u8 0), (.int .u8 0), (.int .u8 0), (.int .u8 0), (.int .u8 0), (.int .u8 0), (.int .u8 0), (.int .u8 0), (.int .i64 0)], none⟩,
           ⟨none, .store 19 (.tmp 14) (.tmp 142), none⟩] [])
         (.seq (.region [⟨some 144, .load false 1 (.tmp 7), none⟩,
           ⟨some 145, .faddr (.tmp 14) 1, none⟩,
           ⟨some 146, .load true 1 (.tmp 145), none⟩,
           ⟨some 147, .call 15 [(.tmp 144), (.tmp 146)], none⟩,
           ⟨some 143, .mv (.tmp 147), none⟩,
           ⟨some 148, .extract (.tmp 143) 0, none⟩,
           ⟨some 149, .extract (.tmp 143) 1, none⟩,
           ⟨some 150, .extract (.tmp 143) 2, none⟩,
           ⟨some 15, .mv (.tmp 148), none⟩,
           ⟨some 16, .mv (.tmp 149), none⟩,
           ⟨some 17, .mv (.tmp 150), none⟩] [])
         (.seq (.region [⟨some 151, .faddr (.tmp 14) 0, none⟩,
           ⟨some 152, .load true 1 (.tmp 151), none⟩,
           ⟨some 153, .bin .neq (.tmp 152) (.con (.int .i64 0)), none⟩,
           ⟨some 154, .mv (.tmp 153), none⟩,
           ⟨some 155, .mv (.tmp 17), some (154, true)⟩,
           ⟨some 156, .un .not (.tmp 155), some (154, true)⟩,
           ⟨some 157, .pick (.tmp 154) (.tmp 156) (.con (.bool false)), none⟩,
           ⟨some 158, .mv (.tmp 157), none⟩,
           ⟨some 159, .load false 19 (.tmp 8), some (158, true)⟩,
           ⟨some 160, .load false 19 (.tmp 14), some (158, true)⟩,
           ⟨some 161, .aeq true [some .i64, some .u32, some .u8, some .u8, some .u8, some .u8, some .u8, some .u8, some .u8, some .u8, some .u8, some .u8, some .u8, some .u8, some .u8, some .u8, some .u8, some .u8, some .i64] (.tmp 159) (.tmp 160), some (158, true)⟩,
           ⟨some 162, .pick (.tmp 158) (.tmp 161) (.con (.bool false)), none⟩] [])
         (.cond (.tmp 162)
          (.seq (.region [⟨some 6, .mv (.con (.bool false)), none⟩] [])
          .ret)
          .skip)))))
       (.region [⟨some 133, .mv (.tmp 13), none⟩,
        ⟨some 134, .bin .add (.tmp 133) (.con (.int .i64 1)), none⟩,
        ⟨some 13, .mv (.tmp 134), none⟩] [])))))))
   (.region [⟨some 123, .mv (.tmp 12), none⟩,
    ⟨some 124, .bin .add (.tmp 123) (.con (.int .i64 1)), none⟩,
    ⟨some 12, .mv (.tmp 124), none⟩] []))))))
(.seq (.region [⟨some 164, .load false 1 (.tmp 7), none⟩,
  ⟨some 165, .faddr (.tmp 5) 0, none⟩,
  ⟨some 166, .load true 1 (.tmp 165), none⟩,
  ⟨some 167, .faddr (.tmp 5) 1, none⟩,
  ⟨some 168, .load true 1 (.tmp 167), none⟩,
  ⟨some 169, .call 23 [(.tmp 164), (.tmp 166), (.tmp 168), (.con (.int .u32 2864434397))], none⟩,
  ⟨some 163, .mv (.tmp 169), none⟩,
  ⟨some 170, .extract (.tmp 163) 0, none⟩,
  ⟨some 171, .extract (.tmp 163) 1, none⟩,
  ⟨some 18, .alloc [(.imm true 0 [])], none⟩,
  ⟨none, .store 1 (.tmp 18) (.tmp 170), none⟩,
  ⟨some 19, .mv (.tmp 171), none⟩] [])
(.seq (.region [⟨some 173, .load false 1 (.tmp 18), none⟩,
  ⟨some 174, .faddr (.tmp 5) 0, none⟩,
  ⟨some 175, .load true 1 (.tmp 174), none⟩,
  ⟨some 176, .faddr (.tmp 5) 1, none⟩,
  ⟨some 177, .load true 1 (.tmp 176), none⟩,
  ⟨some 178, .call 21 [(.tmp 173), (.tmp 175), (.tmp 177)], none⟩,
  ⟨some 172, .mv (.tmp 178), none⟩,
  ⟨some 179, .extract (.tmp 172) 0, none⟩,
  ⟨some 180, .extract (.tmp 172) 1, none⟩,
  ⟨some 20, .mv (.tmp 179), none⟩,
  ⟨some 21, .mv (.tmp 180), none⟩] [])
(.seq (.seq (.region [⟨some 181, .mv (.tmp 19), none⟩,
   ⟨some 182, .mv (.tmp 181), none⟩,
   ⟨some 183, .load false 1 (.tmp 18), some (182, true)⟩,
   ⟨some 184, .call 13 [(.tmp 183)], some (182, true)⟩,
   ⟨some 185, .un .not (.tmp 184), some (182, true)⟩,
   ⟨some 186, .mv (.tmp 185), some (182, true)⟩,
   ⟨some 187, .mv (.tmp 21), some (186, false)⟩,
   ⟨some 188, .un .not (.tmp 187), some (186, false)⟩,
   ⟨some 189, .pick (.tmp 186) (.con (.bool true)) (.tmp 188), some (182, true)⟩,
   ⟨some 190, .mv (.tmp 189), some (182, true)⟩,
   ⟨some 191, .mv (.tmp 20), some (190, false)⟩,
   ⟨some 192, .faddr (.tmp 5) 1, some (190, false)⟩,
   ⟨some 193, .load true 1 (.tmp 192), some (190, false)⟩,
   ⟨some 194, .bin .mul (.con (.int .i64 8)) (.tmp 193), some (190, false)⟩,
   ⟨some 195, .call 29 [(.con (.int .u32 2864434397)), (.tmp 194)], some (190, false)⟩,
   ⟨some 196, .bin .neq (.tmp 191) (.tmp 195), some (190, false)⟩,
   ⟨some 197, .pick (.tmp 190) (.con (.bool true)) (.tmp 196), some (182, true)⟩,
   ⟨some 198, .pick (.tmp 182) (.tmp 197) (.con (.bool false)), none⟩] [])
 (.cond (.tmp 198)
  (.seq (.region [⟨some 6, .mv (.con (.bool false)), none⟩] [])
  .ret)
  .skip))
(.seq (.region [⟨some 199, .load false 1 (.tmp 7), none⟩,
  ⟨some 200, .faddr (.tmp 4) 0, none⟩,
  ⟨some 201, .load true 1 (.tmp 200), none⟩,
  ⟨some 202, .call 27 [(.tmp 199), (.tmp 201), (.con (.int .i64 0))], none⟩,
  ⟨some 203, .call 13 [(.tmp 202)], none⟩,
  ⟨some 204, .mv (.tmp 203), none⟩,
  ⟨some 205, .load false 1 (.tmp 7), some (204, true)⟩,
  ⟨some 206, .mv (.tmp 9), some (204, true)⟩,
  ⟨some 207, .faddr (.tmp 7) 0, some (204, true)⟩,
  ⟨some 208, .load true 1 (.tmp 207), some (204, true)⟩,
  ⟨some 209, .mv (.tmp 9), some (204, true)⟩,
  ⟨some 210, .isl 1 (.tmp 208) (.tmp 209), some (204, true)⟩,
  ⟨some 211, .load true 1 (.tmp 210), some (204, true)⟩,
  ⟨some 212, .len (.tmp 211), some (204, true)⟩,
  ⟨some 213, .bin .sub (.tmp 212) (.con (.int .i64 1)), some (204, true)⟩,
  ⟨some 214, .call 19 [(.tmp 205), (.tmp 206), (.tmp 213)], some (204, true)⟩,
  ⟨some 215, .call 13 [(.tmp 214)], some (204, true)⟩,
  ⟨some 216, .pick (.tmp 204) (.tmp 215) (.con (.bool false)), none⟩,
  ⟨some 217, .mv (.tmp 216), none⟩,
  ⟨some 218, .call 9 [], some (217, true)⟩,
  ⟨some 219, .pick (.tmp 217) (.tmp 218) (.con (.bool false)), none⟩,
  ⟨some 6, .mv (.tmp 219), none⟩] [])
.ret)))))))))), [.tmp 6], true, none⟩
/-- cotterel/cotterellaw39.Light -/
def f8 : AFun := ⟨26, (.seq (.region [⟨some 1, .box (.tmp 0), none⟩,
  ⟨some 2, .mv (.con (.bool false)), none⟩] [])
(.seq (.seq (.region [⟨some 3, .mv (.con (.int .i64 0)), none⟩] [])
 (.block 0 (.loop (.seq (.seq (.region [⟨some 4, .mv (.tmp 3), none⟩,
      ⟨some 5, .faddr (.tmp 1) 0, none⟩,
      ⟨some 6, .load true 1 (.tmp 5), none⟩,
      ⟨some 7, .len (.tmp 6), none⟩,
      ⟨some 8, .bin .lss (.tmp 4) (.tmp 7), none⟩,
      ⟨some 9, .mv (.tmp 8), none⟩,
      ⟨some 10, .mv (.tmp 3), some (9, true)⟩,
      ⟨some 11, .bin .lss (.tmp 10) (.con (.int .i64 20)), some (9, true)⟩,
      ⟨some 12, .pick (.tmp 9) (.tmp 11) (.con (.bool false)), none⟩] [])
    (.cond (.tmp 12)
     .skip
     (.exit 0)))
   (.seq (.block 1 (.seq (.region [⟨some 15, .faddr (.tmp 1) 0, none⟩,
       ⟨some 16, .load true 1 (.tmp 15), none⟩,
       ⟨some 17, .mv (.tmp 3), none⟩,
       ⟨some 18, .isl 1 (.tmp 16) (.tmp 17), none⟩,
       ⟨some 19, .load true 1 (.tmp 18), none⟩,
       ⟨some 20, .len (.tmp 19), none⟩,
       ⟨some 21, .bin .gtr (.tmp 20) (.con (.int .i64 10)), none⟩] [])
     (.cond (.tmp 21)
      (.seq (.region [⟨some 2, .mv (.con (.bool false)), none⟩] [])
      .ret)
      .skip)))
   (.region [⟨some 13, .mv (.tmp 3), none⟩,
    ⟨some 14, .bin .add (.tmp 13) (.con (.int .i64 1)), none⟩,
    ⟨some 3, .mv (.tmp 14), none⟩] []))))))
(.seq (.region [⟨some 22, .faddr (.tmp 1) 0, none⟩,
  ⟨some 23, .load true 1 (.tmp 22), none⟩,
  ⟨some 24, .len (.tmp 23), none⟩,
  ⟨some 25, .bin .leq (.tmp 24) (.con (.int .i64 20)), none⟩,
  ⟨some 2, .mv (.tmp 25), none⟩] [])
.ret))), [.tmp 2], true, none⟩
/-- cotterel/cotterellaw39.awake -/
def f9 : AFun := ⟨60, (.seq (.region [⟨some 0, .mv (.con (.bool false)), none⟩] [])
(.seq (.region [⟨some 1, .alloc (List.replicate 16 (.int .u8 0)), none⟩] [])
(.seq (.region [⟨some 11, .call 10 [(.con (.int .i64 1)), (.con (.int .i64 2))], none⟩,
  ⟨some 12, .load false 16 (.tmp 1), none⟩,
  ⟨some 13, .call 25 [(.tmp 11), (.con (.int .u32 1)), (.con (.int .i64 2)), (.tmp 12)], none⟩,
  ⟨some 10, .mv (.tmp 13), none⟩,
  ⟨some 14, .extract (.tmp 10) 0, none⟩,
  ⟨some 15, .extract (.tmp 10) 1, none⟩,
  ⟨some 2, .alloc [(.imm true 0 [])], none⟩,
  ⟨some 3, .alloc [(.int .i64 0), (.int .u32 0), (.int .u8 0), (.int .u8 0), (.int .u8 0), (.int .u8 0), (.int .u8 0), (.int .u8 0), (.int .u8 0), (.int .u8 0), (.int .u8 0), (.int .u8 0), (.int .u8 0), (.int .u8 0), (.int .u8 0), (.int .u8 0), (.int .u8 0), (.int .u8 0), (.int .i64 0)], none⟩,
  ⟨none, .store 1 (.tmp 2) (.tmp 14), none⟩,
  ⟨none, .store 19 (.tmp 3) (.tmp 15), none⟩] [(0, 1), (0, 6), (1, 6), (2, 6), (0, 7), (1, 7), (2, 7), (6, 7)])
(.seq (.region [⟨some 17, .load false 1 (.tmp 2), none⟩,
  ⟨some 18, .load false 16 (.tmp 1), none⟩,
  ⟨some 19, .call 25 [(.tmp 17), (.con (.int .u32 2)), (.con (.int .i64 1)), (.tmp 18)], none⟩,
  ⟨some 16, .mv (.tmp 19), none⟩,
  ⟨some 20, .extract (.tmp 16) 0, none⟩,
  ⟨some 21, .extract (.tmp 16) 1, none⟩,
  ⟨none, .store 1 (.tmp 2) (.tmp 20), none⟩] [])
(.seq (.region [⟨some 23, .load false 1 (.tmp 2), none⟩,
  ⟨some 24, .load false 16 (.tmp 1), none⟩,
  ⟨some 25, .call 25 [(.tmp 23), (.con (.int .u32 3)), (.con (.int .i64 1)), (.tmp 24)], none⟩,
  ⟨some 22, .mv (.tmp 25), none⟩,
  ⟨some 26, .extract (.tmp 22) 0, none⟩,
  ⟨some 27, .extract (.tmp 22) 1, none⟩,
  ⟨some 4, .alloc [(.imm true 0 [])], none⟩,
  ⟨some 5, .alloc [(.int .i64 0), (.int .u32 0), (.int .u8 0), (.int .u8 0), (.int .u8 0), (.int .u8 0), (.int .u8 0), (.int .u8 0), (.int .u8 0), (.int .u8 0), (.int .u8 0), (.int .u8 0), (.int .u8 0), (.int .u8 0), (.int .u8 0), (.int .u8 0), (.int .u8 0), (.int .u8 0), (.int .i64 0)], none⟩,
  ⟨none, .store 1 (.tmp 4) (.tmp 26), none⟩,
  ⟨none, .store 19 (.tmp 5) (.tmp 27), none⟩] [])
(.seq (.region [⟨some 29, .load false 1 (.tmp 2), none⟩,
  ⟨some 30, .call 23 [(.tmp 29), (.con (.int .u32 20)), (.con (.int .i64 2)), (.con (.int .u32 258))], none⟩,
  ⟨some 28, .mv (.tmp 30), none⟩,
  ⟨some 31, .extract (.tmp 28) 0, none⟩,
  ⟨some 32, .extract (.tmp 28) 1, none⟩,
  ⟨some 6, .alloc [(.imm true 0 [])], none⟩,
  ⟨none, .store 1 (.tmp 6) (.tmp 31), none⟩,
  ⟨some 7, .mv (.tmp 32), none⟩] [])
(.seq (.region [⟨some 34, .load false 1 (.tmp 6), none⟩,
  ⟨some 35, .call 21 [(.tmp 34), (.con (.int .u32 21)), (.con (.int .i64 1))], none⟩,
  ⟨some 33, .mv (.tmp 35), none⟩,
  ⟨some 36, .extract (.tmp 33) 0, none⟩,
  ⟨some 37, .extract (.tmp 33) 1, none⟩,
  ⟨some 8, .mv (.tmp 36), none⟩,
  ⟨some 9, .mv (.tmp 37), none⟩] [])
(.seq (.region [⟨some 38, .faddr (.tmp 5) 1, none⟩,
  ⟨some 39, .load true 1 (.tmp 38), none⟩,
  ⟨some 40, .bin .eql (.tmp 39) (.con (.int .u32 1)), none⟩,
  ⟨some 41, .mv (.tmp 40), none⟩,
  ⟨some 42, .faddr (.tmp 5) 0, some (41, true)⟩,
  ⟨some 43, .load true 1 (.tmp 42), some (41, true)⟩,
  ⟨some 44, .bin .eql (.tmp 43) (.con (.int .i64 2)), some (41, true)⟩,
  ⟨some 45, .pick (.tmp 41) (.tmp 44) (.con (.bool false)), none⟩,
  ⟨some 46, .mv (.tmp 45), none⟩,
  ⟨some 47, .mv (.tmp 7), some (46, true)⟩,
  ⟨some 48, .pick (.tmp 46) (.tmp 47) (.con (.bool false)), none⟩,
  ⟨some 49, .mv (.tmp 48), none⟩,
  ⟨some 50, .mv (.tmp 8), some (49, true)⟩,
  ⟨some 51, .bin .eql (.tmp 50) (.con (.int .u32 1)), some (49, true)⟩,
  ⟨some 52, .pick (.tmp 49) (.tmp 51) (.con (.bool false)), none⟩,
  ⟨some 53, .mv (.tmp 52), none⟩,
  ⟨some 54, .mv (.tmp 9), some (53, true)⟩,
  ⟨some 55, .pick (.tmp 53) (.tmp 54) (.con (.bool false)), none⟩,
  ⟨some 56, .mv (.tmp 55), none⟩,
  ⟨some 57, .load false 1 (.tmp 6), some (56, true)⟩,
  ⟨some 58, .call 13 [(.tmp 57)], some (56, true)⟩,
  ⟨some 59, .pick (.tmp 56) (.tmp 58) (.con (.bool false)), none⟩,
  ⟨some 0, .mv (.tmp 59), none⟩] [])
.ret)))))))), [.tmp 0], true, none⟩
/-- cotterel/cache.New -/
def f10 : AFun := ⟨46, (.seq (.region [⟨some 4, .alloc [(.imm true 0 [])], none⟩] [])
(.seq (.region [⟨some 8, .mv (.tmp 0), none⟩,
  ⟨some 9, .call 30 [(.tmp 8), (.con (.int .i64 1)), (.con (.int .i64 8))], none⟩,
  ⟨some 10, .mksl [(.imm true 0 [])] 1 24 (.tmp 9) (.tmp 9), none⟩,
  ⟨some 11, .build [(.imm true 0 [])] [(0, 1, (.tmp 10))], none⟩,
  ⟨some 5, .alloc [(.imm true 0 [])], none⟩,
  ⟨none, .store 1 (.tmp 5) (.tmp 11), none⟩] [])
(.seq (.seq (.region [⟨some 12, .faddr (.tmp 5) 0, none⟩,
   ⟨some 13, .load true 1 (.tmp 12), none⟩,
   ⟨some 14, .len (.tmp 13), none⟩,
   ⟨some 15, .mv (.con (.int .i64 0)), none⟩] [])
 (.block 0 (.loop (.seq (.region [⟨some 16, .bin .lss (.tmp 15) (.tmp 14), none⟩] [])
   (.seq (.cond (.tmp 16)
     .skip
     (.exit 0))
   (.seq (.block 1 (.seq (.region [⟨some 17, .mv (.tmp 15), none⟩,
       ⟨some 6, .mv (.tmp 17), none⟩] [])
     (.seq (.region [⟨some 18, .faddr (.tmp 5) 0, none⟩,
       ⟨some 19, .load true 1 (.tmp 18), none⟩,
       ⟨some 20, .mv (.tmp 6), none⟩,
       ⟨some 21, .mv (.tmp 1), none⟩,
       ⟨some 22, .call 30 [(.tmp 21), (.con (.int .i64 1)), (.con (.int .i64 4))], none⟩,
       ⟨some 23, .mksl [(.int .i64 0), (.int .u32 0), (.int .u8 0), (.int .u8 0), (.int .u8 0), (.int .u8 0), (.int .u8 0), (.int .u8 0), (.int .u8 0), (.int .u8 0), (.int .u8 0), (.int .u8 0), (.int .u8 0), (.int .u8 0), (.int .u8 0), (.int .u8 0), (.int .u8 0), (.int .u8 0), (.int .i64 0)] 19 40 (.tmp 22) (.tmp 22), none⟩,
       ⟨some 24, .isl 1 (.tmp 19) (.tmp 20), none⟩,
       ⟨none, .store 1 (.tmp 24) (.tmp 23), none⟩] [(1, 4), (1, 5)])
     (.seq (.region [⟨some 25, .faddr (.tmp 5) 0, none⟩,
       ⟨some 26, .load true 1 (.tmp 25), none⟩,
       ⟨some 27, .mv (.tmp 6), none⟩,
       ⟨some 28, .isl 1 (.tmp 26) (.tmp 27), none⟩,
       ⟨some 29, .load true 1 (.tmp 28), none⟩,
       ⟨some 30, .len (.tmp 29), none⟩,
       ⟨some 31, .mv (.con (.int .i64 0)), none⟩] [])
     (.block 2 (.loop (.seq (.region [⟨some 32, .bin .lss (.tmp 31) (.tmp 30), none⟩] [])
       (.seq (.cond (.tmp 32)
         .skip
         (.exit 2))
       (.seq (.block 3 (.seq (.region [⟨some 33, .mv (.tmp 31), none⟩,
           ⟨some 7, .mv (.tmp 33), none⟩] [])
         (.region [⟨some 34, .faddr (.tmp 5) 0, none⟩,
          ⟨some 35, .load true 1 (.tmp 34), none⟩,
          ⟨some 36, .mv (.tmp 6), none⟩,
          ⟨some 37, .isl 1 (.tmp 35) (.tmp 36), none⟩,
          ⟨some 38, .load true 1 (.tmp 37), none⟩,
          ⟨some 39, .mv (.tmp 7), none⟩,
          ⟨some 40, .mv (.tmp 7), none⟩,
          ⟨some 41, .isl 19 (.tmp 38) (.tmp 39), none⟩,
          ⟨some 42, .faddr (.tmp 41) 18, none⟩,
          ⟨none, .store 1 (.tmp 42) (.tmp 40), none⟩] [])))
       (.region [⟨some 43, .bin .add (.tmp 31) (.con (.int .i64 1)), none⟩,
        ⟨some 31, .mv (.tmp 43), none⟩] []))))))))))
   (.region [⟨some 44, .bin .add (.tmp 15) (.con (.int .i64 1)), none⟩,
    ⟨some 15, .mv (.tmp 44), none⟩] [])))))))
(.seq (.region [⟨some 45, .load false 1 (.tmp 5), none⟩,
  ⟨none, .store 1 (.tmp 4) (.tmp 45), none⟩] [])
.ret)))), [.cell 4 false 1], true, none⟩
/-- cotterel/cotterelsame.Cache -/
def f11 : AFun := ⟨78, (.seq (.region [⟨some 2, .box (.tmp 0), none⟩,
  ⟨some 3, .box (.tmp 1), none⟩,
  ⟨some 4, .mv (.con (.bool false)), none⟩] [])
(.seq (.seq (.region [⟨some 7, .faddr (.tmp 2) 0, none⟩,
   ⟨some 8, .load true 1 (.tmp 7), none⟩,
   ⟨some 9, .len (.tmp 8), none⟩,
   ⟨some 10, .faddr (.tmp 3) 0, none⟩,
   ⟨some 11, .load true 1 (.tmp 10), none⟩,
   ⟨some 12, .len (.tmp 11), none⟩,
   ⟨some 13, .bin .neq (.tmp 9) (.tmp 12), none⟩] [])
 (.cond (.tmp 13)
  (.seq (.region [⟨some 4, .mv (.con (.bool false)), none⟩] [])
  .ret)
  .skip))
(.seq (.seq (.region [⟨some 5, .mv (.con (.int .i64 0)), none⟩] [])
 (.block 0 (.loop (.seq (.seq (.region [⟨some 14, .mv (.tmp 5), none⟩,
      ⟨some 15, .faddr (.tmp 2) 0, none⟩,
      ⟨some 16, .load true 1 (.tmp 15), none⟩,
      ⟨some 17, .len (.tmp 16), none⟩,
      ⟨some 18, .bin .lss (.tmp 14) (.tmp 17), none⟩,
      ⟨some 19, .mv (.tmp 18), none⟩,
      ⟨some 20, .mv (.tmp 5), some (19, true)⟩,
      ⟨some 21, .faddr (.tmp 3) 0, some (19, true)⟩,
      ⟨some 22, .load true 1 (.tmp 21), some (19, true)⟩,
      ⟨some 23, .len (.tmp 22), some (19, true)⟩,
      ⟨some 24, .bin .lss (.tmp 20) (.tmp 23), some (19, true)⟩,
      ⟨some 25, .pick (.tmp 19) (.tmp 24) (.con (.bool false)), none⟩] [])
    (.cond (.tmp 25)
     .skip
     (.exit 0)))
   (.seq (.block 1 (.seq (.seq (.region [⟨some 28, .faddr (.tmp 2) 0, none⟩,
        ⟨some 29, .load true 1 (.tmp 28), none⟩,
        ⟨some 30, .mv (.tmp 5), none⟩,
        ⟨some 31, .isl 1 (.tmp 29) (.tmp 30), none⟩,
        ⟨some 32, .load true 1 (.tmp 31), none⟩,
        ⟨some 33, .len (.tmp 32), none⟩,
        ⟨some 34, .faddr (.tmp 3) 0, none⟩,
        ⟨some 35, .load true 1 (.tmp 34), none⟩,
        ⟨some 36, .mv (.tmp 5), none⟩,
        ⟨some 37, .isl 1 (.tmp 35) (.tmp 36), none⟩,
        ⟨some 38, .load true 1 (.tmp 37), none⟩,
        ⟨some 39, .len (.tmp 38), none⟩,
        ⟨some 40, .bin .neq (.tmp 33) (.tmp 39), none⟩] [])
      (.cond (.tmp 40)
       (.seq (.region [⟨some 4, .mv (.con (.bool false)), none⟩] [])
       .ret)
       .skip))
     (.seq (.region [⟨some 6, .mv (.con (.int .i64 0)), none⟩] [])
     (.block 2 (.loop (.seq (.seq (.region [⟨some 41, .mv (.tmp 6), none⟩,
          ⟨some 42, .faddr (.tmp 2) 0, none⟩,
          ⟨some 43, .load true 1 (.tmp 42), none⟩,
          ⟨some 44, .mv (.tmp 5), none⟩,
          ⟨some 45, .isl 1 (.tmp 43) (.tmp 44), none⟩,
          ⟨some 46, .load true 1 (.tmp 45), none⟩,
          ⟨some 47, .len (.tmp 46), none⟩,
          ⟨some 48, .bin .lss (.tmp 41) (.tmp 47), none⟩,
          ⟨some 49, .mv (.tmp 48), none⟩,
          ⟨some 50, .mv (.tmp 6), some (49, true)⟩,
          ⟨some 51, .faddr (.tmp 3) 0, some (49, true)⟩,
          ⟨some 52, .load true 1 (.tmp 51), some (49, true)⟩,
          ⟨some 53, .mv (.tmp 5), some (49, true)⟩,
          ⟨some 54, .isl 1 (.tmp 52) (.tmp 53), some (49, true)⟩,
          ⟨some 55, .load true 1 (.tmp 54), some (49, true)⟩,
          ⟨some 56, .len (.tmp 55), some (49, true)⟩,
          ⟨some 57, .bin .lss (.tmp 50) (.tmp 56), some (49, true)⟩,
          ⟨some 58, .pick (.tmp 49) (.tmp 57) (.con (.bool false)), none⟩] [])
        (.cond (.tmp 58)
         .skip
         (.exit 2)))
       (.seq (.block 3 (.seq (.region [⟨some 61, .faddr (.tmp 2) 0, none⟩,
           ⟨some 62, .load true 1 (.tmp 61), none⟩,
           ⟨some 63, .mv (.tmp 5), none⟩,
           ⟨some 64, .isl 1 (.tmp 62) (.tmp 63), none⟩,
           ⟨some 65, .load true 1 (.tmp 64), none⟩,
           ⟨some 66, .mv (.tmp 6), none⟩,
           ⟨some 67, .isl 19 (.tmp 65) (.tmp 66), none⟩,
           ⟨some 68, .load false 19 (.tmp 67), none⟩,
           ⟨some 69, .faddr (.tmp 3) 0, none⟩,
           ⟨some 70, .load true 1 (.tmp 69), none⟩,
           ⟨some 71, .mv (.tmp 5), none⟩,
           ⟨some 72, .isl 1 (.tmp 70) (.tmp 71), none⟩,
           ⟨some 73, .load true 1 (.tmp 72), none⟩,
           ⟨some 74, .mv (.tmp 6), none⟩,
           ⟨some 75, .isl 19 (.tmp 73) (.tmp 74), none⟩,
           ⟨some 76, .load false 19 (.tmp 75), none⟩,
           ⟨some 77, .aeq true [some .i64, some .u32, some .u8, some .u8, some .u8, some .u8, some .u8, some .u8, some .u8, some .u8, some .u8, some .u8, some .u8, some .u8, some .u8, some .u8, some .u8, some .u8, some .i64] (.tmp 68) (.tmp 76), none⟩] [])
         (.cond (.tmp 77)
          (.seq (.region [⟨some 4, .mv (.con (.bool false)), none⟩] [])
          .ret)
          .skip)))
       (.region [⟨some 59, .mv (.tmp 6), none⟩,
        ⟨some 60, .bin .add (.tmp 59) (.con (.int .i64 1)), none⟩,
        ⟨some 6, .mv (.tmp 60), none⟩] []))))))))
   (.region [⟨some 26, .mv (.tmp 5), none⟩,
    ⟨some 27, .bin .add (.tmp 26) (.con (.int .i64 1)), none⟩,
    ⟨some 5, .mv (.tmp 27), none⟩] []))))))
(.seq (.region [⟨some 4, .mv (.con (.bool true)), none⟩] [])
.ret)))), [.tmp 4], true, none⟩
/-- cotterel/cotterelref39.New -/
def f12 : AFun := ⟨35, (.seq (.region [⟨some 4, .alloc [(.imm true 0 [])], none⟩] [])
(.seq (.region [⟨some 5, .alloc [(.imm true 0 [])], none⟩] [])
(.seq (.seq (.region [⟨some 6, .mv (.con (.int .i64 0)), none⟩] [])
 (.block 0 (.loop (.seq (.seq (.region [⟨some 9, .mv (.tmp 6), none⟩,
      ⟨some 10, .mv (.tmp 0), none⟩,
      ⟨some 11, .mx [(.tmp 10), (.con (.int .i64 1))], none⟩,
      ⟨some 12, .mn [(.tmp 11), (.con (.int .i64 8))], none⟩,
      ⟨some 13, .bin .lss (.tmp 9) (.tmp 12), none⟩] [])
    (.cond (.tmp 13)
     .skip
     (.exit 0)))
   (.seq (.block 1 (.seq (.region [⟨some 7, .mv (.con (.imm true 0 [])), none⟩] [])
     (.seq (.seq (.region [⟨some 8, .mv (.con (.int .i64 0)), none⟩] [])
      (.block 2 (.loop (.seq (.seq (.region [⟨some 16, .mv (.tmp 8), none⟩,
           ⟨some 17, .mv (.tmp 1), none⟩,
           ⟨some 18, .mx [(.tmp 17), (.con (.int .i64 1))], none⟩,
           ⟨some 19, .mn [(.tmp 18), (.con (.int .i64 4))], none⟩,
           ⟨some 20, .bin .lss (.tmp 16) (.tmp 19), none⟩] [])
         (.cond (.tmp 20)
          .skip
          (.exit 2)))
        (.seq (.block 3 (.region [⟨some 23, .mv (.tmp 7), none⟩,
           ⟨some 24, .mv (.tmp 8), none⟩,
           ⟨some 25, .build [(.int .i64 0), (.int .u32 0), (.int .u8 0), (.int .u8 0), (.int .u8 0), (.int .u8 0), (.int .u8 0), (.int .u8 0), (.int .u8 0), (.int .u8 0), (.int .u8 0), (.int .u8 0), (.int .u8 0), (.int .u8 0), (.int .u8 0), (.int .u8 0), (.int .u8 0), (.int .u8 0), (.int .i64 0)] [(18, 1, (.tmp 24))], none⟩,
           ⟨some 26, .bsl [(.int .i64 0), (.int .u32 0), (.int .u8 0), (.int .u8 0), (.int .u8 0), (.int .u8 0), (.int .u8 0), (.int .u8 0), (.int .u8 0), (.int .u8 0), (.int .u8 0), (.int .u8 0), (.int .u8 0), (.int .u8 0), (.int .u8 0), (.int .u8 0), (.int .u8 0), (.int .u8 0), (.int .i64 0)] 1 19 [(0, 19, (.tmp 25))], none⟩,
           ⟨some 27, .append 19 40 (.tmp 23) (.tmp 26), none⟩,
           ⟨some 7, .mv (.tmp 27), none⟩] []))
        (.region [⟨some 21, .mv (.tmp 8), none⟩,
         ⟨some 22, .bin .add (.tmp 21) (.con (.int .i64 1)), none⟩,
         ⟨some 8, .mv (.tmp 22), none⟩] []))))))
     (.region [⟨some 28, .faddr (.tmp 5) 0, none⟩,
      ⟨some 29, .load true 1 (.tmp 28), none⟩,
      ⟨some 30, .mv (.tmp 7), none⟩,
      ⟨some 31, .bsl [(.imm true 0 [])] 1 1 [(0, 1, (.tmp 30))], none⟩,
      ⟨some 32, .append 1 24 (.tmp 29) (.tmp 31), none⟩,
      ⟨some 33, .faddr (.tmp 5) 0, none⟩,
      ⟨none, .store 1 (.tmp 33) (.tmp 32), none⟩] []))))
   (.region [⟨some 14, .mv (.tmp 6), none⟩,
    ⟨some 15, .bin .add (.tmp 14) (.con (.int .i64 1)), none⟩,
    ⟨some 6, .mv (.tmp 15), none⟩] []))))))
(.seq (.region [⟨some 34, .load false 1 (.tmp 5), none⟩,
  ⟨none, .store 1 (.tmp 4) (.tmp 34), none⟩] [])
.ret)))), [.cell 4 false 1], true, none⟩
/-- cotterel/cache.Right -/
def f13 : AFun := ⟨39, (.seq (.region [⟨some 1, .box (.tmp 0), none⟩,
  ⟨some 2, .mv (.con (.bool false)), none⟩] [])
(.seq (.seq (.region [⟨some 4, .faddr (.tmp 1) 0, none⟩,
   ⟨some 5, .load true 1 (.tmp 4), none⟩,
   ⟨some 6, .len (.tmp 5), none⟩,
   ⟨some 7, .bin .lss (.tmp 6) (.con (.int .i64 1)), none⟩,
   ⟨some 8, .mv (.tmp 7), none⟩,
   ⟨some 9, .faddr (.tmp 1) 0, some (8, false)⟩,
   ⟨some 10, .load true 1 (.tmp 9), some (8, false)⟩,
   ⟨some 11, .len (.tmp 10), some (8, false)⟩,
   ⟨some 12, .bin .gtr (.tmp 11) (.con (.int .i64 8)), some (8, false)⟩,
   ⟨some 13, .pick (.tmp 8) (.con (.bool true)) (.tmp 12), none⟩] [])
 (.cond (.tmp 13)
  (.seq (.region [⟨some 2, .mv (.con (.bool false)), none⟩] [])
  .ret)
  .skip))
(.seq (.seq (.region [⟨some 14, .faddr (.tmp 1) 0, none⟩,
   ⟨some 15, .load true 1 (.tmp 14), none⟩,
   ⟨some 16, .len (.tmp 15), none⟩,
   ⟨some 17, .mv (.con (.int .i64 0)), none⟩] [])
 (.block 0 (.loop (.seq (.region [⟨some 18, .bin .lss (.tmp 17) (.tmp 16), none⟩] [])
   (.seq (.cond (.tmp 18)
     .skip
     (.exit 0))
   (.seq (.block 1 (.seq (.region [⟨some 19, .mv (.tmp 17), none⟩,
       ⟨some 3, .mv (.tmp 19), none⟩] [])
     (.seq (.region [⟨some 20, .faddr (.tmp 1) 0, none⟩,
       ⟨some 21, .load true 1 (.tmp 20), none⟩,
       ⟨some 22, .mv (.tmp 3), none⟩,
       ⟨some 23, .isl 1 (.tmp 21) (.tmp 22), none⟩,
       ⟨some 24, .load true 1 (.tmp 23), none⟩,
       ⟨some 25, .len (.tmp 24), none⟩,
       ⟨some 26, .faddr (.tmp 1) 0, none⟩,
       ⟨some 27, .load true 1 (.tmp 26), none⟩,
       ⟨some 28, .isl 1 (.tmp 27) (.con (.int .i64 0)), none⟩,
       ⟨some 29, .load true 1 (.tmp 28), none⟩,
       ⟨some 30, .len (.tmp 29), none⟩,
       ⟨some 31, .bin .neq (.tmp 25) (.tmp 30), none⟩,
       ⟨some 32, .mv (.tmp 31), none⟩,
       ⟨some 33, .load false 1 (.tmp 1), some (32, false)⟩,
       ⟨some 34, .mv (.tmp 3), some (32, false)⟩,
       ⟨some 35, .call 31 [(.tmp 33), (.tmp 34)], some (32, false)⟩,
       ⟨some 36, .un .not (.tmp 35), some (32, false)⟩,
       ⟨some 37, .pick (.tmp 32) (.con (.bool true)) (.tmp 36), none⟩] [])
     (.cond (.tmp 37)
      (.seq (.region [⟨some 2, .mv (.con (.bool false)), none⟩] [])
      .ret)
      .skip))))
   (.region [⟨some 38, .bin .add (.tmp 17) (.con (.int .i64 1)), none⟩,
    ⟨some 17, .mv (.tmp 38), none⟩] [])))))))
(.seq (.region [⟨some 2, .mv (.con (.bool true)), none⟩] [])
.ret)))), [.tmp 2], true, none⟩
/-- cotterel/cotterelref39.Right -/
def f14 : AFun := ⟨55, (.seq (.region [⟨some 1, .box (.tmp 0), none⟩,
  ⟨some 2, .mv (.con (.bool false)), none⟩] [])
(.seq (.seq (.region [⟨some 5, .faddr (.tmp 1) 0, none⟩,
   ⟨some 6, .load true 1 (.tmp 5), none⟩,
   ⟨some 7, .len (.tmp 6), none⟩,
   ⟨some 8, .bin .lss (.tmp 7) (.con (.int .i64 1)), none⟩,
   ⟨some 9, .mv (.tmp 8), none⟩,
   ⟨some 10, .faddr (.tmp 1) 0, some (9, false)⟩,
   ⟨some 11, .load true 1 (.tmp 10), some (9, false)⟩,
   ⟨some 12, .len (.tmp 11), some (9, false)⟩,
   ⟨some 13, .bin .gtr (.tmp 12) (.con (.int .i64 8)), some (9, false)⟩,
   ⟨some 14, .pick (.tmp 9) (.con (.bool true)) (.tmp 13), none⟩] [])
 (.cond (.tmp 14)
  (.seq (.region [⟨some 2, .mv (.con (.bool false)), none⟩] [])
  .ret)
  .skip))
(.seq (.seq (.region [⟨some 3, .mv (.con (.int .i64 0)), none⟩] [])
 (.block 0 (.loop (.seq (.seq (.region [⟨some 15, .mv (.tmp 3), none⟩,
      ⟨some 16, .faddr (.tmp 1) 0, none⟩,
      ⟨some 17, .load true 1 (.tmp 16), none⟩,
      ⟨some 18, .len (.tmp 17), none⟩,
      ⟨some 19, .bin .lss (.tmp 15) (.tmp 18), none⟩] [])
    (.cond (.tmp 19)
     .skip
     (.exit 0)))
   (.seq (.block 1 (.seq (.region [⟨some 22, .faddr (.tmp 1) 0, none⟩,
       ⟨some 23, .load true 1 (.tmp 22), none⟩,
       ⟨some 24, .mv (.tmp 3), none⟩,
       ⟨some 25, .isl 1 (.tmp 23) (.tmp 24), none⟩,
       ⟨some 26, .load true 1 (.tmp 25), none⟩,
       ⟨some 27, .len (.tmp 26), none⟩,
       ⟨some 4, .mv (.tmp 27), none⟩] [])
     (.seq (.region [⟨some 28, .mv (.tmp 4), none⟩,
       ⟨some 29, .bin .lss (.tmp 28) (.con (.int .i64 1)), none⟩,
       ⟨some 30, .mv (.tmp 29), none⟩,
       ⟨some 31, .mv (.tmp 4), some (30, false)⟩,
       ⟨some 32, .bin .gtr (.tmp 31) (.con (.int .i64 4)), some (30, false)⟩,
       ⟨some 33, .pick (.tmp 30) (.con (.bool true)) (.tmp 32), none⟩,
       ⟨some 34, .mv (.tmp 33), none⟩,
       ⟨some 35, .mv (.tmp 4), some (34, false)⟩,
       ⟨some 36, .faddr (.tmp 1) 0, some (34, false)⟩,
       ⟨some 37, .load true 1 (.tmp 36), some (34, false)⟩,
       ⟨some 38, .isl 1 (.tmp 37) (.con (.int .i64 0)), some (34, false)⟩,
       ⟨some 39, .load true 1 (.tmp 38), some (34, false)⟩,
       ⟨some 40, .len (.tmp 39), some (34, false)⟩,
       ⟨some 41, .bin .neq (.tmp 35) (.tmp 40), some (34, false)⟩,
       ⟨some 42, .pick (.tmp 34) (.con (.bool true)) (.tmp 41), none⟩,
       ⟨some 43, .mv (.tmp 42), none⟩,
       ⟨some 44, .load false 1 (.tmp 1), some (43, false)⟩,
       ⟨some 45, .mv (.tmp 3), some (43, false)⟩,
       ⟨some 46, .call 32 [(.tmp 44), (.tmp 45)], some (43, false)⟩,
       ⟨some 47, .un .not (.tmp 46), some (43, false)⟩,
       ⟨some 48, .pick (.tmp 43) (.con (.bool true)) (.tmp 47), none⟩,
       ⟨some 49, .mv (.tmp 48), none⟩,
       ⟨some 50, .load false 1 (.tmp 1), some (49, false)⟩,
       ⟨some 51, .mv (.tmp 3), some (49, false)⟩,
       ⟨some 52, .call 33 [(.tmp 50), (.tmp 51)], some (49, false)⟩,
       ⟨some 53, .un .not (.tmp 52), some (49, false)⟩,
       ⟨some 54, .pick (.tmp 49) (.con (.bool true)) (.tmp 53), none⟩] [])
     (.cond (.tmp 54)
      (.seq (.region [⟨some 2, .mv (.con (.bool false)), none⟩] [])
      .ret)
      .skip))))
   (.region [⟨some 20, .mv (.tmp 3), none⟩,
    ⟨some 21, .bin .add (.tmp 20) (.con (.int .i64 1)), none⟩,
    ⟨some 3, .mv (.tmp 21), none⟩] []))))))
(.seq (.region [⟨some 2, .mv (.con (.bool true)), none⟩] [])
.ret)))), [.tmp 2], true, none⟩
/-- cotterel/cache.Find -/
def f15 : AFun := ⟨19, (.seq (.region [⟨some 2, .box (.tmp 0), none⟩,
  ⟨some 3, .box (.tmp 1), none⟩,
  ⟨some 4, .mv (.con (.int .i64 0)), none⟩,
  ⟨some 5, .mv (.con (.int .i64 0)), none⟩,
  ⟨some 6, .mv (.con (.bool false)), none⟩] [])
(.seq (.region [⟨some 8, .load false 1 (.tmp 2), none⟩,
  ⟨some 9, .load true 1 (.tmp 3), none⟩,
  ⟨some 10, .call 35 [(.tmp 8), (.tmp 9)], none⟩,
  ⟨some 11, .mkfn 36 [] [(.tmp 3)], none⟩,
  ⟨some 12, .call 34 [(.tmp 10), (.tmp 11)], none⟩,
  ⟨some 7, .mv (.tmp 12), none⟩] [])
(.seq (.seq (.region [⟨some 13, .mv (.tmp 7), none⟩,
   ⟨some 14, .bin .lss (.tmp 13) (.con (.int .i64 0)), none⟩] [])
 (.cond (.tmp 14)
  (.seq (.region [⟨some 4, .mv (.con (.int .i64 0)), none⟩,
    ⟨some 5, .mv (.con (.int .i64 0)), none⟩,
    ⟨some 6, .mv (.con (.bool false)), none⟩] [])
  .ret)
  .skip))
(.seq (.region [⟨some 15, .load false 1 (.tmp 2), none⟩,
  ⟨some 16, .load true 1 (.tmp 3), none⟩,
  ⟨some 17, .call 37 [(.tmp 15), (.tmp 16)], none⟩,
  ⟨some 18, .mv (.tmp 7), none⟩,
  ⟨some 4, .mv (.tmp 17), none⟩,
  ⟨some 5, .mv (.tmp 18), none⟩,
  ⟨some 6, .mv (.con (.bool true)), none⟩] [])
.ret)))), [.tmp 4, .tmp 5, .tmp 6], true, none⟩
/-- cotterel/cotterelref39.Find -/
def f16 : AFun := ⟨49, (.seq (.region [⟨some 2, .box (.tmp 0), none⟩,
  ⟨some 4, .mv (.con (.int .i64 0)), none⟩,
  ⟨some 5, .mv (.con (.int .i64 0)), none⟩,
  ⟨some 6, .mv (.con (.bool false)), none⟩] [])
(.seq (.region [⟨some 9, .load false 1 (.tmp 2), none⟩,
  ⟨some 10, .mv (.tmp 1), none⟩,
  ⟨some 11, .call 38 [(.tmp 9), (.tmp 10)], none⟩,
  ⟨some 7, .mv (.tmp 11), none⟩] [])
(.seq (.seq (.region [⟨some 12, .mv (.tmp 7), none⟩,
   ⟨some 13, .bin .lss (.tmp 12) (.con (.int .i64 0)), none⟩] [])
 (.cond (.tmp 13)
  (.seq (.region [⟨some 4, .mv (.con (.int .i64 0)), none⟩,
    ⟨some 5, .mv (.con (.int .i64 0)), none⟩,
    ⟨some 6, .mv (.con (.bool false)), none⟩] [])
  .ret)
  .skip))
(.seq (.seq (.region [⟨some 8, .mv (.con (.int .i64 0)), none⟩] [])
 (.block 0 (.loop (.seq (.seq (.region [⟨some 14, .mv (.tmp 8), none⟩,
      ⟨some 15, .faddr (.tmp 2) 0, none⟩,
      ⟨some 16, .load true 1 (.tmp 15), none⟩,
      ⟨some 17, .mv (.tmp 7), none⟩,
      ⟨some 18, .isl 1 (.tmp 16) (.tmp 17), none⟩,
      ⟨some 19, .load true 1 (.tmp 18), none⟩,
      ⟨some 20, .len (.tmp 19), none⟩,
      ⟨some 21, .bin .lss (.tmp 14) (.tmp 20), none⟩] [])
    (.cond (.tmp 21)
     .skip
     (.exit 0)))
   (.seq (.block 1 (.seq (.region [⟨some 24, .faddr (.tmp 2) 0, none⟩,
       ⟨some 25, .load true 1 (.tmp 24), none⟩,
       ⟨some 26, .mv (.tmp 7), none⟩,
       ⟨some 27, .isl 1 (.tmp 25) (.tmp 26), none⟩,
       ⟨some 28, .load true 1 (.tmp 27), none⟩,
       ⟨some 29, .mv (.tmp 8), none⟩,
       ⟨some 30, .isl 19 (.tmp 28) (.tmp 29), none⟩,
       ⟨some 31, .faddr (.tmp 30) 1, none⟩,
       ⟨some 32, .load true 1 (.tmp 31), none⟩,
       ⟨some 33, .mv (.tmp 1), none⟩,
       ⟨some 34, .bin .eql (.tmp 32) (.tmp 33), none⟩,
       ⟨some 35, .mv (.tmp 34), none⟩,
       ⟨some 36, .faddr (.tmp 2) 0, some (35, true)⟩,
       ⟨some 37, .load true 1 (.tmp 36), some (35, true)⟩,
       ⟨some 38, .mv (.tmp 7), some (35, true)⟩,
       ⟨some 39, .isl 1 (.tmp 37) (.tmp 38), some (35, true)⟩,
       ⟨some 40, .load true 1 (.tmp 39), some (35, true)⟩,
       ⟨some 41, .mv (.tmp 8), some (35, true)⟩,
       ⟨some 42, .isl 19 (.tmp 40) (.tmp 41), some (35, true)⟩,
       ⟨some 43, .faddr (.tmp 42) 0, some (35, true)⟩,
       ⟨some 44, .load true 1 (.tmp 43), some (35, true)⟩,
       ⟨some 45, .bin .neq (.tmp 44) (.con (.int .i64 0)), some (35, true)⟩,
       ⟨some 46, .pick (.tmp 35) (.tmp 45) (.con (.bool false)), none⟩] [])
     (.cond (.tmp 46)
      (.seq (.region [⟨some 47, .mv (.tmp 7), none⟩,
        ⟨some 48, .mv (.tmp 8), none⟩,
        ⟨some 4, .mv (.tmp 47), none⟩,
        ⟨some 5, .mv (.tmp 48), none⟩,
        ⟨some 6, .mv (.con (.bool true)), none⟩] [])
      .ret)
      .skip)))
   (.region [⟨some 22, .mv (.tmp 8), none⟩,
    ⟨some 23, .bin .add (.tmp 22) (.con (.int .i64 1)), none⟩,
    ⟨some 8, .mv (.tmp 23), none⟩] []))))))
(.seq (.region [⟨some 4, .mv (.con (.int .i64 0)), none⟩,
  ⟨some 5, .mv (.con (.int .i64 0)), none⟩,
  ⟨some 6, .mv (.con (.bool false)), none⟩] [])
.ret))))), [.tmp 4, .tmp 5, .tmp 6], true, none⟩
/-- cotterel/cache.Victim -/
def f17 : AFun := ⟨56, (.seq (.region [⟨some 2, .box (.tmp 0), none⟩,
  ⟨some 4, .mv (.con (.int .i64 0)), none⟩,
  ⟨some 5, .mv (.con (.int .i64 0)), none⟩] [])
(.seq (.region [⟨some 14, .load false 1 (.tmp 2), none⟩,
  ⟨some 15, .mv (.tmp 1), none⟩,
  ⟨some 16, .call 35 [(.tmp 14), (.tmp 15)], none⟩,
  ⟨some 6, .mv (.tmp 16), none⟩] [])
(.seq (.seq (.region [⟨some 18, .load false 1 (.tmp 2), none⟩,
   ⟨some 19, .mv (.tmp 1), none⟩,
   ⟨some 20, .call 15 [(.tmp 18), (.tmp 19)], none⟩,
   ⟨some 17, .mv (.tmp 20), none⟩,
   ⟨some 21, .extract (.tmp 17) 0, none⟩,
   ⟨some 22, .extract (.tmp 17) 1, none⟩,
   ⟨some 23, .extract (.tmp 17) 2, none⟩,
   ⟨some 7, .mv (.tmp 21), none⟩,
   ⟨some 8, .mv (.tmp 22), none⟩,
   ⟨some 9, .mv (.tmp 23), none⟩] [])
 (.seq (.region [⟨some 24, .mv (.tmp 9), none⟩] [])
 (.cond (.tmp 24)
  (.seq (.region [⟨some 25, .mv (.tmp 7), none⟩,
    ⟨some 26, .mv (.tmp 8), none⟩,
    ⟨some 4, .mv (.tmp 25), none⟩,
    ⟨some 5, .mv (.tmp 26), none⟩] [])
  .ret)
  .skip)))
(.seq (.seq (.region [⟨some 27, .mv (.tmp 6), none⟩,
   ⟨some 28, .call 34 [(.tmp 27), (.con (.fn 39 [] []))], none⟩,
   ⟨some 10, .mv (.tmp 28), none⟩] [])
 (.seq (.region [⟨some 29, .mv (.tmp 10), none⟩,
   ⟨some 30, .bin .geq (.tmp 29) (.con (.int .i64 0)), none⟩] [])
 (.cond (.tmp 30)
  (.seq (.region [⟨some 31, .load false 1 (.tmp 2), none⟩,
    ⟨some 32, .mv (.tmp 1), none⟩,
    ⟨some 33, .call 37 [(.tmp 31), (.tmp 32)], none⟩,
    ⟨some 34, .mv (.tmp 10), none⟩,
    ⟨some 4, .mv (.tmp 33), none⟩,
    ⟨some 5, .mv (.tmp 34), none⟩] [])
  .ret)
  .skip)))
(.seq (.region [⟨some 11, .mv (.con (.int .i64 0)), none⟩] [])
(.seq (.seq (.region [⟨some 35, .mv (.tmp 6), none⟩,
   ⟨some 36, .len (.tmp 35), none⟩,
   ⟨some 37, .mv (.con (.int .i64 0)), none⟩] [])
 (.block 0 (.loop (.seq (.region [⟨some 38, .bin .lss (.tmp 37) (.tmp 36), none⟩] [])
   (.seq (.cond (.tmp 38)
     .skip
     (.exit 0))
   (.seq (.block 1 (.seq (.region [⟨some 39, .mv (.tmp 37), none⟩,
       ⟨some 40, .isl 19 (.tmp 35) (.tmp 37), none⟩,
       ⟨some 41, .load false 19 (.tmp 40), none⟩,
       ⟨some 13, .alloc [(.int .i64 0), (.int .u32 0), (.int .u8 0), (.int .u8 0), (.int .u8 0), (.int .u8 0), (.int .u8 0), (.int .u8 0), (.int .u8 0), (.int .u8 0), (.int .u8 0), (.int .u8 0), (.int .u8 0), (.int .u8 0), (.int .u8 0), (.int .u8 0), (.int .u8 0), (.int .u8 0), (.int .i64 0)], none⟩,
       ⟨some 12, .mv (.tmp 39), none⟩,
       ⟨none, .store 19 (.tmp 13) (.tmp 41), none⟩] [])
     (.seq (.region [⟨some 42, .faddr (.tmp 13) 18, none⟩,
       ⟨some 43, .load true 1 (.tmp 42), none⟩,
       ⟨some 44, .mv (.tmp 6), none⟩,
       ⟨some 45, .mv (.tmp 11), none⟩,
       ⟨some 46, .isl 19 (.tmp 44) (.tmp 45), none⟩,
       ⟨some 47, .faddr (.tmp 46) 18, none⟩,
       ⟨some 48, .load true 1 (.tmp 47), none⟩,
       ⟨some 49, .bin .gtr (.tmp 43) (.tmp 48), none⟩] [])
     (.cond (.tmp 49)
      (.region [⟨some 50, .mv (.tmp 12), none⟩,
       ⟨some 11, .mv (.tmp 50), none⟩] [])
      .skip))))
   (.region [⟨some 51, .bin .add (.tmp 37) (.con (.int .i64 1)), none⟩,
    ⟨some 37, .mv (.tmp 51), none⟩] [])))))))
(.seq (.region [⟨some 52, .load false 1 (.tmp 2), none⟩,
  ⟨some 53, .mv (.tmp 1), none⟩,
  ⟨some 54, .call 37 [(.tmp 52), (.tmp 53)], none⟩,
  ⟨some 55, .mv (.tmp 11), none⟩,
  ⟨some 4, .mv (.tmp 54), none⟩,
  ⟨some 5, .mv (.tmp 55), none⟩] [])
.ret))))))), [.tmp 4, .tmp 5], true, none⟩
/-- cotterel/cotterelref39.Victim -/
def f18 : AFun := ⟨70, (.seq (.region [⟨some 2, .box (.tmp 0), none⟩,
  ⟨some 4, .mv (.con (.int .i64 0)), none⟩,
  ⟨some 5, .mv (.con (.int .i64 0)), none⟩] [])
(.seq (.region [⟨some 12, .load false 1 (.tmp 2), none⟩,
  ⟨some 13, .mv (.tmp 1), none⟩,
  ⟨some 14, .call 16 [(.tmp 12), (.tmp 13)], none⟩,
  ⟨some 11, .mv (.tmp 14), none⟩,
  ⟨some 15, .extract (.tmp 11) 0, none⟩,
  ⟨some 16, .extract (.tmp 11) 1, none⟩,
  ⟨some 17, .extract (.tmp 11) 2, none⟩,
  ⟨some 6, .mv (.tmp 15), none⟩,
  ⟨some 7, .mv (.tmp 16), none⟩,
  ⟨some 8, .mv (.tmp 17), none⟩] [])
(.seq (.seq (.region [⟨some 18, .mv (.tmp 8), none⟩] [])
 (.cond (.tmp 18)
  (.seq (.region [⟨some 19, .mv (.tmp 6), none⟩,
    ⟨some 20, .mv (.tmp 7), none⟩,
    ⟨some 4, .mv (.tmp 19), none⟩,
    ⟨some 5, .mv (.tmp 20), none⟩] [])
  .ret)
  .skip))
(.seq (.region [⟨some 21, .load false 1 (.tmp 2), none⟩,
  ⟨some 22, .mv (.tmp 1), none⟩,
  ⟨some 23, .call 38 [(.tmp 21), (.tmp 22)], none⟩,
  ⟨some 6, .mv (.tmp 23), none⟩] [])
(.seq (.seq (.region [⟨some 24, .mv (.tmp 6), none⟩,
   ⟨some 25, .bin .lss (.tmp 24) (.con (.int .i64 0)), none⟩] [])
 (.cond (.tmp 25)
  (.seq (.region [⟨some 4, .mv (.con (.int .i64 0)), none⟩,
    ⟨some 5, .mv (.con (.int .i64 0)), none⟩] [])
  .ret)
  .skip))
(.seq (.region [⟨some 9, .mv (.con (.int .i64 0)), none⟩] [])
(.seq (.seq (.region [⟨some 10, .mv (.con (.int .i64 0)), none⟩] [])
 (.block 0 (.loop (.seq (.seq (.region [⟨some 26, .mv (.tmp 10), none⟩,
      ⟨some 27, .faddr (.tmp 2) 0, none⟩,
      ⟨some 28, .load true 1 (.tmp 27), none⟩,
      ⟨some 29, .mv (.tmp 6), none⟩,
      ⟨some 30, .isl 1 (.tmp 28) (.tmp 29), none⟩,
      ⟨some 31, .load true 1 (.tmp 30), none⟩,
      ⟨some 32, .len (.tmp 31), none⟩,
      ⟨some 33, .bin .lss (.tmp 26) (.tmp 32), none⟩] [])
    (.cond (.tmp 33)
     .skip
     (.exit 0)))
   (.seq (.block 1 (.seq (.seq (.region [⟨some 36, .faddr (.tmp 2) 0, none⟩,
        ⟨some 37, .load true 1 (.tmp 36), none⟩,
        ⟨some 38, .mv (.tmp 6), none⟩,
        ⟨some 39, .isl 1 (.tmp 37) (.tmp 38), none⟩,
        ⟨some 40, .load true 1 (.tmp 39), none⟩,
        ⟨some 41, .mv (.tmp 10), none⟩,
        ⟨some 42, .isl 19 (.tmp 40) (.tmp 41), none⟩,
        ⟨some 43, .faddr (.tmp 42) 0, none⟩,
        ⟨some 44, .load true 1 (.tmp 43), none⟩,
        ⟨some 45, .bin .eql (.tmp 44) (.con (.int .i64 0)), none⟩] [])
      (.cond (.tmp 45)
       (.seq (.region [⟨some 46, .mv (.tmp 6), none⟩,
         ⟨some 47, .mv (.tmp 10), none⟩,
         ⟨some 4, .mv (.tmp 46), none⟩,
         ⟨some 5, .mv (.tmp 47), none⟩] [])
       .ret)
       .skip))
     (.seq (.region [⟨some 48, .faddr (.tmp 2) 0, none⟩,
       ⟨some 49, .load true 1 (.tmp 48), none⟩,
       ⟨some 50, .mv (.tmp 6), none⟩,
       ⟨some 51, .isl 1 (.tmp 49) (.tmp 50), none⟩,
       ⟨some 52, .load true 1 (.tmp 51), none⟩,
       ⟨some 53, .mv (.tmp 10), none⟩,
       ⟨some 54, .isl 19 (.tmp 52) (.tmp 53), none⟩,
       ⟨some 55, .faddr (.tmp 54) 18, none⟩,
       ⟨some 56, .load true 1 (.tmp 55), none⟩,
       ⟨some 57, .faddr (.tmp 2) 0, none⟩,
       ⟨some 58, .load true 1 (.tmp 57), none⟩,
       ⟨some 59, .mv (.tmp 6), none⟩,
       ⟨some 60, .isl 1 (.tmp 58) (.tmp 59), none⟩,
       ⟨some 61, .load true 1 (.tmp 60), none⟩,
       ⟨some 62, .mv (.tmp 9), none⟩,
       ⟨some 63, .isl 19 (.tmp 61) (.tmp 62), none⟩,
       ⟨some 64, .faddr (.tmp 63) 18, none⟩,
       ⟨some 65, .load true 1 (.tmp 64), none⟩,
       ⟨some 66, .bin .gtr (.tmp 56) (.tmp 65), none⟩] [])
     (.cond (.tmp 66)
      (.region [⟨some 67, .mv (.tmp 10), none⟩,
       ⟨some 9, .mv (.tmp 67), none⟩] [])
      .skip))))
   (.region [⟨some 34, .mv (.tmp 10), none⟩,
    ⟨some 35, .bin .add (.tmp 34) (.con (.int .i64 1)), none⟩,
    ⟨some 10, .mv (.tmp 35), none⟩] []))))))
(.seq (.region [⟨some 68, .mv (.tmp 6), none⟩,
  ⟨some 69, .mv (.tmp 9), none⟩,
  ⟨some 4, .mv (.tmp 68), none⟩,
  ⟨some 5, .mv (.tmp 69), none⟩] [])
.ret)))))))), [.tmp 4, .tmp 5], true, none⟩
/-- cotterel/cache.Touch -/
def f19 : AFun := ⟨86, (.seq (.region [⟨some 3, .box (.tmp 0), none⟩,
  ⟨some 6, .alloc [(.imm true 0 [])], none⟩] [])
(.seq (.seq (.region [⟨some 11, .mv (.tmp 1), none⟩,
   ⟨some 12, .bin .lss (.tmp 11) (.con (.int .i64 0)), none⟩,
   ⟨some 13, .mv (.tmp 12), none⟩,
   ⟨some 14, .mv (.tmp 1), some (13, false)⟩,
   ⟨some 15, .faddr (.tmp 3) 0, some (13, false)⟩,
   ⟨some 16, .load true 1 (.tmp 15), some (13, false)⟩,
   ⟨some 17, .len (.tmp 16), some (13, false)⟩,
   ⟨some 18, .bin .geq (.tmp 14) (.tmp 17), some (13, false)⟩,
   ⟨some 19, .pick (.tmp 13) (.con (.bool true)) (.tmp 18), none⟩,
   ⟨some 20, .mv (.tmp 19), none⟩,
   ⟨some 21, .mv (.tmp 2), some (20, false)⟩,
   ⟨some 22, .bin .lss (.tmp 21) (.con (.int .i64 0)), some (20, false)⟩,
   ⟨some 23, .pick (.tmp 20) (.con (.bool true)) (.tmp 22), none⟩,
   ⟨some 24, .mv (.tmp 23), none⟩,
   ⟨some 25, .mv (.tmp 2), some (24, false)⟩,
   ⟨some 26, .faddr (.tmp 3) 0, some (24, false)⟩,
   ⟨some 27, .load true 1 (.tmp 26), some (24, false)⟩,
   ⟨some 28, .mv (.tmp 1), some (24, false)⟩,
   ⟨some 29, .isl 1 (.tmp 27) (.tmp 28), some (24, false)⟩,
   ⟨some 30, .load true 1 (.tmp 29), some (24, false)⟩,
   ⟨some 31, .len (.tmp 30), some (24, false)⟩,
   ⟨some 32, .bin .geq (.tmp 25) (.tmp 31), some (24, false)⟩,
   ⟨some 33, .pick (.tmp 24) (.con (.bool true)) (.tmp 32), none⟩] [])
 (.cond (.tmp 33)
  (.seq (.region [⟨some 34, .load false 1 (.tmp 3), none⟩,
    ⟨none, .store 1 (.tmp 6) (.tmp 34), none⟩] [])
  .ret)
  .skip))
(.seq (.region [⟨some 35, .load false 1 (.tmp 3), none⟩,
  ⟨some 36, .mv (.tmp 1), none⟩,
  ⟨some 37, .call 40 [(.tmp 35), (.tmp 36)], none⟩,
  ⟨some 7, .alloc [(.imm true 0 [])], none⟩,
  ⟨none, .store 1 (.tmp 7) (.tmp 37), none⟩] [])
(.seq (.region [⟨some 38, .faddr (.tmp 7) 0, none⟩,
  ⟨some 39, .load true 1 (.tmp 38), none⟩,
  ⟨some 40, .mv (.tmp 1), none⟩,
  ⟨some 41, .isl 1 (.tmp 39) (.tmp 40), none⟩,
  ⟨some 42, .load true 1 (.tmp 41), none⟩,
  ⟨some 43, .mv (.tmp 2), none⟩,
  ⟨some 44, .isl 19 (.tmp 42) (.tmp 43), none⟩,
  ⟨some 45, .faddr (.tmp 44) 18, none⟩,
  ⟨some 46, .load true 1 (.tmp 45), none⟩,
  ⟨some 8, .mv (.tmp 46), none⟩] [])
(.seq (.seq (.region [⟨some 47, .faddr (.tmp 7) 0, none⟩,
   ⟨some 48, .load true 1 (.tmp 47), none⟩,
   ⟨some 49, .mv (.tmp 1), none⟩,
   ⟨some 50, .isl 1 (.tmp 48) (.tmp 49), none⟩,
   ⟨some 51, .load true 1 (.tmp 50), none⟩,
   ⟨some 52, .len (.tmp 51), none⟩,
   ⟨some 53, .mv (.con (.int .i64 0)), none⟩] [])
 (.block 0 (.loop (.seq (.region [⟨some 54, .bin .lss (.tmp 53) (.tmp 52), none⟩] [])
   (.seq (.cond (.tmp 54)
     .skip
     (.exit 0))
   (.seq (.block 1 (.seq (.region [⟨some 55, .mv (.tmp 53), none⟩,
       ⟨some 9, .mv (.tmp 55), none⟩] [])
     (.seq (.region [⟨some 56, .faddr (.tmp 7) 0, none⟩,
       ⟨some 57, .load true 1 (.tmp 56), none⟩,
       ⟨some 58, .mv (.tmp 1), none⟩,
       ⟨some 59, .isl 1 (.tmp 57) (.tmp 58), none⟩,
       ⟨some 60, .load true 1 (.tmp 59), none⟩,
       ⟨some 61, .mv (.tmp 9), none⟩,
       ⟨some 62, .isl 19 (.tmp 60) (.tmp 61), none⟩,
       ⟨some 10, .mv (.tmp 62), none⟩] [])
     (.seq (.region [⟨some 63, .mv (.tmp 10), none⟩,
       ⟨some 64, .nilchk (.tmp 63), none⟩,
       ⟨some 65, .faddr (.tmp 64) 18, none⟩,
       ⟨some 66, .load true 1 (.tmp 65), none⟩,
       ⟨some 67, .mv (.tmp 8), none⟩,
       ⟨some 68, .bin .lss (.tmp 66) (.tmp 67), none⟩] [])
     (.cond (.tmp 68)
      (.region [⟨some 69, .mv (.tmp 10), none⟩,
       ⟨some 70, .nilchk (.tmp 69), none⟩,
       ⟨some 71, .faddr (.tmp 70) 18, none⟩,
       ⟨some 72, .load true 1 (.tmp 71), none⟩,
       ⟨some 73, .bin .add (.tmp 72) (.con (.int .i64 1)), none⟩,
       ⟨some 74, .nilchk (.tmp 69), none⟩,
       ⟨some 75, .faddr (.tmp 74) 18, none⟩,
       ⟨none, .store 1 (.tmp 75) (.tmp 73), none⟩] [])
      .skip)))))
   (.region [⟨some 76, .bin .add (.tmp 53) (.con (.int .i64 1)), none⟩,
    ⟨some 53, .mv (.tmp 76), none⟩] [])))))))
(.seq (.region [⟨some 77, .faddr (.tmp 7) 0, none⟩,
  ⟨some 78, .load true 1 (.tmp 77), none⟩,
  ⟨some 79, .mv (.tmp 1), none⟩,
  ⟨some 80, .isl 1 (.tmp 78) (.tmp 79), none⟩,
  ⟨some 81, .load true 1 (.tmp 80), none⟩,
  ⟨some 82, .mv (.tmp 2), none⟩,
  ⟨some 83, .isl 19 (.tmp 81) (.tmp 82), none⟩,
  ⟨some 84, .faddr (.tmp 83) 18, none⟩,
  ⟨none, .store 1 (.tmp 84) (.con (.int .i64 0)), none⟩] [])
(.seq (.region [⟨some 85, .load false 1 (.tmp 7), none⟩,
  ⟨none, .store 1 (.tmp 6) (.tmp 85), none⟩] [])
.ret))))))), [.cell 6 false 1], true, none⟩
/-- cotterel/cotterelref39.Touch -/
def f20 : AFun := ⟨73, (.seq (.region [⟨some 3, .box (.tmp 0), none⟩,
  ⟨some 6, .alloc [(.imm true 0 [])], none⟩] [])
(.seq (.region [⟨some 9, .load false 1 (.tmp 3), none⟩,
  ⟨some 10, .call 41 [(.tmp 9)], none⟩,
  ⟨some 7, .alloc [(.imm true 0 [])], none⟩,
  ⟨none, .store 1 (.tmp 7) (.tmp 10), none⟩] [])
(.seq (.seq (.region [⟨some 11, .load false 1 (.tmp 3), none⟩,
   ⟨some 12, .mv (.tmp 1), none⟩,
   ⟨some 13, .mv (.tmp 2), none⟩,
   ⟨some 14, .call 42 [(.tmp 11), (.tmp 12), (.tmp 13)], none⟩,
   ⟨some 15, .un .not (.tmp 14), none⟩] [])
 (.cond (.tmp 15)
  (.seq (.region [⟨some 16, .load false 1 (.tmp 7), none⟩,
    ⟨none, .store 1 (.tmp 6) (.tmp 16), none⟩] [])
  .ret)
  .skip))
(.seq (.seq (.region [⟨some 8, .mv (.con (.int .i64 0)), none⟩] [])
 (.block 0 (.loop (.seq (.seq (.region [⟨some 17, .mv (.tmp 8), none⟩,
      ⟨some 18, .faddr (.tmp 7) 0, none⟩,
      ⟨some 19, .load true 1 (.tmp 18), none⟩,
      ⟨some 20, .mv (.tmp 1), none⟩,
      ⟨some 21, .isl 1 (.tmp 19) (.tmp 20), none⟩,
      ⟨some 22, .load true 1 (.tmp 21), none⟩,
      ⟨some 23, .len (.tmp 22), none⟩,
      ⟨some 24, .bin .lss (.tmp 17) (.tmp 23), none⟩] [])
    (.cond (.tmp 24)
     .skip
     (.exit 0)))
   (.seq (.block 1 (.seq (.region [⟨some 27, .faddr (.tmp 3) 0, none⟩,
       ⟨some 28, .load true 1 (.tmp 27), none⟩,
       ⟨some 29, .mv (.tmp 1), none⟩,
       ⟨some 30, .isl 1 (.tmp 28) (.tmp 29), none⟩,
       ⟨some 31, .load true 1 (.tmp 30), none⟩,
       ⟨some 32, .mv (.tmp 8), none⟩,
       ⟨some 33, .isl 19 (.tmp 31) (.tmp 32), none⟩,
       ⟨some 34, .faddr (.tmp 33) 18, none⟩,
       ⟨some 35, .load true 1 (.tmp 34), none⟩,
       ⟨some 36, .faddr (.tmp 3) 0, none⟩,
       ⟨some 37, .load true 1 (.tmp 36), none⟩,
       ⟨some 38, .mv (.tmp 1), none⟩,
       ⟨some 39, .isl 1 (.tmp 37) (.tmp 38), none⟩,
       ⟨some 40, .load true 1 (.tmp 39), none⟩,
       ⟨some 41, .mv (.tmp 2), none⟩,
       ⟨some 42, .isl 19 (.tmp 40) (.tmp 41), none⟩,
       ⟨some 43, .faddr (.tmp 42) 18, none⟩,
       ⟨some 44, .load true 1 (.tmp 43), none⟩,
       ⟨some 45, .bin .lss (.tmp 35) (.tmp 44), none⟩] [])
     (.cond (.tmp 45)
      (.region [⟨some 46, .faddr (.tmp 7) 0, none⟩,
       ⟨some 47, .load true 1 (.tmp 46), none⟩,
       ⟨some 48, .mv (.tmp 1), none⟩,
       ⟨some 49, .isl 1 (.tmp 47) (.tmp 48), none⟩,
       ⟨some 50, .load true 1 (.tmp 49), none⟩,
       ⟨some 51, .mv (.tmp 8), none⟩,
       ⟨some 52, .faddr (.tmp 3) 0, none⟩,
       ⟨some 53, .load true 1 (.tmp 52), none⟩,
       ⟨some 54, .mv (.tmp 1), none⟩,
       ⟨some 55, .isl 1 (.tmp 53) (.tmp 54), none⟩,
       ⟨some 56, .load true 1 (.tmp 55), none⟩,
       ⟨some 57, .mv (.tmp 8), none⟩,
       ⟨some 58, .isl 19 (.tmp 56) (.tmp 57), none⟩,
       ⟨some 59, .faddr (.tmp 58) 18, none⟩,
       ⟨some 60, .load true 1 (.tmp 59), none⟩,
       ⟨some 61, .bin .add (.tmp 60) (.con (.int .i64 1)), none⟩,
       ⟨some 62, .isl 19 (.tmp 50) (.tmp 51), none⟩,
       ⟨some 63, .faddr (.tmp 62) 18, none⟩,
       ⟨none, .store 1 (.tmp 63) (.tmp 61), none⟩] [])
      .skip)))
   (.region [⟨some 25, .mv (.tmp 8), none⟩,
    ⟨some 26, .bin .add (.tmp 25) (.con (.int .i64 1)), none⟩,
    ⟨some 8, .mv (.tmp 26), none⟩] []))))))
(.seq (.region [⟨some 64, .faddr (.tmp 7) 0, none⟩,
  ⟨some 65, .load true 1 (.tmp 64), none⟩,
  ⟨some 66, .mv (.tmp 1), none⟩,
  ⟨some 67, .isl 1 (.tmp 65) (.tmp 66), none⟩,
  ⟨some 68, .load true 1 (.tmp 67), none⟩,
  ⟨some 69, .mv (.tmp 2), none⟩,
  ⟨some 70, .isl 19 (.tmp 68) (.tmp 69), none⟩,
  ⟨some 71, .faddr (.tmp 70) 18, none⟩,
  ⟨none, .store 1 (.tmp 71) (.con (.int .i64 0)), none⟩] [])
(.seq (.region [⟨some 72, .load false 1 (.tmp 7), none⟩,
  ⟨none, .store 1 (.tmp 6) (.tmp 72), none⟩] [])
.ret)))))), [.cell 6 false 1], true, none⟩
/-- cotterel/cache.Read -/
def f21 : AFun := ⟨37, (.seq (.region [⟨some 3, .box (.tmp 0), none⟩,
  ⟨some 6, .mv (.con (.int .u32 0)), none⟩,
  ⟨some 7, .mv (.con (.bool false)), none⟩] [])
(.seq (.region [⟨some 13, .load false 1 (.tmp 3), none⟩,
  ⟨some 14, .mv (.tmp 1), none⟩,
  ⟨some 15, .mv (.tmp 2), none⟩,
  ⟨some 16, .call 43 [(.tmp 13), (.tmp 14), (.tmp 15)], none⟩,
  ⟨some 12, .mv (.tmp 16), none⟩,
  ⟨some 17, .extract (.tmp 12) 0, none⟩,
  ⟨some 18, .extract (.tmp 12) 1, none⟩,
  ⟨some 19, .extract (.tmp 12) 2, none⟩,
  ⟨some 20, .extract (.tmp 12) 3, none⟩,
  ⟨some 8, .mv (.tmp 17), none⟩,
  ⟨some 9, .mv (.tmp 18), none⟩,
  ⟨some 10, .mv (.tmp 19), none⟩,
  ⟨some 11, .mv (.tmp 20), none⟩] [])
(.seq (.seq (.region [⟨some 21, .mv (.tmp 11), none⟩,
   ⟨some 22, .un .not (.tmp 21), none⟩] [])
 (.cond (.tmp 22)
  (.seq (.region [⟨some 6, .mv (.con (.int .u32 0)), none⟩,
    ⟨some 7, .mv (.con (.bool false)), none⟩] [])
  .ret)
  .skip))
(.seq (.region [⟨some 23, .faddr (.tmp 3) 0, none⟩,
  ⟨some 24, .load true 1 (.tmp 23), none⟩,
  ⟨some 25, .mv (.tmp 8), none⟩,
  ⟨some 26, .isl 1 (.tmp 24) (.tmp 25), none⟩,
  ⟨some 27, .load true 1 (.tmp 26), none⟩,
  ⟨some 28, .mv (.tmp 9), none⟩,
  ⟨some 29, .isl 19 (.tmp 27) (.tmp 28), none⟩,
  ⟨some 30, .faddr (.tmp 29) 2, none⟩,
  ⟨some 31, .mv (.tmp 10), none⟩,
  ⟨some 32, .mv (.tmp 10), none⟩,
  ⟨some 33, .mv (.tmp 2), none⟩,
  ⟨some 34, .bin .add (.tmp 32) (.tmp 33), none⟩,
  ⟨some 35, .slArr 16 1 (.tmp 30) (some (.tmp 31)) (some (.tmp 34)) none, none⟩,
  ⟨some 36, .call 44 [(.tmp 35)], none⟩,
  ⟨some 6, .mv (.tmp 36), none⟩,
  ⟨some 7, .mv (.con (.bool true)), none⟩] [])
.ret)))), [.tmp 6, .tmp 7], true, none⟩
/-- cotterel/cotterelref39.Read -/
def f22 : AFun := ⟨55, (.seq (.region [⟨some 3, .box (.tmp 0), none⟩,
  ⟨some 6, .mv (.con (.int .u32 0)), none⟩,
  ⟨some 7, .mv (.con (.bool false)), none⟩] [])
(.seq (.region [⟨some 14, .load false 1 (.tmp 3), none⟩,
  ⟨some 15, .mv (.tmp 1), none⟩,
  ⟨some 16, .bin .quo (.tmp 15) (.con (.int .u32 16)), none⟩,
  ⟨some 17, .call 16 [(.tmp 14), (.tmp 16)], none⟩,
  ⟨some 13, .mv (.tmp 17), none⟩,
  ⟨some 18, .extract (.tmp 13) 0, none⟩,
  ⟨some 19, .extract (.tmp 13) 1, none⟩,
  ⟨some 20, .extract (.tmp 13) 2, none⟩,
  ⟨some 8, .mv (.tmp 18), none⟩,
  ⟨some 9, .mv (.tmp 19), none⟩,
  ⟨some 10, .mv (.tmp 20), none⟩] [])
(.seq (.seq (.region [⟨some 21, .mv (.tmp 10), none⟩,
   ⟨some 22, .un .not (.tmp 21), none⟩,
   ⟨some 23, .mv (.tmp 22), none⟩,
   ⟨some 24, .mv (.tmp 1), some (23, false)⟩,
   ⟨some 25, .mv (.tmp 2), some (23, false)⟩,
   ⟨some 26, .call 45 [(.tmp 24), (.tmp 25)], some (23, false)⟩,
   ⟨some 27, .un .not (.tmp 26), some (23, false)⟩,
   ⟨some 28, .pick (.tmp 23) (.con (.bool true)) (.tmp 27), none⟩] [])
 (.cond (.tmp 28)
  (.seq (.region [⟨some 6, .mv (.con (.int .u32 0)), none⟩,
    ⟨some 7, .mv (.con (.bool false)), none⟩] [])
  .ret)
  .skip))
(.seq (.region [⟨some 11, .mv (.con (.int .u32 0)), none⟩] [])
(.seq (.seq (.region [⟨some 29, .mv (.tmp 2), none⟩,
   ⟨some 30, .bin .sub (.tmp 29) (.con (.int .i64 1)), none⟩,
   ⟨some 12, .mv (.tmp 30), none⟩] [])
 (.block 0 (.loop (.seq (.seq (.region [⟨some 31, .mv (.tmp 12), none⟩,
      ⟨some 32, .bin .geq (.tmp 31) (.con (.int .i64 0)), none⟩] [])
    (.cond (.tmp 32)
     .skip
     (.exit 0)))
   (.seq (.block 1 (.region [⟨some 35, .mv (.tmp 11), none⟩,
      ⟨some 36, .bin .mul (.con (.int .u32 256)) (.tmp 35), none⟩,
      ⟨some 37, .faddr (.tmp 3) 0, none⟩,
      ⟨some 38, .load true 1 (.tmp 37), none⟩,
      ⟨some 39, .mv (.tmp 8), none⟩,
      ⟨some 40, .isl 1 (.tmp 38) (.tmp 39), none⟩,
      ⟨some 41, .load true 1 (.tmp 40), none⟩,
      ⟨some 42, .mv (.tmp 9), none⟩,
      ⟨some 43, .mv (.tmp 1), none⟩,
      ⟨some 44, .bin .rem (.tmp 43) (.con (.int .u32 16)), none⟩,
      ⟨some 45, .conv .i64 (.tmp 44), none⟩,
      ⟨some 46, .mv (.tmp 12), none⟩,
      ⟨some 47, .bin .add (.tmp 45) (.tmp 46), none⟩,
      ⟨some 48, .isl 19 (.tmp 41) (.tmp 42), none⟩,
      ⟨some 49, .faddr (.tmp 48) 2, none⟩,
      ⟨some 50, .iarr 16 1 (.tmp 49) (.tmp 47), none⟩,
      ⟨some 51, .load true 1 (.tmp 50), none⟩,
      ⟨some 52, .conv .u32 (.tmp 51), none⟩,
      ⟨some 53, .bin .add (.tmp 36) (.tmp 52), none⟩,
      ⟨some 11, .mv (.tmp 53), none⟩] []))
   (.region [⟨some 33, .mv (.tmp 12), none⟩,
    ⟨some 34, .bin .sub (.tmp 33) (.con (.int .i64 1)), none⟩,
    ⟨some 12, .mv (.tmp 34), none⟩] []))))))
(.seq (.region [⟨some 54, .mv (.tmp 11), none⟩,
  ⟨some 6, .mv (.tmp 54), none⟩,
  ⟨some 7, .mv (.con (.bool true)), none⟩] [])
.ret)))))), [.tmp 6, .tmp 7], true, none⟩
/-- cotterel/cache.Write -/
def f23 : AFun := ⟨75, (.seq (.region [⟨some 4, .box (.tmp 0), none⟩,
  ⟨some 8, .alloc [(.imm true 0 [])], none⟩,
  ⟨some 9, .mv (.con (.bool false)), none⟩] [])
(.seq (.region [⟨some 17, .load false 1 (.tmp 4), none⟩,
  ⟨some 18, .mv (.tmp 1), none⟩,
  ⟨some 19, .mv (.tmp 2), none⟩,
  ⟨some 20, .call 43 [(.tmp 17), (.tmp 18), (.tmp 19)], none⟩,
  ⟨some 16, .mv (.tmp 20), none⟩,
  ⟨some 21, .extract (.tmp 16) 0, none⟩,
  ⟨some 22, .extract (.tmp 16) 1, none⟩,
  ⟨some 23, .extract (.tmp 16) 2, none⟩,
  ⟨some 24, .extract (.tmp 16) 3, none⟩,
  ⟨some 10, .mv (.tmp 21), none⟩,
  ⟨some 11, .mv (.tmp 22), none⟩,
  ⟨some 12, .mv (.tmp 23), none⟩,
  ⟨some 13, .mv (.tmp 24), none⟩] [])
(.seq (.seq (.region [⟨some 25, .mv (.tmp 13), none⟩,
   ⟨some 26, .un .not (.tmp 25), none⟩,
   ⟨some 27, .mv (.tmp 26), none⟩,
   ⟨some 28, .faddr (.tmp 4) 0, some (27, false)⟩,
   ⟨some 29, .load true 1 (.tmp 28), some (27, false)⟩,
   ⟨some 30, .mv (.tmp 10), some (27, false)⟩,
   ⟨some 31, .isl 1 (.tmp 29) (.tmp 30), some (27, false)⟩,
   ⟨some 32, .load true 1 (.tmp 31), some (27, false)⟩,
   ⟨some 33, .mv (.tmp 11), some (27, false)⟩,
   ⟨some 34, .isl 19 (.tmp 32) (.tmp 33), some (27, false)⟩,
   ⟨some 35, .faddr (.tmp 34) 0, some (27, false)⟩,
   ⟨some 36, .load true 1 (.tmp 35), some (27, false)⟩,
   ⟨some 37, .bin .neq (.tmp 36) (.con (.int .i64 2)), some (27, false)⟩,
   ⟨some 38, .mv (.tmp 37), some (27, false)⟩,
   ⟨some 39, .faddr (.tmp 4) 0, some (38, true)⟩,
   ⟨some 40, .load true 1 (.tmp 39), some (38, true)⟩,
   ⟨some 41, .mv (.tmp 10), some (38, true)⟩,
   ⟨some 42, .isl 1 (.tmp 40) (.tmp 41), some (38, true)⟩,
   ⟨some 43, .load true 1 (.tmp 42), some (38, true)⟩,
   ⟨some 44, .mv (.tmp 11), some (38, true)⟩,
   ⟨some 45, .isl 19 (.tmp 43) (.tmp 44), some (38, true)⟩,
   ⟨some 46, .faddr (.tmp 45) 0, some (38, true)⟩,
   ⟨some 47, .load true 1 (.tmp 46), some (38, true)⟩,
   ⟨some 48, .bin .neq (.tmp 47) (.con (.int .i64 3)), some (38, true)⟩,
   ⟨some 49, .pick (.tmp 38) (.tmp 48) (.con (.bool false)), some (27, false)⟩,
   ⟨some 50, .pick (.tmp 27) (.con (.bool true)) (.tmp 49), none⟩] [])
 (.cond (.tmp 50)
  (.seq (.region [⟨some 51, .build [(.imm true 0 [])] [], none⟩,
    ⟨none, .store 1 (.tmp 8) (.tmp 51), none⟩,
    ⟨some 9, .mv (.con (.bool false)), none⟩] [])
  .ret)
  .skip))
(.seq (.region [⟨some 52, .load false 1 (.tmp 4), none⟩,
  ⟨some 53, .mv (.tmp 10), none⟩,
  ⟨some 54, .call 40 [(.tmp 52), (.tmp 53)], none⟩,
  ⟨some 14, .alloc [(.imm true 0 [])], none⟩,
  ⟨none, .store 1 (.tmp 14) (.tmp 54), none⟩] [])
(.seq (.region [⟨some 55, .faddr (.tmp 14) 0, none⟩,
  ⟨some 56, .load true 1 (.tmp 55), none⟩,
  ⟨some 57, .mv (.tmp 10), none⟩,
  ⟨some 58, .isl 1 (.tmp 56) (.tmp 57), none⟩,
  ⟨some 59, .load true 1 (.tmp 58), none⟩,
  ⟨some 60, .mv (.tmp 11), none⟩,
  ⟨some 61, .isl 19 (.tmp 59) (.tmp 60), none⟩,
  ⟨some 15, .mv (.tmp 61), none⟩] [])
(.seq (.region [⟨some 62, .mv (.tmp 15), none⟩,
  ⟨some 63, .nilchk (.tmp 62), none⟩,
  ⟨some 64, .faddr (.tmp 63) 2, none⟩,
  ⟨some 65, .mv (.tmp 12), none⟩,
  ⟨some 66, .slArr 16 1 (.tmp 64) (some (.tmp 65)) none none, none⟩,
  ⟨some 67, .mv (.tmp 3), none⟩,
  ⟨some 68, .mv (.tmp 2), none⟩,
  ⟨some 69, .call 46 [(.tmp 67), (.tmp 68)], none⟩,
  ⟨some 70, .copy 1 (.tmp 66) (.tmp 69), none⟩] [(4, 7)])
(.seq (.region [⟨some 71, .mv (.tmp 15), none⟩,
  ⟨some 72, .nilchk (.tmp 71), none⟩,
  ⟨some 73, .faddr (.tmp 72) 0, none⟩,
  ⟨none, .store 1 (.tmp 73) (.con (.int .i64 3)), none⟩] [])
(.seq (.region [⟨some 74, .load false 1 (.tmp 14), none⟩,
  ⟨none, .store 1 (.tmp 8) (.tmp 74), none⟩,
  ⟨some 9, .mv (.con (.bool true)), none⟩] [])
.ret)))))))), [.cell 8 false 1, .tmp 9], true, none⟩
/-- cotterel/cotterelref39.Write -/
def f24 : AFun := ⟨91, (.seq (.region [⟨some 4, .box (.tmp 0), none⟩,
  ⟨some 8, .alloc [(.imm true 0 [])], none⟩,
  ⟨some 9, .mv (.con (.bool false)), none⟩] [])
(.seq (.region [⟨some 16, .load false 1 (.tmp 4), none⟩,
  ⟨some 17, .mv (.tmp 1), none⟩,
  ⟨some 18, .bin .quo (.tmp 17) (.con (.int .u32 16)), none⟩,
  ⟨some 19, .call 16 [(.tmp 16), (.tmp 18)], none⟩,
  ⟨some 15, .mv (.tmp 19), none⟩,
  ⟨some 20, .extract (.tmp 15) 0, none⟩,
  ⟨some 21, .extract (.tmp 15) 1, none⟩,
  ⟨some 22, .extract (.tmp 15) 2, none⟩,
  ⟨some 10, .mv (.tmp 20), none⟩,
  ⟨some 11, .mv (.tmp 21), none⟩,
  ⟨some 12, .mv (.tmp 22), none⟩] [])
(.seq (.seq (.region [⟨some 23, .mv (.tmp 12), none⟩,
   ⟨some 24, .un .not (.tmp 23), none⟩,
   ⟨some 25, .mv (.tmp 24), none⟩,
   ⟨some 26, .mv (.tmp 1), some (25, false)⟩,
   ⟨some 27, .mv (.tmp 2), some (25, false)⟩,
   ⟨some 28, .call 45 [(.tmp 26), (.tmp 27)], some (25, false)⟩,
   ⟨some 29, .un .not (.tmp 28), some (25, false)⟩,
   ⟨some 30, .pick (.tmp 25) (.con (.bool true)) (.tmp 29), none⟩,
   ⟨some 31, .mv (.tmp 30), none⟩,
   ⟨some 32, .faddr (.tmp 4) 0, some (31, false)⟩,
   ⟨some 33, .load true 1 (.tmp 32), some (31, false)⟩,
   ⟨some 34, .mv (.tmp 10), some (31, false)⟩,
   ⟨some 35, .isl 1 (.tmp 33) (.tmp 34), some (31, false)⟩,
   ⟨some 36, .load true 1 (.tmp 35), some (31, false)⟩,
   ⟨some 37, .mv (.tmp 11), some (31, false)⟩,
   ⟨some 38, .isl 19 (.tmp 36) (.tmp 37), some (31, false)⟩,
   ⟨some 39, .faddr (.tmp 38) 0, some (31, false)⟩,
   ⟨some 40, .load true 1 (.tmp 39), some (31, false)⟩,
   ⟨some 41, .bin .neq (.tmp 40) (.con (.int .i64 2)), some (31, false)⟩,
   ⟨some 42, .mv (.tmp 41), some (31, false)⟩,
   ⟨some 43, .faddr (.tmp 4) 0, some (42, true)⟩,
   ⟨some 44, .load true 1 (.tmp 43), some (42, true)⟩,
   ⟨some 45, .mv (.tmp 10), some (42, true)⟩,
   ⟨some 46, .isl 1 (.tmp 44) (.tmp 45), some (42, true)⟩,
   ⟨some 47, .load true 1 (.tmp 46), some (42, true)⟩,
   ⟨some 48, .mv (.tmp 11), some (42, true)⟩,
   ⟨some 49, .isl 19 (.tmp 47) (.tmp 48), some (42, true)⟩,
   ⟨some 50, .faddr (.tmp 49) 0, some (42, true)⟩,
   ⟨some 51, .load true 1 (.tmp 50), some (42, true)⟩,
   ⟨some 52, .bin .neq (.tmp 51) (.con (.int .i64 3)), some (42, true)⟩,
   ⟨some 53, .pick (.tmp 42) (.tmp 52) (.con (.bool false)), some (31, false)⟩,
   ⟨some 54, .pick (.tmp 31) (.con (.bool true)) (.tmp 53), none⟩] [])
 (.cond (.tmp 54)
  (.seq (.region [⟨some 55, .build [(.imm true 0 [])] [], none⟩,
    ⟨none, .store 1 (.tmp 8) (.tmp 55), none⟩,
    ⟨some 9, .mv (.con (.bool false)), none⟩] [])
  .ret)
  .skip))
(.seq (.region [⟨some 56, .load false 1 (.tmp 4), none⟩,
  ⟨some 57, .call 41 [(.tmp 56)], none⟩,
  ⟨some 13, .alloc [(.imm true 0 [])], none⟩,
  ⟨none, .store 1 (.tmp 13) (.tmp 57), none⟩] [])
(.seq (.seq (.region [⟨some 14, .mv (.con (.int .i64 0)), none⟩] [])
 (.block 0 (.loop (.seq (.seq (.region [⟨some 58, .mv (.tmp 14), none⟩,
      ⟨some 59, .mv (.tmp 2), none⟩,
      ⟨some 60, .bin .lss (.tmp 58) (.tmp 59), none⟩] [])
    (.cond (.tmp 60)
     .skip
     (.exit 0)))
   (.seq (.block 1 (.seq (.region [⟨some 63, .faddr (.tmp 13) 0, none⟩,
       ⟨some 64, .load true 1 (.tmp 63), none⟩,
       ⟨some 65, .mv (.tmp 10), none⟩,
       ⟨some 66, .isl 1 (.tmp 64) (.tmp 65), none⟩,
       ⟨some 67, .load true 1 (.tmp 66), none⟩,
       ⟨some 68, .mv (.tmp 11), none⟩,
       ⟨some 69, .mv (.tmp 1), none⟩,
       ⟨some 70, .bin .rem (.tmp 69) (.con (.int .u32 16)), none⟩,
       ⟨some 71, .conv .i64 (.tmp 70), none⟩,
       ⟨some 72, .mv (.tmp 14), none⟩,
       ⟨some 73, .bin .add (.tmp 71) (.tmp 72), none⟩,
       ⟨some 74, .mv (.tmp 3), none⟩,
       ⟨some 75, .bin .rem (.tmp 74) (.con (.int .u32 256)), none⟩,
       ⟨some 76, .conv .u8 (.tmp 75), none⟩,
       ⟨some 77, .isl 19 (.tmp 67) (.tmp 68), none⟩,
       ⟨some 78, .faddr (.tmp 77) 2, none⟩,
       ⟨some 79, .iarr 16 1 (.tmp 78) (.tmp 73), none⟩,
       ⟨none, .store 1 (.tmp 79) (.tmp 76), none⟩] [])
     (.region [⟨some 80, .mv (.tmp 3), none⟩,
      ⟨some 81, .bin .quo (.tmp 80) (.con (.int .u32 256)), none⟩,
      ⟨some 3, .mv (.tmp 81), none⟩] [])))
   (.region [⟨some 61, .mv (.tmp 14), none⟩,
    ⟨some 62, .bin .add (.tmp 61) (.con (.int .i64 1)), none⟩,
    ⟨some 14, .mv (.tmp 62), none⟩] []))))))
(.seq (.region [⟨some 82, .faddr (.tmp 13) 0, none⟩,
  ⟨some 83, .load true 1 (.tmp 82), none⟩,
  ⟨some 84, .mv (.tmp 10), none⟩,
  ⟨some 85, .isl 1 (.tmp 83) (.tmp 84), none⟩,
  ⟨some 86, .load true 1 (.tmp 85), none⟩,
  ⟨some 87, .mv (.tmp 11), none⟩,
  ⟨some 88, .isl 19 (.tmp 86) (.tmp 87), none⟩,
  ⟨some 89, .faddr (.tmp 88) 0, none⟩,
  ⟨none, .store 1 (.tmp 89) (.con (.int .i64 3)), none⟩] [])
(.seq (.region [⟨some 90, .load false 1 (.tmp 13), none⟩,
  ⟨none, .store 1 (.tmp 8) (.tmp 90), none⟩,
  ⟨some 9, .mv (.con (.bool true)), none⟩] [])
.ret))))))), [.cell 8 false 1, .tmp 9], true, none⟩
/-- cotterel/cache.Fill -/
def f25 : AFun := ⟨76, (.seq (.region [⟨some 4, .box (.tmp 0), none⟩,
  ⟨some 7, .box (.tmp 3), none⟩,
  ⟨some 8, .alloc [(.imm true 0 [])], none⟩,
  ⟨some 9, .alloc [(.int .i64 0), (.int .u32 0), (.int .u8 0), (.int .u8 0), (.int .u8 0), (.int .u8 0), (.int .u8 0), (.int .u8 0), (.int .u8 0), (.int .u8 0), (.int .u8 0), (.int .u8 0), (.int .u8 0), (.int .u8 0), (.int .u8 0), (.int .u8 0), (.int .u8 0), (.int .u8 0), (.int .i64 0)], none⟩] [])
(.seq (.seq (.region [⟨some 15, .mv (.tmp 2), none⟩,
   ⟨some 16, .bin .lss (.tmp 15) (.con (.int .i64 1)), none⟩,
   ⟨some 17, .mv (.tmp 16), none⟩,
   ⟨some 18, .mv (.tmp 2), some (17, false)⟩,
   ⟨some 19, .bin .gtr (.tmp 18) (.con (.int .i64 3)), some (17, false)⟩,
   ⟨some 20, .pick (.tmp 17) (.con (.bool true)) (.tmp 19), none⟩,
   ⟨some 21, .mv (.tmp 20), none⟩,
   ⟨some 22, .load false 1 (.tmp 4), some (21, false)⟩,
   ⟨some 23, .mv (.tmp 1), some (21, false)⟩,
   ⟨some 24, .call 35 [(.tmp 22), (.tmp 23)], some (21, false)⟩,
   ⟨some 25, .len (.tmp 24), some (21, false)⟩,
   ⟨some 26, .bin .eql (.tmp 25) (.con (.int .i64 0)), some (21, false)⟩,
   ⟨some 27, .pick (.tmp 21) (.con (.bool true)) (.tmp 26), none⟩] [])
 (.cond (.tmp 27)
  (.seq (.region [⟨some 28, .load false 1 (.tmp 4), none⟩,
    ⟨some 29, .build [(.int .i64 0), (.int .u32 0), (.int .u8 0), (.int .u8 0), (.int .u8 0), (.int .u8 0), (.int .u8 0), (.int .u8 0), (.int .u8 0), (.int .u8 0), (.int .u8 0), (.int .u8 0), (.int .u8 0), (.int .u8 0), (.int .u8 0), (.int .u8 0), (.int .u8 0), (.int .u8 0), (.int .i64 0)] [], none⟩,
    ⟨none, .store 1 (.tmp 8) (.tmp 28), none⟩,
    ⟨none, .store 19 (.tmp 9) (.tmp 29), none⟩] [])
  .ret)
  .skip))
(.seq (.region [⟨some 31, .load false 1 (.tmp 4), none⟩,
  ⟨some 32, .mv (.tmp 1), none⟩,
  ⟨some 33, .call 17 [(.tmp 31), (.tmp 32)], none⟩,
  ⟨some 30, .mv (.tmp 33), none⟩,
  ⟨some 34, .extract (.tmp 30) 0, none⟩,
  ⟨some 35, .extract (.tmp 30) 1, none⟩,
  ⟨some 10, .mv (.tmp 34), none⟩,
  ⟨some 11, .mv (.tmp 35), none⟩] [])
(.seq (.region [⟨some 36, .load false 1 (.tmp 4), none⟩,
  ⟨some 37, .mv (.tmp 10), none⟩,
  ⟨some 38, .call 40 [(.tmp 36), (.tmp 37)], none⟩,
  ⟨some 12, .alloc [(.imm true 0 [])], none⟩,
  ⟨none, .store 1 (.tmp 12) (.tmp 38), none⟩] [])
(.seq (.region [⟨some 39, .faddr (.tmp 12) 0, none⟩,
  ⟨some 40, .load true 1 (.tmp 39), none⟩,
  ⟨some 41, .mv (.tmp 10), none⟩,
  ⟨some 42, .isl 1 (.tmp 40) (.tmp 41), none⟩,
  ⟨some 43, .load true 1 (.tmp 42), none⟩,
  ⟨some 44, .mv (.tmp 11), none⟩,
  ⟨some 45, .isl 19 (.tmp 43) (.tmp 44), none⟩,
  ⟨some 13, .mv (.tmp 45), none⟩] [])
(.seq (.region [⟨some 46, .mv (.tmp 13), none⟩,
  ⟨some 47, .nilchk (.tmp 46), none⟩,
  ⟨some 48, .load false 19 (.tmp 47), none⟩,
  ⟨some 14, .alloc [(.int .i64 0), (.int .u32 0), (.int .u8 0), (.int .u8 0), (.int .u8 0), (.int .u8 0), (.int .u8 0), (.int .u8 0), (.int .u8 0), (.int .u8 0), (.int .u8 0), (.int .u8 0), (.int .u8 0), (.int .u8 0), (.int .u8 0), (.int .u8 0), (.int .u8 0), (.int .u8 0), (.int .i64 0)], none⟩,
  ⟨none, .store 19 (.tmp 14) (.tmp 48), none⟩] [])
(.seq (.seq (.region [⟨some 49, .faddr (.tmp 14) 0, none⟩,
   ⟨some 50, .load true 1 (.tmp 49), none⟩,
   ⟨some 51, .bin .eql (.tmp 50) (.con (.int .i64 0)), none⟩,
   ⟨some 52, .mv (.tmp 51), none⟩,
   ⟨some 53, .faddr (.tmp 14) 1, some (52, false)⟩,
   ⟨some 54, .load true 1 (.tmp 53), some (52, false)⟩,
   ⟨some 55, .mv (.tmp 1), some (52, false)⟩,
   ⟨some 56, .bin .eql (.tmp 54) (.tmp 55), some (52, false)⟩,
   ⟨some 57, .pick (.tmp 52) (.con (.bool true)) (.tmp 56), none⟩] [])
 (.cond (.tmp 57)
  (.region [⟨some 58, .build [(.int .i64 0), (.int .u32 0), (.int .u8 0), (.int .u8 0), (.int .u8 0), (.int .u8 0), (.int .u8 0), (.int .u8 0), (.int .u8 0), (.int .u8 0), (.int .u8 0), (.int .u8 0), (.int .u8 0), (.int .u8 0), (.int .u8 0), (.int .u8 0), (.int .u8 0), (.int .u8 0), (.int .i64 0)] [], none⟩,
   ⟨none, .store 19 (.tmp 14) (.tmp 58), none⟩] [])
  .skip))
(.seq (.region [⟨some 59, .mv (.tmp 13), none⟩,
  ⟨some 60, .mv (.tmp 13), none⟩,
  ⟨some 61, .mv (.tmp 13), none⟩,
  ⟨some 62, .mv (.tmp 2), none⟩,
  ⟨some 63, .mv (.tmp 1), none⟩,
  ⟨some 64, .load false 16 (.tmp 7), none⟩,
  ⟨some 65, .nilchk (.tmp 59), none⟩,
  ⟨some 66, .faddr (.tmp 65) 0, none⟩,
  ⟨none, .store 1 (.tmp 66) (.tmp 62), none⟩,
  ⟨some 67, .nilchk (.tmp 60), none⟩,
  ⟨some 68, .faddr (.tmp 67) 1, none⟩,
  ⟨none, .store 1 (.tmp 68) (.tmp 63), none⟩,
  ⟨some 69, .nilchk (.tmp 61), none⟩,
  ⟨some 70, .faddr (.tmp 69) 2, none⟩,
  ⟨none, .store 16 (.tmp 70) (.tmp 64), none⟩] [(5, 8), (5, 11)])
(.seq (.region [⟨some 71, .load false 1 (.tmp 12), none⟩,
  ⟨some 72, .mv (.tmp 10), none⟩,
  ⟨some 73, .mv (.tmp 11), none⟩,
  ⟨some 74, .call 19 [(.tmp 71), (.tmp 72), (.tmp 73)], none⟩,
  ⟨some 75, .load false 19 (.tmp 14), none⟩,
  ⟨none, .store 1 (.tmp 8) (.tmp 74), none⟩,
  ⟨none, .store 19 (.tmp 9) (.tmp 75), none⟩] [(3, 4), (4, 5)])
.ret))))))))), [.cell 8 false 1, .cell 9 false 19], true, none⟩
/-- cotterel/cotterelref39.Fill -/
def f26 : AFun := ⟨74, (.seq (.region [⟨some 4, .box (.tmp 0), none⟩,
  ⟨some 7, .box (.tmp 3), none⟩,
  ⟨some 8, .alloc [(.imm true 0 [])], none⟩,
  ⟨some 9, .alloc [(.int .i64 0), (.int .u32 0), (.int .u8 0), (.int .u8 0), (.int .u8 0), (.int .u8 0), (.int .u8 0), (.int .u8 0), (.int .u8 0), (.int .u8 0), (.int .u8 0), (.int .u8 0), (.int .u8 0), (.int .u8 0), (.int .u8 0), (.int .u8 0), (.int .u8 0), (.int .u8 0), (.int .i64 0)], none⟩] [])
(.seq (.region [⟨some 15, .load false 1 (.tmp 4), none⟩,
  ⟨some 16, .mv (.tmp 1), none⟩,
  ⟨some 17, .call 18 [(.tmp 15), (.tmp 16)], none⟩,
  ⟨some 14, .mv (.tmp 17), none⟩,
  ⟨some 18, .extract (.tmp 14) 0, none⟩,
  ⟨some 19, .extract (.tmp 14) 1, none⟩,
  ⟨some 10, .mv (.tmp 18), none⟩,
  ⟨some 11, .mv (.tmp 19), none⟩] [])
(.seq (.seq (.region [⟨some 20, .mv (.tmp 2), none⟩,
   ⟨some 21, .bin .lss (.tmp 20) (.con (.int .i64 1)), none⟩,
   ⟨some 22, .mv (.tmp 21), none⟩,
   ⟨some 23, .mv (.tmp 2), some (22, false)⟩,
   ⟨some 24, .bin .gtr (.tmp 23) (.con (.int .i64 3)), some (22, false)⟩,
   ⟨some 25, .pick (.tmp 22) (.con (.bool true)) (.tmp 24), none⟩,
   ⟨some 26, .mv (.tmp 25), none⟩,
   ⟨some 27, .load false 1 (.tmp 4), some (26, false)⟩,
   ⟨some 28, .mv (.tmp 10), some (26, false)⟩,
   ⟨some 29, .mv (.tmp 11), some (26, false)⟩,
   ⟨some 30, .call 42 [(.tmp 27), (.tmp 28), (.tmp 29)], some (26, false)⟩,
   ⟨some 31, .un .not (.tmp 30), some (26, false)⟩,
   ⟨some 32, .pick (.tmp 26) (.con (.bool true)) (.tmp 31), none⟩] [])
 (.cond (.tmp 32)
  (.seq (.region [⟨some 33, .load false 1 (.tmp 4), none⟩,
    ⟨some 34, .call 41 [(.tmp 33)], none⟩,
    ⟨some 35, .build [(.int .i64 0), (.int .u32 0), (.int .u8 0), (.int .u8 0), (.int .u8 0), (.int .u8 0), (.int .u8 0), (.int .u8 0), (.int .u8 0), (.int .u8 0), (.int .u8 0), (.int .u8 0), (.int .u8 0), (.int .u8 0), (.int .u8 0), (.int .u8 0), (.int .u8 0), (.int .u8 0), (.int .i64 0)] [], none⟩,
    ⟨none, .store 1 (.tmp 8) (.tmp 34), none⟩,
    ⟨none, .store 19 (.tmp 9) (.tmp 35), none⟩] [])
  .ret)
  .skip))
(.seq (.region [⟨some 36, .faddr (.tmp 4) 0, none⟩,
  ⟨some 37, .load true 1 (.tmp 36), none⟩,
  ⟨some 38, .mv (.tmp 10), none⟩,
  ⟨some 39, .isl 1 (.tmp 37) (.tmp 38), none⟩,
  ⟨some 40, .load true 1 (.tmp 39), none⟩,
  ⟨some 41, .mv (.tmp 11), none⟩,
  ⟨some 42, .isl 19 (.tmp 40) (.tmp 41), none⟩,
  ⟨some 43, .load false 19 (.tmp 42), none⟩,
  ⟨some 12, .alloc [(.int .i64 0), (.int .u32 0), (.int .u8 0), (.int .u8 0), (.int .u8 0), (.int .u8 0), (.int .u8 0), (.int .u8 0), (.int .u8 0), (.int .u8 0), (.int .u8 0), (.int .u8 0), (.int .u8 0), (.int .u8 0), (.int .u8 0), (.int .u8 0), (.int .u8 0), (.int .u8 0), (.int .i64 0)], none⟩,
  ⟨none, .store 19 (.tmp 12) (.tmp 43), none⟩] [])
(.seq (.region [⟨some 44, .load false 1 (.tmp 4), none⟩,
  ⟨some 45, .call 41 [(.tmp 44)], none⟩,
  ⟨some 13, .alloc [(.imm true 0 [])], none⟩,
  ⟨none, .store 1 (.tmp 13) (.tmp 45), none⟩] [])
(.seq (.region [⟨some 46, .faddr (.tmp 13) 0, none⟩,
  ⟨some 47, .load true 1 (.tmp 46), none⟩,
  ⟨some 48, .mv (.tmp 10), none⟩,
  ⟨some 49, .isl 1 (.tmp 47) (.tmp 48), none⟩,
  ⟨some 50, .load true 1 (.tmp 49), none⟩,
  ⟨some 51, .mv (.tmp 11), none⟩,
  ⟨some 52, .mv (.tmp 2), none⟩,
  ⟨some 53, .mv (.tmp 1), none⟩,
  ⟨some 54, .load false 16 (.tmp 7), none⟩,
  ⟨some 55, .faddr (.tmp 12) 18, none⟩,
  ⟨some 56, .load true 1 (.tmp 55), none⟩,
  ⟨some 57, .build [(.int .i64 0), (.int .u32 0), (.int .u8 0), (.int .u8 0), (.int .u8 0), (.int .u8 0), (.int .u8 0), (.int .u8 0), (.int .u8 0), (.int .u8 0), (.int .u8 0), (.int .u8 0), (.int .u8 0), (.int .u8 0), (.int .u8 0), (.int .u8 0), (.int .u8 0), (.int .u8 0), (.int .i64 0)] [(0, 1, (.tmp 52)), (1, 1, (.tmp 53)), (2, 16, (.tmp 54)), (18, 1, (.tmp 56))], none⟩,
  ⟨some 58, .isl 19 (.tmp 50) (.tmp 51), none⟩,
  ⟨none, .store 19 (.tmp 58) (.tmp 57), none⟩] [])
(.seq (.seq (.region [⟨some 59, .faddr (.tmp 12) 0, none⟩,
   ⟨some 60, .load true 1 (.tmp 59), none⟩,
   ⟨some 61, .bin .eql (.tmp 60) (.con (.int .i64 0)), none⟩,
   ⟨some 62, .mv (.tmp 61), none⟩,
   ⟨some 63, .faddr (.tmp 12) 1, some (62, false)⟩,
   ⟨some 64, .load true 1 (.tmp 63), some (62, false)⟩,
   ⟨some 65, .mv (.tmp 1), some (62, false)⟩,
   ⟨some 66, .bin .eql (.tmp 64) (.tmp 65), some (62, false)⟩,
   ⟨some 67, .pick (.tmp 62) (.con (.bool true)) (.tmp 66), none⟩] [])
 (.cond (.tmp 67)
  (.region [⟨some 68, .build [(.int .i64 0), (.int .u32 0), (.int .u8 0), (.int .u8 0), (.int .u8 0), (.int .u8 0), (.int .u8 0), (.int .u8 0), (.int .u8 0), (.int .u8 0), (.int .u8 0), (.int .u8 0), (.int .u8 0), (.int .u8 0), (.int .u8 0), (.int .u8 0), (.int .u8 0), (.int .u8 0), (.int .i64 0)] [], none⟩,
   ⟨none, .store 19 (.tmp 12) (.tmp 68), none⟩] [])
  .skip))
(.seq (.region [⟨some 69, .load false 1 (.tmp 13), none⟩,
  ⟨some 70, .mv (.tmp 10), none⟩,
  ⟨some 71, .mv (.tmp 11), none⟩,
  ⟨some 72, .call 20 [(.tmp 69), (.tmp 70), (.tmp 71)], none⟩,
  ⟨some 73, .load false 19 (.tmp 12), none⟩,
  ⟨none, .store 1 (.tmp 8) (.tmp 72), none⟩,
  ⟨none, .store 19 (.tmp 9) (.tmp 73), none⟩] [(3, 4), (4, 5)])
.ret)))))))), [.cell 8 false 1, .cell 9 false 19], true, none⟩
/-- cotterel/cache.Set -/
def f27 : AFun := ⟨54, (.seq (.region [⟨some 3, .box (.tmp 0), none⟩,
  ⟨some 6, .alloc [(.imm true 0 [])], none⟩] [])
(.seq (.region [⟨some 13, .load false 1 (.tmp 3), none⟩,
  ⟨some 14, .mv (.tmp 1), none⟩,
  ⟨some 15, .call 15 [(.tmp 13), (.tmp 14)], none⟩,
  ⟨some 12, .mv (.tmp 15), none⟩,
  ⟨some 16, .extract (.tmp 12) 0, none⟩,
  ⟨some 17, .extract (.tmp 12) 1, none⟩,
  ⟨some 18, .extract (.tmp 12) 2, none⟩,
  ⟨some 7, .mv (.tmp 16), none⟩,
  ⟨some 8, .mv (.tmp 17), none⟩,
  ⟨some 9, .mv (.tmp 18), none⟩] [])
(.seq (.seq (.region [⟨some 19, .mv (.tmp 9), none⟩,
   ⟨some 20, .un .not (.tmp 19), none⟩,
   ⟨some 21, .mv (.tmp 20), none⟩,
   ⟨some 22, .mv (.tmp 2), some (21, false)⟩,
   ⟨some 23, .bin .lss (.tmp 22) (.con (.int .i64 0)), some (21, false)⟩,
   ⟨some 24, .pick (.tmp 21) (.con (.bool true)) (.tmp 23), none⟩,
   ⟨some 25, .mv (.tmp 24), none⟩,
   ⟨some 26, .mv (.tmp 2), some (25, false)⟩,
   ⟨some 27, .bin .gtr (.tmp 26) (.con (.int .i64 3)), some (25, false)⟩,
   ⟨some 28, .pick (.tmp 25) (.con (.bool true)) (.tmp 27), none⟩] [])
 (.cond (.tmp 28)
  (.seq (.region [⟨some 29, .load false 1 (.tmp 3), none⟩,
    ⟨none, .store 1 (.tmp 6) (.tmp 29), none⟩] [])
  .ret)
  .skip))
(.seq (.region [⟨some 30, .load false 1 (.tmp 3), none⟩,
  ⟨some 31, .mv (.tmp 7), none⟩,
  ⟨some 32, .call 40 [(.tmp 30), (.tmp 31)], none⟩,
  ⟨some 10, .alloc [(.imm true 0 [])], none⟩,
  ⟨none, .store 1 (.tmp 10) (.tmp 32), none⟩] [])
(.seq (.region [⟨some 33, .faddr (.tmp 10) 0, none⟩,
  ⟨some 34, .load true 1 (.tmp 33), none⟩,
  ⟨some 35, .mv (.tmp 7), none⟩,
  ⟨some 36, .isl 1 (.tmp 34) (.tmp 35), none⟩,
  ⟨some 37, .load true 1 (.tmp 36), none⟩,
  ⟨some 38, .mv (.tmp 8), none⟩,
  ⟨some 39, .isl 19 (.tmp 37) (.tmp 38), none⟩,
  ⟨some 11, .mv (.tmp 39), none⟩] [])
(.seq (.region [⟨some 40, .mv (.tmp 11), none⟩,
  ⟨some 41, .mv (.tmp 2), none⟩,
  ⟨some 42, .nilchk (.tmp 40), none⟩,
  ⟨some 43, .faddr (.tmp 42) 0, none⟩,
  ⟨none, .store 1 (.tmp 43) (.tmp 41), none⟩] [])
(.seq (.seq (.region [⟨some 44, .mv (.tmp 2), none⟩,
   ⟨some 45, .bin .eql (.tmp 44) (.con (.int .i64 0)), none⟩] [])
 (.cond (.tmp 45)
  (.region [⟨some 46, .mv (.tmp 11), none⟩,
   ⟨some 47, .mv (.tmp 11), none⟩,
   ⟨some 48, .nilchk (.tmp 47), none⟩,
   ⟨some 49, .faddr (.tmp 48) 18, none⟩,
   ⟨some 50, .load true 1 (.tmp 49), none⟩,
   ⟨some 51, .build [(.int .i64 0), (.int .u32 0), (.int .u8 0), (.int .u8 0), (.int .u8 0), (.int .u8 0), (.int .u8 0), (.int .u8 0), (.int .u8 0), (.int .u8 0), (.int .u8 0), (.int .u8 0), (.int .u8 0), (.int .u8 0), (.int .u8 0), (.int .u8 0), (.int .u8 0), (.int .u8 0), (.int .i64 0)] [(18, 1, (.tmp 50))], none⟩,
   ⟨some 52, .nilchk (.tmp 46), none⟩,
   ⟨none, .store 19 (.tmp 52) (.tmp 51), none⟩] [])
  .skip))
(.seq (.region [⟨some 53, .load false 1 (.tmp 10), none⟩,
  ⟨none, .store 1 (.tmp 6) (.tmp 53), none⟩] [])
.ret)))))))), [.cell 6 false 1], true, none⟩
/-- cotterel/cotterelref39.Set -/
def f28 : AFun := ⟨60, (.seq (.region [⟨some 3, .box (.tmp 0), none⟩,
  ⟨some 6, .alloc [(.imm true 0 [])], none⟩] [])
(.seq (.region [⟨some 11, .load false 1 (.tmp 3), none⟩,
  ⟨some 12, .call 41 [(.tmp 11)], none⟩,
  ⟨some 7, .alloc [(.imm true 0 [])], none⟩,
  ⟨none, .store 1 (.tmp 7) (.tmp 12), none⟩] [])
(.seq (.region [⟨some 14, .load false 1 (.tmp 3), none⟩,
  ⟨some 15, .mv (.tmp 1), none⟩,
  ⟨some 16, .call 16 [(.tmp 14), (.tmp 15)], none⟩,
  ⟨some 13, .mv (.tmp 16), none⟩,
  ⟨some 17, .extract (.tmp 13) 0, none⟩,
  ⟨some 18, .extract (.tmp 13) 1, none⟩,
  ⟨some 19, .extract (.tmp 13) 2, none⟩,
  ⟨some 8, .mv (.tmp 17), none⟩,
  ⟨some 9, .mv (.tmp 18), none⟩,
  ⟨some 10, .mv (.tmp 19), none⟩] [])
(.seq (.seq (.region [⟨some 20, .mv (.tmp 10), none⟩,
   ⟨some 21, .un .not (.tmp 20), none⟩,
   ⟨some 22, .mv (.tmp 21), none⟩,
   ⟨some 23, .mv (.tmp 2), some (22, false)⟩,
   ⟨some 24, .bin .lss (.tmp 23) (.con (.int .i64 0)), some (22, false)⟩,
   ⟨some 25, .pick (.tmp 22) (.con (.bool true)) (.tmp 24), none⟩,
   ⟨some 26, .mv (.tmp 25), none⟩,
   ⟨some 27, .mv (.tmp 2), some (26, false)⟩,
   ⟨some 28, .bin .gtr (.tmp 27) (.con (.int .i64 3)), some (26, false)⟩,
   ⟨some 29, .pick (.tmp 26) (.con (.bool true)) (.tmp 28), none⟩] [])
 (.cond (.tmp 29)
  (.seq (.region [⟨some 30, .load false 1 (.tmp 7), none⟩,
    ⟨none, .store 1 (.tmp 6) (.tmp 30), none⟩] [])
  .ret)
  .skip))
(.seq (.region [⟨some 31, .faddr (.tmp 7) 0, none⟩,
  ⟨some 32, .load true 1 (.tmp 31), none⟩,
  ⟨some 33, .mv (.tmp 8), none⟩,
  ⟨some 34, .isl 1 (.tmp 32) (.tmp 33), none⟩,
  ⟨some 35, .load true 1 (.tmp 34), none⟩,
  ⟨some 36, .mv (.tmp 9), none⟩,
  ⟨some 37, .mv (.tmp 2), none⟩,
  ⟨some 38, .isl 19 (.tmp 35) (.tmp 36), none⟩,
  ⟨some 39, .faddr (.tmp 38) 0, none⟩,
  ⟨none, .store 1 (.tmp 39) (.tmp 37), none⟩] [])
(.seq (.seq (.region [⟨some 40, .mv (.tmp 2), none⟩,
   ⟨some 41, .bin .eql (.tmp 40) (.con (.int .i64 0)), none⟩] [])
 (.cond (.tmp 41)
  (.region [⟨some 42, .faddr (.tmp 7) 0, none⟩,
   ⟨some 43, .load true 1 (.tmp 42), none⟩,
   ⟨some 44, .mv (.tmp 8), none⟩,
   ⟨some 45, .isl 1 (.tmp 43) (.tmp 44), none⟩,
   ⟨some 46, .load true 1 (.tmp 45), none⟩,
   ⟨some 47, .mv (.tmp 9), none⟩,
   ⟨some 48, .faddr (.tmp 3) 0, none⟩,
   ⟨some 49, .load true 1 (.tmp 48), none⟩,
   ⟨some 50, .mv (.tmp 8), none⟩,
   ⟨some 51, .isl 1 (.tmp 49) (.tmp 50), none⟩,
   ⟨some 52, .load true 1 (.tmp 51), none⟩,
   ⟨some 53, .mv (.tmp 9), none⟩,
   ⟨some 54, .isl 19 (.tmp 52) (.tmp 53), none⟩,
   ⟨some 55, .faddr (.tmp 54) 18, none⟩,
   ⟨some 56, .load true 1 (.tmp 55), none⟩,
   ⟨some 57, .build [(.int .i64 0), (.int .u32 0), (.int .u8 0), (.int .u8 0), (.int .u8 0), (.int .u8 0), (.int .u8 0), (.int .u8 0), (.int .u8 0), (.int .u8 0), (.int .u8 0), (.int .u8 0), (.int .u8 0), (.int .u8 0), (.int .u8 0), (.int .u8 0), (.int .u8 0), (.int .u8 0), (.int .i64 0)] [(18, 1, (.tmp 56))], none⟩,
   ⟨some 58, .isl 19 (.tmp 46) (.tmp 47), none⟩,
   ⟨none, .store 19 (.tmp 58) (.tmp 57), none⟩] [])
  .skip))
(.seq (.region [⟨some 59, .load false 1 (.tmp 7), none⟩,
  ⟨none, .store 1 (.tmp 6) (.tmp 59), none⟩] [])
.ret))))))), [.cell 6 false 1], true, none⟩
/-- cotterel/bits.Zext -/
def f29 : AFun := ⟨10, (.seq (.region [⟨some 4, .mv (.con (.int .u32 0)), none⟩] [])
(.seq (.region [⟨some 5, .mv (.tmp 0), none⟩,
  ⟨some 6, .mv (.tmp 1), none⟩,
  ⟨some 7, .call 48 [(.tmp 6), (.con (.int .i64 0)), (.con (.int .i64 32))], none⟩,
  ⟨some 8, .call 47 [(.tmp 7)], none⟩,
  ⟨some 9, .bin .and (.tmp 5) (.tmp 8), none⟩,
  ⟨some 4, .mv (.tmp 9), none⟩] [])
.ret)), [.tmp 4], true, none⟩
/-- cotterel/cache.clamp -/
def f30 : AFun := ⟨12, (.seq (.region [⟨some 6, .mv (.con (.int .i64 0)), none⟩] [])
(.seq (.region [⟨some 7, .mv (.tmp 0), none⟩,
  ⟨some 8, .mv (.tmp 1), none⟩,
  ⟨some 9, .mx [(.tmp 7), (.tmp 8)], none⟩,
  ⟨some 10, .mv (.tmp 2), none⟩,
  ⟨some 11, .mn [(.tmp 9), (.tmp 10)], none⟩,
  ⟨some 6, .mv (.tmp 11), none⟩] [])
.ret)), [.tmp 6], true, none⟩
/-- cotterel/cache.fine -/
def f31 : AFun := ⟨99, (.seq (.region [⟨some 2, .box (.tmp 0), none⟩,
  ⟨some 4, .mv (.con (.bool false)), none⟩] [])
(.seq (.region [⟨some 12, .faddr (.tmp 2) 0, none⟩,
  ⟨some 13, .load true 1 (.tmp 12), none⟩,
  ⟨some 14, .mv (.tmp 1), none⟩,
  ⟨some 15, .isl 1 (.tmp 13) (.tmp 14), none⟩,
  ⟨some 16, .load true 1 (.tmp 15), none⟩,
  ⟨some 5, .mv (.tmp 16), none⟩] [])
(.seq (.seq (.region [⟨some 17, .mv (.tmp 5), none⟩,
   ⟨some 18, .len (.tmp 17), none⟩,
   ⟨some 19, .bin .lss (.tmp 18) (.con (.int .i64 1)), none⟩,
   ⟨some 20, .mv (.tmp 19), none⟩,
   ⟨some 21, .mv (.tmp 5), some (20, false)⟩,
   ⟨some 22, .len (.tmp 21), some (20, false)⟩,
   ⟨some 23, .bin .gtr (.tmp 22) (.con (.int .i64 4)), some (20, false)⟩,
   ⟨some 24, .pick (.tmp 20) (.con (.bool true)) (.tmp 23), none⟩] [])
 (.cond (.tmp 24)
  (.seq (.region [⟨some 4, .mv (.con (.bool false)), none⟩] [])
  .ret)
  .skip))
(.seq (.region [⟨some 25, .mv (.tmp 5), none⟩,
  ⟨some 26, .len (.tmp 25), none⟩,
  ⟨some 27, .mksl [(.bool false)] 1 1 (.tmp 26) (.tmp 26), none⟩,
  ⟨some 6, .mv (.tmp 27), none⟩] [])
(.seq (.seq (.region [⟨some 28, .mv (.tmp 5), none⟩,
   ⟨some 29, .len (.tmp 28), none⟩,
   ⟨some 30, .mv (.con (.int .i64 0)), none⟩] [])
 (.block 0 (.loop (.seq (.region [⟨some 31, .bin .lss (.tmp 30) (.tmp 29), none⟩] [])
   (.seq (.cond (.tmp 31)
     .skip
     (.exit 0))
   (.seq (.block 1 (.seq (.region [⟨some 32, .mv (.tmp 30), none⟩,
       ⟨some 33, .isl 19 (.tmp 28) (.tmp 30), none⟩,
       ⟨some 34, .load false 19 (.tmp 33), none⟩,
       ⟨some 8, .alloc [(.int .i64 0), (.int .u32 0), (.int .u8 0), (.int .u8 0), (.int .u8 0), (.int .u8 0), (.int .u8 0), (.int .u8 0), (.int .u8 0), (.int .u8 0), (.int .u8 0), (.int .u8 0), (.int .u8 0), (.int .u8 0), (.int .u8 0), (.int .u8 0), (.int .u8 0), (.int .u8 0), (.int .i64 0)], none⟩,
       ⟨some 7, .mv (.tmp 32), none⟩,
       ⟨none, .store 19 (.tmp 8) (.tmp 34), none⟩] [])
     (.seq (.seq (.region [⟨some 35, .faddr (.tmp 8) 18, none⟩,
        ⟨some 36, .load true 1 (.tmp 35), none⟩,
        ⟨some 37, .bin .lss (.tmp 36) (.con (.int .i64 0)), none⟩,
        ⟨some 38, .mv (.tmp 37), none⟩,
        ⟨some 39, .faddr (.tmp 8) 18, some (38, false)⟩,
        ⟨some 40, .load true 1 (.tmp 39), some (38, false)⟩,
        ⟨some 41, .mv (.tmp 5), some (38, false)⟩,
        ⟨some 42, .len (.tmp 41), some (38, false)⟩,
        ⟨some 43, .bin .geq (.tmp 40) (.tmp 42), some (38, false)⟩,
        ⟨some 44, .pick (.tmp 38) (.con (.bool true)) (.tmp 43), none⟩,
        ⟨some 45, .mv (.tmp 44), none⟩,
        ⟨some 46, .mv (.tmp 6), some (45, false)⟩,
        ⟨some 47, .faddr (.tmp 8) 18, some (45, false)⟩,
        ⟨some 48, .load true 1 (.tmp 47), some (45, false)⟩,
        ⟨some 49, .isl 1 (.tmp 46) (.tmp 48), some (45, false)⟩,
        ⟨some 50, .load true 1 (.tmp 49), some (45, false)⟩,
        ⟨some 51, .pick (.tmp 45) (.con (.bool true)) (.tmp 50), none⟩,
        ⟨some 52, .mv (.tmp 51), none⟩,
        ⟨some 53, .faddr (.tmp 8) 0, some (52, false)⟩,
        ⟨some 54, .load true 1 (.tmp 53), some (52, false)⟩,
        ⟨some 55, .bin .lss (.tmp 54) (.con (.int .i64 0)), some (52, false)⟩,
        ⟨some 56, .pick (.tmp 52) (.con (.bool true)) (.tmp 55), none⟩,
        ⟨some 57, .mv (.tmp 56), none⟩,
        ⟨some 58, .faddr (.tmp 8) 0, some (57, false)⟩,
        ⟨some 59, .load true 1 (.tmp 58), some (57, false)⟩,
        ⟨some 60, .bin .gtr (.tmp 59) (.con (.int .i64 3)), some (57, false)⟩,
        ⟨some 61, .pick (.tmp 57) (.con (.bool true)) (.tmp 60), none⟩] [])
      (.cond (.tmp 61)
       (.seq (.region [⟨some 4, .mv (.con (.bool false)), none⟩] [])
       .ret)
       .skip))
     (.seq (.region [⟨some 62, .mv (.tmp 6), none⟩,
       ⟨some 63, .faddr (.tmp 8) 18, none⟩,
       ⟨some 64, .load true 1 (.tmp 63), none⟩,
       ⟨some 65, .isl 1 (.tmp 62) (.tmp 64), none⟩,
       ⟨none, .store 1 (.tmp 65) (.con (.bool true)), none⟩] [])
     (.seq (.seq (.region [⟨some 66, .faddr (.tmp 8) 0, none⟩,
        ⟨some 67, .load true 1 (.tmp 66), none⟩,
        ⟨some 68, .bin .eql (.tmp 67) (.con (.int .i64 0)), none⟩,
        ⟨some 69, .mv (.tmp 68), none⟩,
        ⟨some 70, .load false 19 (.tmp 8), some (69, true)⟩,
        ⟨some 71, .faddr (.tmp 8) 18, some (69, true)⟩,
        ⟨some 72, .load true 1 (.tmp 71), some (69, true)⟩,
        ⟨some 73, .build [(.int .i64 0), (.int .u32 0), (.int .u8 0), (.int .u8 0), (.int .u8 0), (.int .u8 0), (.int .u8 0), (.int .u8 0), (.int .u8 0), (.int .u8 0), (.int .u8 0), (.int .u8 0), (.int .u8 0), (.int .u8 0), (.int .u8 0), (.int .u8 0), (.int .u8 0), (.int .u8 0), (.int .i64 0)] [(18, 1, (.tmp 72))], some (69, true)⟩,
        ⟨some 74, .aeq true [some .i64, some .u32, some .u8, some .u8, some .u8, some .u8, some .u8, some .u8, some .u8, some .u8, some .u8, some .u8, some .u8, some .u8, some .u8, some .u8, some .u8, some .u8, some .i64] (.tmp 70) (.tmp 73), some (69, true)⟩,
        ⟨some 75, .pick (.tmp 69) (.tmp 74) (.con (.bool false)), none⟩] [])
      (.cond (.tmp 75)
       (.seq (.region [⟨some 4, .mv (.con (.bool false)), none⟩] [])
       .ret)
       .skip))
     (.seq (.seq (.region [⟨some 76, .faddr (.tmp 8) 0, none⟩,
        ⟨some 77, .load true 1 (.tmp 76), none⟩,
        ⟨some 78, .bin .eql (.tmp 77) (.con (.int .i64 0)), none⟩] [])
      (.cond (.tmp 78)
       (.exit 1)
       .skip))
     (.seq (.region [⟨some 80, .load false 1 (.tmp 2), none⟩,
       ⟨some 81, .faddr (.tmp 8) 1, none⟩,
       ⟨some 82, .load true 1 (.tmp 81), none⟩,
       ⟨some 83, .call 15 [(.tmp 80), (.tmp 82)], none⟩,
       ⟨some 79, .mv (.tmp 83), none⟩,
       ⟨some 84, .extract (.tmp 79) 0, none⟩,
       ⟨some 85, .extract (.tmp 79) 1, none⟩,
       ⟨some 86, .extract (.tmp 79) 2, none⟩,
       ⟨some 9, .mv (.tmp 84), none⟩,
       ⟨some 10, .mv (.tmp 85), none⟩,
       ⟨some 11, .mv (.tmp 86), none⟩] [])
     (.seq (.region [⟨some 87, .load false 1 (.tmp 2), none⟩,
       ⟨some 88, .faddr (.tmp 8) 1, none⟩,
       ⟨some 89, .load true 1 (.tmp 88), none⟩,
       ⟨some 90, .call 37 [(.tmp 87), (.tmp 89)], none⟩,
       ⟨some 91, .mv (.tmp 1), none⟩,
       ⟨some 92, .bin .neq (.tmp 90) (.tmp 91), none⟩,
       ⟨some 93, .mv (.tmp 92), none⟩,
       ⟨some 94, .mv (.tmp 10), some (93, false)⟩,
       ⟨some 95, .mv (.tmp 7), some (93, false)⟩,
       ⟨some 96, .bin .neq (.tmp 94) (.tmp 95), some (93, false)⟩,
       ⟨some 97, .pick (.tmp 93) (.con (.bool true)) (.tmp 96), none⟩] [])
     (.cond (.tmp 97)
      (.seq (.region [⟨some 4, .mv (.con (.bool false)), none⟩] [])
      .ret)
      .skip)))))))))
   (.region [⟨some 98, .bin .add (.tmp 30) (.con (.int .i64 1)), none⟩,
    ⟨some 30, .mv (.tmp 98), none⟩] [])))))))
(.seq (.region [⟨some 4, .mv (.con (.bool true)), none⟩] [])
.ret)))))), [.tmp 4], true, none⟩
/-- cotterel/cotterelref39.ages -/
def f32 : AFun := ⟨37, (.seq (.region [⟨some 2, .box (.tmp 0), none⟩,
  ⟨some 4, .mv (.con (.bool false)), none⟩] [])
(.seq (.region [⟨some 9, .faddr (.tmp 2) 0, none⟩,
  ⟨some 10, .load true 1 (.tmp 9), none⟩,
  ⟨some 11, .mv (.tmp 1), none⟩,
  ⟨some 12, .isl 1 (.tmp 10) (.tmp 11), none⟩,
  ⟨some 13, .load true 1 (.tmp 12), none⟩,
  ⟨some 5, .mv (.tmp 13), none⟩] [])
(.seq (.seq (.region [⟨some 6, .mv (.con (.int .i64 0)), none⟩] [])
 (.block 0 (.loop (.seq (.seq (.region [⟨some 14, .mv (.tmp 6), none⟩,
      ⟨some 15, .mv (.tmp 5), none⟩,
      ⟨some 16, .len (.tmp 15), none⟩,
      ⟨some 17, .bin .lss (.tmp 14) (.tmp 16), none⟩] [])
    (.cond (.tmp 17)
     .skip
     (.exit 0)))
   (.seq (.block 1 (.seq (.region [⟨some 7, .mv (.con (.int .i64 0)), none⟩] [])
     (.seq (.seq (.region [⟨some 8, .mv (.con (.int .i64 0)), none⟩] [])
      (.block 2 (.loop (.seq (.seq (.region [⟨some 20, .mv (.tmp 8), none⟩,
           ⟨some 21, .mv (.tmp 5), none⟩,
           ⟨some 22, .len (.tmp 21), none⟩,
           ⟨some 23, .bin .lss (.tmp 20) (.tmp 22), none⟩] [])
         (.cond (.tmp 23)
          .skip
          (.exit 2)))
        (.seq (.block 3 (.seq (.region [⟨some 26, .mv (.tmp 5), none⟩,
            ⟨some 27, .mv (.tmp 8), none⟩,
            ⟨some 28, .isl 19 (.tmp 26) (.tmp 27), none⟩,
            ⟨some 29, .faddr (.tmp 28) 18, none⟩,
            ⟨some 30, .load true 1 (.tmp 29), none⟩,
            ⟨some 31, .mv (.tmp 6), none⟩,
            ⟨some 32, .bin .eql (.tmp 30) (.tmp 31), none⟩] [])
          (.cond (.tmp 32)
           (.region [⟨some 33, .mv (.tmp 7), none⟩,
            ⟨some 34, .bin .add (.tmp 33) (.con (.int .i64 1)), none⟩,
            ⟨some 7, .mv (.tmp 34), none⟩] [])
           .skip)))
        (.region [⟨some 24, .mv (.tmp 8), none⟩,
         ⟨some 25, .bin .add (.tmp 24) (.con (.int .i64 1)), none⟩,
         ⟨some 8, .mv (.tmp 25), none⟩] []))))))
     (.seq (.region [⟨some 35, .mv (.tmp 7), none⟩,
       ⟨some 36, .bin .neq (.tmp 35) (.con (.int .i64 1)), none⟩] [])
     (.cond (.tmp 36)
      (.seq (.region [⟨some 4, .mv (.con (.bool false)), none⟩] [])
      .ret)
      .skip)))))
   (.region [⟨some 18, .mv (.tmp 6), none⟩,
    ⟨some 19, .bin .add (.tmp 18) (.con (.int .i64 1)), none⟩,
    ⟨some 6, .mv (.tmp 19), none⟩] []))))))
(.seq (.region [⟨some 4, .mv (.con (.bool true)), none⟩] [])
.ret)))), [.tmp 4], true, none⟩
/-- cotterel/cotterelref39.tags -/
def f33 : AFun := ⟨107, (.seq (.region [⟨some 2, .box (.tmp 0), none⟩,
  ⟨some 4, .mv (.con (.bool false)), none⟩] [])
(.seq (.region [⟨some 8, .faddr (.tmp 2) 0, none⟩,
  ⟨some 9, .load true 1 (.tmp 8), none⟩,
  ⟨some 10, .mv (.tmp 1), none⟩,
  ⟨some 11, .isl 1 (.tmp 9) (.tmp 10), none⟩,
  ⟨some 12, .load true 1 (.tmp 11), none⟩,
  ⟨some 5, .mv (.tmp 12), none⟩] [])
(.seq (.seq (.region [⟨some 6, .mv (.con (.int .i64 0)), none⟩] [])
 (.block 0 (.loop (.seq (.seq (.region [⟨some 13, .mv (.tmp 6), none⟩,
      ⟨some 14, .mv (.tmp 5), none⟩,
      ⟨some 15, .len (.tmp 14), none⟩,
      ⟨some 16, .bin .lss (.tmp 13) (.tmp 15), none⟩] [])
    (.cond (.tmp 16)
     .skip
     (.exit 0)))
   (.seq (.block 1 (.seq (.seq (.region [⟨some 19, .mv (.tmp 5), none⟩,
        ⟨some 20, .mv (.tmp 6), none⟩,
        ⟨some 21, .isl 19 (.tmp 19) (.tmp 20), none⟩,
        ⟨some 22, .faddr (.tmp 21) 0, none⟩,
        ⟨some 23, .load true 1 (.tmp 22), none⟩,
        ⟨some 24, .bin .lss (.tmp 23) (.con (.int .i64 0)), none⟩,
        ⟨some 25, .mv (.tmp 24), none⟩,
        ⟨some 26, .mv (.tmp 5), some (25, false)⟩,
        ⟨some 27, .mv (.tmp 6), some (25, false)⟩,
        ⟨some 28, .isl 19 (.tmp 26) (.tmp 27), some (25, false)⟩,
        ⟨some 29, .faddr (.tmp 28) 0, some (25, false)⟩,
        ⟨some 30, .load true 1 (.tmp 29), some (25, false)⟩,
        ⟨some 31, .bin .gtr (.tmp 30) (.con (.int .i64 3)), some (25, false)⟩,
        ⟨some 32, .pick (.tmp 25) (.con (.bool true)) (.tmp 31), none⟩] [])
      (.cond (.tmp 32)
       (.seq (.region [⟨some 4, .mv (.con (.bool false)), none⟩] [])
       .ret)
       .skip))
     (.seq (.seq (.region [⟨some 33, .mv (.tmp 5), none⟩,
        ⟨some 34, .mv (.tmp 6), none⟩,
        ⟨some 35, .isl 19 (.tmp 33) (.tmp 34), none⟩,
        ⟨some 36, .faddr (.tmp 35) 0, none⟩,
        ⟨some 37, .load true 1 (.tmp 36), none⟩,
        ⟨some 38, .bin .eql (.tmp 37) (.con (.int .i64 0)), none⟩,
        ⟨some 39, .mv (.tmp 38), none⟩,
        ⟨some 40, .mv (.tmp 5), some (39, true)⟩,
        ⟨some 41, .mv (.tmp 6), some (39, true)⟩,
        ⟨some 42, .isl 19 (.tmp 40) (.tmp 41), some (39, true)⟩,
        ⟨some 43, .faddr (.tmp 42) 1, some (39, true)⟩,
        ⟨some 44, .load true 1 (.tmp 43), some (39, true)⟩,
        ⟨some 45, .bin .neq (.tmp 44) (.con (.int .u32 0)), some (39, true)⟩,
        ⟨some 46, .mv (.tmp 45), some (39, true)⟩,
        ⟨some 47, .mv (.tmp 5), some (46, false)⟩,
        ⟨some 48, .mv (.tmp 6), some (46, false)⟩,
        ⟨some 49, .isl 19 (.tmp 47) (.tmp 48), some (46, false)⟩,
        ⟨some 50, .faddr (.tmp 49) 2, some (46, false)⟩,
        ⟨some 51, .load false 16 (.tmp 50), some (46, false)⟩,
        ⟨some 52, .build (List.replicate 16 (.int .u8 0)) [], some (46, false)⟩,
        ⟨some 53, .aeq true [some .u8, some .u8, some .u8, some .u8, some .u8, some .u8, some .u8, some .u8, some .u8, some .u8, some .u8, some .u8, some .u8, some .u8, some .u8, some .u8] (.tmp 51) (.tmp 52), some (46, false)⟩,
        ⟨some 54, .pick (.tmp 46) (.con (.bool true)) (.tmp 53), some (39, true)⟩,
        ⟨some 55, .pick (.tmp 39) (.tmp 54) (.con (.bool false)), none⟩,
        ⟨some 56, .mv (.tmp 55), none⟩,
        ⟨some 57, .mv (.tmp 5), some (56, false)⟩,
        ⟨some 58, .mv (.tmp 6), some (56, false)⟩,
        ⟨some 59, .isl 19 (.tmp 57) (.tmp 58), some (56, false)⟩,
        ⟨some 60, .faddr (.tmp 59) 0, some (56, false)⟩,
        ⟨some 61, .load true 1 (.tmp 60), some (56, false)⟩,
        ⟨some 62, .bin .neq (.tmp 61) (.con (.int .i64 0)), some (56, false)⟩,
        ⟨some 63, .mv (.tmp 62), some (56, false)⟩,
        ⟨some 64, .load false 1 (.tmp 2), some (63, true)⟩,
        ⟨some 65, .mv (.tmp 5), some (63, true)⟩,
        ⟨some 66, .mv (.tmp 6), some (63, true)⟩,
        ⟨some 67, .isl 19 (.tmp 65) (.tmp 66), some (63, true)⟩,
        ⟨some 68, .faddr (.tmp 67) 1, some (63, true)⟩,
        ⟨some 69, .load true 1 (.tmp 68), some (63, true)⟩,
        ⟨some 70, .call 38 [(.tmp 64), (.tmp 69)], some (63, true)⟩,
        ⟨some 71, .mv (.tmp 1), some (63, true)⟩,
        ⟨some 72, .bin .neq (.tmp 70) (.tmp 71), some (63, true)⟩,
        ⟨some 73, .pick (.tmp 63) (.tmp 72) (.con (.bool false)), some (56, false)⟩,
        ⟨some 74, .pick (.tmp 56) (.con (.bool true)) (.tmp 73), none⟩] [])
      (.cond (.tmp 74)
       (.seq (.region [⟨some 4, .mv (.con (.bool false)), none⟩] [])
       .ret)
       .skip))
     (.seq (.region [⟨some 7, .mv (.con (.int .i64 0)), none⟩] [])
     (.block 2 (.loop (.seq (.seq (.region [⟨some 75, .mv (.tmp 7), none⟩,
          ⟨some 76, .mv (.tmp 6), none⟩,
          ⟨some 77, .bin .lss (.tmp 75) (.tmp 76), none⟩] [])
        (.cond (.tmp 77)
         .skip
         (.exit 2)))
       (.seq (.block 3 (.seq (.region [⟨some 80, .mv (.tmp 5), none⟩,
           ⟨some 81, .mv (.tmp 6), none⟩,
           ⟨some 82, .isl 19 (.tmp 80) (.tmp 81), none⟩,
           ⟨some 83, .faddr (.tmp 82) 0, none⟩,
           ⟨some 84, .load true 1 (.tmp 83), none⟩,
           ⟨some 85, .bin .neq (.tmp 84) (.con (.int .i64 0)), none⟩,
           ⟨some 86, .mv (.tmp 85), none⟩,
           ⟨some 87, .mv (.tmp 5), some (86, true)⟩,
           ⟨some 88, .mv (.tmp 7), some (86, true)⟩,
           ⟨some 89, .isl 19 (.tmp 87) (.tmp 88), some (86, true)⟩,
           ⟨some 90, .faddr (.tmp 89) 0, some (86, true)⟩,
           ⟨some 91, .load true 1 (.tmp 90), some (86, true)⟩,
           ⟨some 92, .bin .neq (.tmp 91) (.con (.int .i64 0)), some (86, true)⟩,
           ⟨some 93, .pick (.tmp 86) (.tmp 92) (.con (.bool false)), none⟩,
           ⟨some 94, .mv (.tmp 93), none⟩,
           ⟨some 95, .mv (.tmp 5), some (94, true)⟩,
           ⟨some 96, .mv (.tmp 6), some (94, true)⟩,
           ⟨some 97, .isl 19 (.tmp 95) (.tmp 96), some (94, true)⟩,
           ⟨some 98, .faddr (.tmp 97) 1, some (94, true)⟩,
           ⟨some 99, .load true 1 (.tmp 98), some (94, true)⟩,
           ⟨some 100, .mv (.tmp 5), some (94, true)⟩,
           ⟨some 101, .mv (.tmp 7), some (94, true)⟩,
           ⟨some 102, .isl 19 (.tmp 100) (.tmp 101), some (94, true)⟩,
           ⟨some 103, .faddr (.tmp 102) 1, some (94, true)⟩,
           ⟨some 104, .load true 1 (.tmp 103), some (94, true)⟩,
           ⟨some 105, .bin .eql (.tmp 99) (.tmp 104), some (94, true)⟩,
           ⟨some 106, .pick (.tmp 94) (.tmp 105) (.con (.bool false)), none⟩] [])
         (.cond (.tmp 106)
          (.seq (.region [⟨some 4, .mv (.con (.bool false)), none⟩] [])
          .ret)
          .skip)))
       (.region [⟨some 78, .mv (.tmp 7), none⟩,
        ⟨some 79, .bin .add (.tmp 78) (.con (.int .i64 1)), none⟩,
        ⟨some 7, .mv (.tmp 79), none⟩] [])))))))))
   (.region [⟨some 17, .mv (.tmp 6), none⟩,
    ⟨some 18, .bin .add (.tmp 17) (.con (.int .i64 1)), none⟩,
    ⟨some 6, .mv (.tmp 18), none⟩] []))))))
(.seq (.region [⟨some 4, .mv (.con (.bool true)), none⟩] [])
.ret)))), [.tmp 4], true, none⟩
/-- slices.IndexFunc[[]cotterel/api.Way,cotterel/api.Way] -/
def f34 : AFun := ⟨19, (.seq (.region [⟨some 4, .mv (.con (.int .i64 0)), none⟩] [])
(.seq (.seq (.region [⟨some 6, .mv (.tmp 0), none⟩,
   ⟨some 7, .len (.tmp 6), none⟩,
   ⟨some 8, .mv (.con (.int .i64 0)), none⟩] [])
 (.block 0 (.loop (.seq (.region [⟨some 9, .bin .lss (.tmp 8) (.tmp 7), none⟩] [])
   (.seq (.cond (.tmp 9)
     .skip
     (.exit 0))
   (.seq (.block 1 (.seq (.region [⟨some 10, .mv (.tmp 8), none⟩,
       ⟨some 5, .mv (.tmp 10), none⟩] [])
     (.seq (.region [⟨some 11, .mv (.tmp 1), none⟩,
       ⟨some 12, .mv (.tmp 0), none⟩,
       ⟨some 13, .mv (.tmp 5), none⟩,
       ⟨some 14, .isl 19 (.tmp 12) (.tmp 13), none⟩,
       ⟨some 15, .load false 19 (.tmp 14), none⟩,
       ⟨some 16, .callv (.tmp 11) [(.tmp 15)], none⟩] [])
     (.cond (.tmp 16)
      (.seq (.region [⟨some 17, .mv (.tmp 5), none⟩,
        ⟨some 4, .mv (.tmp 17), none⟩] [])
      .ret)
      .skip))))
   (.region [⟨some 18, .bin .add (.tmp 8) (.con (.int .i64 1)), none⟩,
    ⟨some 8, .mv (.tmp 18), none⟩] [])))))))
(.seq (.region [⟨some 4, .mv (.con (.int .i64 (-1))), none⟩] [])
.ret))), [.tmp 4], false, none⟩
/-- cotterel/cache.ways -/
def f35 : AFun := ⟨16, (.seq (.region [⟨some 2, .box (.tmp 0), none⟩,
  ⟨some 4, .mv (.con (.imm true 0 [])), none⟩] [])
(.seq (.seq (.region [⟨some 5, .faddr (.tmp 2) 0, none⟩,
   ⟨some 6, .load true 1 (.tmp 5), none⟩,
   ⟨some 7, .len (.tmp 6), none⟩,
   ⟨some 8, .bin .eql (.tmp 7) (.con (.int .i64 0)), none⟩] [])
 (.cond (.tmp 8)
  (.seq (.region [⟨some 4, .mv (.con (.imm true 0 [])), none⟩] [])
  .ret)
  .skip))
(.seq (.region [⟨some 9, .faddr (.tmp 2) 0, none⟩,
  ⟨some 10, .load true 1 (.tmp 9), none⟩,
  ⟨some 11, .load false 1 (.tmp 2), none⟩,
  ⟨some 12, .mv (.tmp 1), none⟩,
  ⟨some 13, .call 37 [(.tmp 11), (.tmp 12)], none⟩,
  ⟨some 14, .isl 1 (.tmp 10) (.tmp 13), none⟩,
  ⟨some 15, .load true 1 (.tmp 14), none⟩,
  ⟨some 4, .mv (.tmp 15), none⟩] [(1, 4)])
.ret))), [.tmp 4], true, none⟩
/-- cotterel/cache.Find$1 -/
def f36 : AFun := ⟨13, (.seq (.region [⟨some 2, .box (.tmp 0), none⟩,
  ⟨some 3, .mv (.con (.bool false)), none⟩] [])
(.seq (.region [⟨some 4, .faddr (.tmp 2) 1, none⟩,
  ⟨some 5, .load true 1 (.tmp 4), none⟩,
  ⟨some 6, .load true 1 (.tmp 1), none⟩,
  ⟨some 7, .bin .eql (.tmp 5) (.tmp 6), none⟩,
  ⟨some 8, .mv (.tmp 7), none⟩,
  ⟨some 9, .faddr (.tmp 2) 0, some (8, true)⟩,
  ⟨some 10, .load true 1 (.tmp 9), some (8, true)⟩,
  ⟨some 11, .bin .neq (.tmp 10) (.con (.int .i64 0)), some (8, true)⟩,
  ⟨some 12, .pick (.tmp 8) (.tmp 11) (.con (.bool false)), none⟩,
  ⟨some 3, .mv (.tmp 12), none⟩] [])
.ret)), [.tmp 3], false, none⟩
/-- cotterel/cache.setOf -/
def f37 : AFun := ⟨17, (.seq (.region [⟨some 2, .box (.tmp 0), none⟩,
  ⟨some 4, .mv (.con (.int .i64 0)), none⟩] [])
(.seq (.seq (.region [⟨some 5, .faddr (.tmp 2) 0, none⟩,
   ⟨some 6, .load true 1 (.tmp 5), none⟩,
   ⟨some 7, .len (.tmp 6), none⟩,
   ⟨some 8, .bin .eql (.tmp 7) (.con (.int .i64 0)), none⟩] [])
 (.cond (.tmp 8)
  (.seq (.region [⟨some 4, .mv (.con (.int .i64 0)), none⟩] [])
  .ret)
  .skip))
(.seq (.region [⟨some 9, .mv (.tmp 1), none⟩,
  ⟨some 10, .conv .u64 (.tmp 9), none⟩,
  ⟨some 11, .faddr (.tmp 2) 0, none⟩,
  ⟨some 12, .load true 1 (.tmp 11), none⟩,
  ⟨some 13, .len (.tmp 12), none⟩,
  ⟨some 14, .conv .u64 (.tmp 13), none⟩,
  ⟨some 15, .bin .rem (.tmp 10) (.tmp 14), none⟩,
  ⟨some 16, .conv .i64 (.tmp 15), none⟩,
  ⟨some 4, .mv (.tmp 16), none⟩] [])
.ret))), [.tmp 4], true, none⟩
/-- cotterel/cotterelref39.set -/
def f38 : AFun := ⟨15, (.seq (.region [⟨some 2, .box (.tmp 0), none⟩,
  ⟨some 4, .mv (.con (.int .i64 0)), none⟩] [])
(.seq (.seq (.region [⟨some 5, .faddr (.tmp 2) 0, none⟩,
   ⟨some 6, .load true 1 (.tmp 5), none⟩,
   ⟨some 7, .len (.tmp 6), none⟩,
   ⟨some 8, .bin .eql (.tmp 7) (.con (.int .i64 0)), none⟩] [])
 (.cond (.tmp 8)
  (.seq (.region [⟨some 4, .mv (.con (.int .i64 (-1))), none⟩] [])
  .ret)
  .skip))
(.seq (.region [⟨some 9, .mv (.tmp 1), none⟩,
  ⟨some 10, .conv .i64 (.tmp 9), none⟩,
  ⟨some 11, .faddr (.tmp 2) 0, none⟩,
  ⟨some 12, .load true 1 (.tmp 11), none⟩,
  ⟨some 13, .len (.tmp 12), none⟩,
  ⟨some 14, .bin .rem (.tmp 10) (.tmp 13), none⟩,
  ⟨some 4, .mv (.tmp 14), none⟩] [])
.ret))), [.tmp 4], true, none⟩
/-- cotterel/cache.Victim$1 -/
def f39 : AFun := ⟨6, (.seq (.region [⟨some 1, .box (.tmp 0), none⟩,
  ⟨some 2, .mv (.con (.bool false)), none⟩] [])
(.seq (.region [⟨some 3, .faddr (.tmp 1) 0, none⟩,
  ⟨some 4, .load true 1 (.tmp 3), none⟩,
  ⟨some 5, .bin .eql (.tmp 4) (.con (.int .i64 0)), none⟩,
  ⟨some 2, .mv (.tmp 5), none⟩] [])
.ret)), [.tmp 2], false, none⟩
/-- cotterel/cache.with -/
def f40 : AFun := ⟨21, (.seq (.region [⟨some 2, .box (.tmp 0), none⟩,
  ⟨some 4, .alloc [(.imm true 0 [])], none⟩] [])
(.seq (.region [⟨some 6, .faddr (.tmp 2) 0, none⟩,
  ⟨some 7, .load true 1 (.tmp 6), none⟩,
  ⟨some 8, .call 49 [(.tmp 7)], none⟩,
  ⟨some 9, .build [(.imm true 0 [])] [(0, 1, (.tmp 8))], none⟩,
  ⟨some 5, .alloc [(.imm true 0 [])], none⟩,
  ⟨none, .store 1 (.tmp 5) (.tmp 9), none⟩] [])
(.seq (.region [⟨some 10, .faddr (.tmp 5) 0, none⟩,
  ⟨some 11, .load true 1 (.tmp 10), none⟩,
  ⟨some 12, .mv (.tmp 1), none⟩,
  ⟨some 13, .faddr (.tmp 2) 0, none⟩,
  ⟨some 14, .load true 1 (.tmp 13), none⟩,
  ⟨some 15, .mv (.tmp 1), none⟩,
  ⟨some 16, .isl 1 (.tmp 14) (.tmp 15), none⟩,
  ⟨some 17, .load true 1 (.tmp 16), none⟩,
  ⟨some 18, .call 50 [(.tmp 17)], none⟩,
  ⟨some 19, .isl 1 (.tmp 11) (.tmp 12), none⟩,
  ⟨none, .store 1 (.tmp 19) (.tmp 18), none⟩] [(1, 8)])
(.seq (.region [⟨some 20, .load false 1 (.tmp 5), none⟩,
  ⟨none, .store 1 (.tmp 4) (.tmp 20), none⟩] [])
.ret)))), [.cell 4 false 1], false, none⟩
/-- cotterel/cotterelref39.copied -/
def f41 : AFun := ⟨25, (.seq (.region [⟨some 1, .box (.tmp 0), none⟩,
  ⟨some 2, .alloc [(.imm true 0 [])], none⟩] [])
(.seq (.region [⟨some 3, .alloc [(.imm true 0 [])], none⟩] [])
(.seq (.seq (.region [⟨some 4, .mv (.con (.int .i64 0)), none⟩] [])
 (.block 0 (.loop (.seq (.seq (.region [⟨some 5, .mv (.tmp 4), none⟩,
      ⟨some 6, .faddr (.tmp 1) 0, none⟩,
      ⟨some 7, .load true 1 (.tmp 6), none⟩,
      ⟨some 8, .len (.tmp 7), none⟩,
      ⟨some 9, .bin .lss (.tmp 5) (.tmp 8), none⟩] [])
    (.cond (.tmp 9)
     .skip
     (.exit 0)))
   (.seq (.block 1 (.region [⟨some 12, .faddr (.tmp 3) 0, none⟩,
      ⟨some 13, .load true 1 (.tmp 12), none⟩,
      ⟨some 14, .bsl [] 0 19 [], none⟩,
      ⟨some 15, .faddr (.tmp 1) 0, none⟩,
      ⟨some 16, .load true 1 (.tmp 15), none⟩,
      ⟨some 17, .mv (.tmp 4), none⟩,
      ⟨some 18, .isl 1 (.tmp 16) (.tmp 17), none⟩,
      ⟨some 19, .load true 1 (.tmp 18), none⟩,
      ⟨some 20, .append 19 40 (.tmp 14) (.tmp 19), none⟩,
      ⟨some 21, .bsl [(.imm true 0 [])] 1 1 [(0, 1, (.tmp 20))], none⟩,
      ⟨some 22, .append 1 24 (.tmp 13) (.tmp 21), none⟩,
      ⟨some 23, .faddr (.tmp 3) 0, none⟩,
      ⟨none, .store 1 (.tmp 23) (.tmp 22), none⟩] [(1, 2), (2, 4), (2, 7), (1, 8), (1, 9)]))
   (.region [⟨some 10, .mv (.tmp 4), none⟩,
    ⟨some 11, .bin .add (.tmp 10) (.con (.int .i64 1)), none⟩,
    ⟨some 4, .mv (.tmp 11), none⟩] []))))))
(.seq (.region [⟨some 24, .load false 1 (.tmp 3), none⟩,
  ⟨none, .store 1 (.tmp 2) (.tmp 24), none⟩] [])
.ret)))), [.cell 2 false 1], false, none⟩
/-- cotterel/cotterelref39.is -/
def f42 : AFun := ⟨30, (.seq (.region [⟨some 3, .box (.tmp 0), none⟩,
  ⟨some 6, .mv (.con (.bool false)), none⟩] [])
(.seq (.region [⟨some 7, .mv (.tmp 1), none⟩,
  ⟨some 8, .bin .geq (.tmp 7) (.con (.int .i64 0)), none⟩,
  ⟨some 9, .mv (.tmp 8), none⟩,
  ⟨some 10, .mv (.tmp 1), some (9, true)⟩,
  ⟨some 11, .faddr (.tmp 3) 0, some (9, true)⟩,
  ⟨some 12, .load true 1 (.tmp 11), some (9, true)⟩,
  ⟨some 13, .len (.tmp 12), some (9, true)⟩,
  ⟨some 14, .bin .lss (.tmp 10) (.tmp 13), some (9, true)⟩,
  ⟨some 15, .pick (.tmp 9) (.tmp 14) (.con (.bool false)), none⟩,
  ⟨some 16, .mv (.tmp 15), none⟩,
  ⟨some 17, .mv (.tmp 2), some (16, true)⟩,
  ⟨some 18, .bin .geq (.tmp 17) (.con (.int .i64 0)), some (16, true)⟩,
  ⟨some 19, .pick (.tmp 16) (.tmp 18) (.con (.bool false)), none⟩,
  ⟨some 20, .mv (.tmp 19), none⟩,
  ⟨some 21, .mv (.tmp 2), some (20, true)⟩,
  ⟨some 22, .faddr (.tmp 3) 0, some (20, true)⟩,
  ⟨some 23, .load true 1 (.tmp 22), some (20, true)⟩,
  ⟨some 24, .mv (.tmp 1), some (20, true)⟩,
  ⟨some 25, .isl 1 (.tmp 23) (.tmp 24), some (20, true)⟩,
  ⟨some 26, .load true 1 (.tmp 25), some (20, true)⟩,
  ⟨some 27, .len (.tmp 26), some (20, true)⟩,
  ⟨some 28, .bin .lss (.tmp 21) (.tmp 27), some (20, true)⟩,
  ⟨some 29, .pick (.tmp 20) (.tmp 28) (.con (.bool false)), none⟩,
  ⟨some 6, .mv (.tmp 29), none⟩] [])
.ret)), [.tmp 6], true, none⟩
/-- cotterel/cache.place -/
def f43 : AFun := ⟨45, (.seq (.region [⟨some 3, .box (.tmp 0), none⟩,
  ⟨some 6, .mv (.con (.int .i64 0)), none⟩,
  ⟨some 7, .mv (.con (.int .i64 0)), none⟩,
  ⟨some 8, .mv (.con (.int .i64 0)), none⟩,
  ⟨some 9, .mv (.con (.bool false)), none⟩] [])
(.seq (.region [⟨some 14, .mv (.tmp 1), none⟩,
  ⟨some 15, .bin .rem (.tmp 14) (.con (.int .u32 16)), none⟩,
  ⟨some 16, .conv .i64 (.tmp 15), none⟩,
  ⟨some 10, .mv (.tmp 16), none⟩] [])
(.seq (.seq (.region [⟨some 17, .mv (.tmp 2), none⟩,
   ⟨some 18, .bin .neq (.tmp 17) (.con (.int .i64 1)), none⟩,
   ⟨some 19, .mv (.tmp 18), none⟩,
   ⟨some 20, .mv (.tmp 2), some (19, true)⟩,
   ⟨some 21, .bin .neq (.tmp 20) (.con (.int .i64 2)), some (19, true)⟩,
   ⟨some 22, .pick (.tmp 19) (.tmp 21) (.con (.bool false)), none⟩,
   ⟨some 23, .mv (.tmp 22), none⟩,
   ⟨some 24, .mv (.tmp 2), some (23, true)⟩,
   ⟨some 25, .bin .neq (.tmp 24) (.con (.int .i64 4)), some (23, true)⟩,
   ⟨some 26, .pick (.tmp 23) (.tmp 25) (.con (.bool false)), none⟩,
   ⟨some 27, .mv (.tmp 26), none⟩,
   ⟨some 28, .mv (.tmp 10), some (27, false)⟩,
   ⟨some 29, .mv (.tmp 2), some (27, false)⟩,
   ⟨some 30, .bin .add (.tmp 28) (.tmp 29), some (27, false)⟩,
   ⟨some 31, .bin .gtr (.tmp 30) (.con (.int .i64 16)), some (27, false)⟩,
   ⟨some 32, .pick (.tmp 27) (.con (.bool true)) (.tmp 31), none⟩] [])
 (.cond (.tmp 32)
  (.seq (.region [⟨some 6, .mv (.con (.int .i64 0)), none⟩,
    ⟨some 7, .mv (.con (.int .i64 0)), none⟩,
    ⟨some 8, .mv (.con (.int .i64 0)), none⟩,
    ⟨some 9, .mv (.con (.bool false)), none⟩] [])
  .ret)
  .skip))
(.seq (.region [⟨some 34, .load false 1 (.tmp 3), none⟩,
  ⟨some 35, .mv (.tmp 1), none⟩,
  ⟨some 36, .call 51 [(.tmp 35)], none⟩,
  ⟨some 37, .call 15 [(.tmp 34), (.tmp 36)], none⟩,
  ⟨some 33, .mv (.tmp 37), none⟩,
  ⟨some 38, .extract (.tmp 33) 0, none⟩,
  ⟨some 39, .extract (.tmp 33) 1, none⟩,
  ⟨some 40, .extract (.tmp 33) 2, none⟩,
  ⟨some 11, .mv (.tmp 38), none⟩,
  ⟨some 12, .mv (.tmp 39), none⟩,
  ⟨some 13, .mv (.tmp 40), none⟩] [(0, 2)])
(.seq (.region [⟨some 41, .mv (.tmp 11), none⟩,
  ⟨some 42, .mv (.tmp 12), none⟩,
  ⟨some 43, .mv (.tmp 10), none⟩,
  ⟨some 44, .mv (.tmp 13), none⟩,
  ⟨some 6, .mv (.tmp 41), none⟩,
  ⟨some 7, .mv (.tmp 42), none⟩,
  ⟨some 8, .mv (.tmp 43), none⟩,
  ⟨some 9, .mv (.tmp 44), none⟩] [])
.ret))))), [.tmp 6, .tmp 7, .tmp 8, .tmp 9], true, none⟩
/-- cotterel/bits.Of -/
def f44 : AFun := ⟨26, (.seq (.region [⟨some 2, .mv (.con (.int .u32 0)), none⟩] [])
(.seq (.region [⟨some 3, .mv (.con (.int .u32 0)), none⟩] [])
(.seq (.seq (.region [⟨some 6, .mv (.tmp 0), none⟩,
   ⟨some 7, .mv (.tmp 0), none⟩,
   ⟨some 8, .len (.tmp 7), none⟩,
   ⟨some 9, .mn [(.tmp 8), (.con (.int .i64 4))], none⟩,
   ⟨some 10, .slSl 1 (.tmp 6) none (some (.tmp 9)) none, none⟩,
   ⟨some 11, .len (.tmp 10), none⟩,
   ⟨some 12, .mv (.con (.int .i64 0)), none⟩] [])
 (.block 0 (.loop (.seq (.region [⟨some 13, .bin .lss (.tmp 12) (.tmp 11), none⟩] [])
   (.seq (.cond (.tmp 13)
     .skip
     (.exit 0))
   (.seq (.block 1 (.seq (.region [⟨some 14, .mv (.tmp 12), none⟩,
       ⟨some 15, .isl 1 (.tmp 10) (.tmp 12), none⟩,
       ⟨some 16, .load true 1 (.tmp 15), none⟩,
       ⟨some 4, .mv (.tmp 14), none⟩,
       ⟨some 5, .mv (.tmp 16), none⟩] [])
     (.region [⟨some 17, .mv (.tmp 3), none⟩,
      ⟨some 18, .mv (.tmp 5), none⟩,
      ⟨some 19, .conv .u32 (.tmp 18), none⟩,
      ⟨some 20, .mv (.tmp 4), none⟩,
      ⟨some 21, .bin .mul (.con (.int .i64 8)) (.tmp 20), none⟩,
      ⟨some 22, .bin .shl (.tmp 19) (.tmp 21), none⟩,
      ⟨some 23, .bin .or (.tmp 17) (.tmp 22), none⟩,
      ⟨some 3, .mv (.tmp 23), none⟩] [])))
   (.region [⟨some 24, .bin .add (.tmp 12) (.con (.int .i64 1)), none⟩,
    ⟨some 12, .mv (.tmp 24), none⟩] [])))))))
(.seq (.region [⟨some 25, .mv (.tmp 3), none⟩,
  ⟨some 2, .mv (.tmp 25), none⟩] [])
.ret)))), [.tmp 2], true, none⟩
/-- cotterel/cotterelref39.within -/
def f45 : AFun := ⟨23, (.seq (.region [⟨some 4, .mv (.con (.bool false)), none⟩] [])
(.seq (.region [⟨some 5, .mv (.tmp 1), none⟩,
  ⟨some 6, .bin .eql (.tmp 5) (.con (.int .i64 1)), none⟩,
  ⟨some 7, .mv (.tmp 6), none⟩,
  ⟨some 8, .mv (.tmp 1), some (7, false)⟩,
  ⟨some 9, .bin .eql (.tmp 8) (.con (.int .i64 2)), some (7, false)⟩,
  ⟨some 10, .pick (.tmp 7) (.con (.bool true)) (.tmp 9), none⟩,
  ⟨some 11, .mv (.tmp 10), none⟩,
  ⟨some 12, .mv (.tmp 1), some (11, false)⟩,
  ⟨some 13, .bin .eql (.tmp 12) (.con (.int .i64 4)), some (11, false)⟩,
  ⟨some 14, .pick (.tmp 11) (.con (.bool true)) (.tmp 13), none⟩,
  ⟨some 15, .mv (.tmp 14), none⟩,
  ⟨some 16, .mv (.tmp 0), some (15, true)⟩,
  ⟨some 17, .bin .rem (.tmp 16) (.con (.int .u32 16)), some (15, true)⟩,
  ⟨some 18, .conv .i64 (.tmp 17), some (15, true)⟩,
  ⟨some 19, .mv (.tmp 1), some (15, true)⟩,
  ⟨some 20, .bin .add (.tmp 18) (.tmp 19), some (15, true)⟩,
  ⟨some 21, .bin .leq (.tmp 20) (.con (.int .i64 16)), some (15, true)⟩,
  ⟨some 22, .pick (.tmp 15) (.tmp 21) (.con (.bool false)), none⟩,
  ⟨some 4, .mv (.tmp 22), none⟩] [])
.ret)), [.tmp 4], true, none⟩
/-- cotterel/bits.Bytes -/
def f46 : AFun := ⟨25, (.seq (.region [⟨some 4, .mv (.con (.imm true 0 [])), none⟩] [])
(.seq (.region [⟨some 7, .mv (.tmp 1), none⟩,
  ⟨some 8, .call 48 [(.tmp 7), (.con (.int .i64 0)), (.con (.int .i64 4))], none⟩,
  ⟨some 9, .mksl [(.int .u8 0)] 1 1 (.tmp 8) (.tmp 8), none⟩,
  ⟨some 5, .mv (.tmp 9), none⟩] [])
(.seq (.seq (.region [⟨some 10, .mv (.tmp 5), none⟩,
   ⟨some 11, .len (.tmp 10), none⟩,
   ⟨some 12, .mv (.con (.int .i64 0)), none⟩] [])
 (.block 0 (.loop (.seq (.region [⟨some 13, .bin .lss (.tmp 12) (.tmp 11), none⟩] [])
   (.seq (.cond (.tmp 13)
     .skip
     (.exit 0))
   (.seq (.block 1 (.seq (.region [⟨some 14, .mv (.tmp 12), none⟩,
       ⟨some 6, .mv (.tmp 14), none⟩] [])
     (.region [⟨some 15, .mv (.tmp 5), none⟩,
      ⟨some 16, .mv (.tmp 6), none⟩,
      ⟨some 17, .mv (.tmp 0), none⟩,
      ⟨some 18, .mv (.tmp 6), none⟩,
      ⟨some 19, .bin .mul (.con (.int .i64 8)) (.tmp 18), none⟩,
      ⟨some 20, .bin .shr (.tmp 17) (.tmp 19), none⟩,
      ⟨some 21, .conv .u8 (.tmp 20), none⟩,
      ⟨some 22, .isl 1 (.tmp 15) (.tmp 16), none⟩,
      ⟨none, .store 1 (.tmp 22) (.tmp 21), none⟩] [])))
   (.region [⟨some 23, .bin .add (.tmp 12) (.con (.int .i64 1)), none⟩,
    ⟨some 12, .mv (.tmp 23), none⟩] [])))))))
(.seq (.region [⟨some 24, .mv (.tmp 5), none⟩,
  ⟨some 4, .mv (.tmp 24), none⟩] [])
.ret)))), [.tmp 4], true, none⟩
/-- cotterel/bits.ones -/
def f47 : AFun := ⟨7, (.seq (.region [⟨some 2, .mv (.con (.int .u32 0)), none⟩] [])
(.seq (.region [⟨some 3, .mv (.tmp 0), none⟩,
  ⟨some 4, .bin .shl (.con (.int .u64 1)) (.tmp 3), none⟩,
  ⟨some 5, .bin .sub (.tmp 4) (.con (.int .u64 1)), none⟩,
  ⟨some 6, .conv .u32 (.tmp 5), none⟩,
  ⟨some 2, .mv (.tmp 6), none⟩] [])
.ret)), [.tmp 2], true, none⟩
/-- cotterel/bits.clamp -/
def f48 : AFun := ⟨12, (.seq (.region [⟨some 6, .mv (.con (.int .i64 0)), none⟩] [])
(.seq (.region [⟨some 7, .mv (.tmp 0), none⟩,
  ⟨some 8, .mv (.tmp 1), none⟩,
  ⟨some 9, .mx [(.tmp 7), (.tmp 8)], none⟩,
  ⟨some 10, .mv (.tmp 2), none⟩,
  ⟨some 11, .mn [(.tmp 9), (.tmp 10)], none⟩,
  ⟨some 6, .mv (.tmp 11), none⟩] [])
.ret)), [.tmp 6], true, none⟩
/-- cotterel/mem.LineOf -/
def f51 : AFun := ⟨5, (.seq (.region [⟨some 2, .mv (.con (.int .u32 0)), none⟩] [])
(.seq (.region [⟨some 3, .mv (.tmp 0), none⟩,
  ⟨some 4, .bin .quo (.tmp 3) (.con (.int .u32 16)), none⟩,
  ⟨some 2, .mv (.tmp 4), none⟩] [])
.ret)), [.tmp 2], true, none⟩
-- CLONE 49 22
-- CLONE 50 53
/-- slices.Clone[[][]cotterel/api.Way,[]cotterel/api.Way] -/
def f49 : AFun := ⟨0, .skip, [], true, some (1, 24)⟩
/-- slices.Clone[[]cotterel/api.Way,cotterel/api.Way] -/
def f50 : AFun := ⟨0, .skip, [], true, some (19, 40)⟩
end Fn
open Fn
def ap : AProg
  | 2 => some f2
  | 3 => some f3
  | 4 => some f4
  | 5 => some f5
  | 6 => some f6
  | 7 => some f7
  | 8 => some f8
  | 9 => some f9
  | 10 => some f10
  | 11 => some f11
  | 12 => some f12
  | 13 => some f13
  | 14 => some f14
  | 15 => some f15
  | 16 => some f16
  | 17 => some f17
  | 18 => some f18
  | 19 => some f19
  | 20 => some f20
  | 21 => some f21
  | 22 => some f22
  | 23 => some f23
  | 24 => some f24
  | 25 => some f25
  | 26 => some f26
  | 27 => some f27
  | 28 => some f28
  | 29 => some f29
  | 30 => some f30
  | 31 => some f31
  | 32 => some f32
  | 33 => some f33
  | 34 => some f34
  | 35 => some f35
  | 36 => some f36
  | 37 => some f37
  | 38 => some f38
  | 39 => some f39
  | 40 => some f40
  | 41 => some f41
  | 42 => some f42
  | 43 => some f43
  | 44 => some f44
  | 45 => some f45
  | 46 => some f46
  | 47 => some f47
  | 48 => some f48
  | 49 => some f49
  | 50 => some f50
  | 51 => some f51
  | _ => none
theorem ok2 : FnOk Try.prog 2 f2 := fnOk_of (fn := Try.f2) Try.func2 (by kernel_rfl) rfl (by kernel_rfl) rfl (by kernel_rfl) rfl
theorem ok3 : FnOk Try.prog 3 f3 := fnOk_of (fn := Try.f3) Try.func3 (by kernel_rfl) rfl (by kernel_rfl) rfl (by kernel_rfl) rfl
theorem ok4 : FnOk Try.prog 4 f4 := fnOk_of (fn := Try.f4) Try.func4 (by kernel_rfl) rfl (by kernel_rfl) rfl (by kernel_rfl) rfl
theorem ok5 : FnOk Try.prog 5 f5 := fnOk_of (fn := Try.f5) Try.func5 (by kernel_rfl) rfl (by kernel_rfl) rfl (by kernel_rfl) rfl
theorem ok6 : FnOk Try.prog 6 f6 := fnOk_of (fn := Try.f6) Try.func6 (by kernel_rfl) rfl (by kernel_rfl) rfl (by kernel_rfl) rfl
theorem ok7 : FnOk Try.prog 7 f7 := fnOk_of (fn := Try.f7) Try.func7 (by kernel_rfl) rfl (by kernel_rfl) rfl (by kernel_rfl) rfl
theorem ok8 : FnOk Try.prog 8 f8 := fnOk_of (fn := Try.f8) Try.func8 (by kernel_rfl) rfl (by kernel_rfl) rfl (by kernel_rfl) rfl
theorem ok9 : FnOk Try.prog 9 f9 := fnOk_of (fn := Try.f9) Try.func9 (by kernel_rfl) rfl (by kernel_rfl) rfl (by kernel_rfl) rfl
theorem ok10 : FnOk Try.prog 10 f10 := fnOk_of (fn := Try.f10) Try.func10 (by kernel_rfl) rfl (by kernel_rfl) rfl (by kernel_rfl) rfl
theorem ok11 : FnOk Try.prog 11 f11 := fnOk_of (fn := Try.f11) Try.func11 (by kernel_rfl) rfl (by kernel_rfl) rfl (by kernel_rfl) rfl
theorem ok12 : FnOk Try.prog 12 f12 := fnOk_of (fn := Try.f12) Try.func12 (by kernel_rfl) rfl (by kernel_rfl) rfl (by kernel_rfl) rfl
theorem ok13 : FnOk Try.prog 13 f13 := fnOk_of (fn := Try.f13) Try.func13 (by kernel_rfl) rfl (by kernel_rfl) rfl (by kernel_rfl) rfl
theorem ok14 : FnOk Try.prog 14 f14 := fnOk_of (fn := Try.f14) Try.func14 (by kernel_rfl) rfl (by kernel_rfl) rfl (by kernel_rfl) rfl
theorem ok15 : FnOk Try.prog 15 f15 := fnOk_of (fn := Try.f15) Try.func15 (by kernel_rfl) rfl (by kernel_rfl) rfl (by kernel_rfl) rfl
theorem ok16 : FnOk Try.prog 16 f16 := fnOk_of (fn := Try.f16) Try.func16 (by kernel_rfl) rfl (by kernel_rfl) rfl (by kernel_rfl) rfl
theorem ok17 : FnOk Try.prog 17 f17 := fnOk_of (fn := Try.f17) Try.func17 (by kernel_rfl) rfl (by kernel_rfl) rfl (by kernel_rfl) rfl
theorem ok18 : FnOk Try.prog 18 f18 := fnOk_of (fn := Try.f18) Try.func18 (by kernel_rfl) rfl (by kernel_rfl) rfl (by kernel_rfl) rfl
theorem ok19 : FnOk Try.prog 19 f19 := fnOk_of (fn := Try.f19) Try.func19 (by kernel_rfl) rfl (by kernel_rfl) rfl (by kernel_rfl) rfl
theorem ok20 : FnOk Try.prog 20 f20 := fnOk_of (fn := Try.f20) Try.func20 (by kernel_rfl) rfl (by kernel_rfl) rfl (by kernel_rfl) rfl
theorem ok21 : FnOk Try.prog 21 f21 := fnOk_of (fn := Try.f21) Try.func21 (by kernel_rfl) rfl (by kernel_rfl) rfl (by kernel_rfl) rfl
theorem ok22 : FnOk Try.prog 22 f22 := fnOk_of (fn := Try.f22) Try.func22 (by kernel_rfl) rfl (by kernel_rfl) rfl (by kernel_rfl) rfl
theorem ok23 : FnOk Try.prog 23 f23 := fnOk_of (fn := Try.f23) Try.func23 (by kernel_rfl) rfl (by kernel_rfl) rfl (by kernel_rfl) rfl
theorem ok24 : FnOk Try.prog 24 f24 := fnOk_of (fn := Try.f24) Try.func24 (by kernel_rfl) rfl (by kernel_rfl) rfl (by kernel_rfl) rfl
theorem ok25 : FnOk Try.prog 25 f25 := fnOk_of (fn := Try.f25) Try.func25 (by kernel_rfl) rfl (by kernel_rfl) rfl (by kernel_rfl) rfl
theorem ok26 : FnOk Try.prog 26 f26 := fnOk_of (fn := Try.f26) Try.func26 (by kernel_rfl) rfl (by kernel_rfl) rfl (by kernel_rfl) rfl
theorem ok27 : FnOk Try.prog 27 f27 := fnOk_of (fn := Try.f27) Try.func27 (by kernel_rfl) rfl (by kernel_rfl) rfl (by kernel_rfl) rfl
theorem ok28 : FnOk Try.prog 28 f28 := fnOk_of (fn := Try.f28) Try.func28 (by kernel_rfl) rfl (by kernel_rfl) rfl (by kernel_rfl) rfl
theorem ok29 : FnOk Try.prog 29 f29 := fnOk_of (fn := Try.f29) Try.func29 (by kernel_rfl) rfl (by kernel_rfl) rfl (by kernel_rfl) rfl
theorem ok30 : FnOk Try.prog 30 f30 := fnOk_of (fn := Try.f30) Try.func30 (by kernel_rfl) rfl (by kernel_rfl) rfl (by kernel_rfl) rfl
theorem ok31 : FnOk Try.prog 31 f31 := fnOk_of (fn := Try.f31) Try.func31 (by kernel_rfl) rfl (by kernel_rfl) rfl (by kernel_rfl) rfl
theorem ok32 : FnOk Try.prog 32 f32 := fnOk_of (fn := Try.f32) Try.func32 (by kernel_rfl) rfl (by kernel_rfl) rfl (by kernel_rfl) rfl
theorem ok33 : FnOk Try.prog 33 f33 := fnOk_of (fn := Try.f33) Try.func33 (by kernel_rfl) rfl (by kernel_rfl) rfl (by kernel_rfl) rfl
theorem ok34 : FnOk Try.prog 34 f34 := fnOk_of (fn := Try.f34) Try.func34 (by kernel_rfl) rfl (by kernel_rfl) rfl (by kernel_rfl) rfl
theorem ok35 : FnOk Try.prog 35 f35 := fnOk_of (fn := Try.f35) Try.func35 (by kernel_rfl) rfl (by kernel_rfl) rfl (by kernel_rfl) rfl
theorem ok36 : FnOk Try.prog 36 f36 := fnOk_of (fn := Try.f36) Try.func36 (by kernel_rfl) rfl (by kernel_rfl) rfl (by kernel_rfl) rfl
theorem ok37 : FnOk Try.prog 37 f37 := fnOk_of (fn := Try.f37) Try.func37 (by kernel_rfl) rfl (by kernel_rfl) rfl (by kernel_rfl) rfl
theorem ok38 : FnOk Try.prog 38 f38 := fnOk_of (fn := Try.f38) Try.func38 (by kernel_rfl) rfl (by kernel_rfl) rfl (by kernel_rfl) rfl
theorem ok39 : FnOk Try.prog 39 f39 := fnOk_of (fn := Try.f39) Try.func39 (by kernel_rfl) rfl (by kernel_rfl) rfl (by kernel_rfl) rfl
theorem ok40 : FnOk Try.prog 40 f40 := fnOk_of (fn := Try.f40) Try.func40 (by kernel_rfl) rfl (by kernel_rfl) rfl (by kernel_rfl) rfl
theorem ok41 : FnOk Try.prog 41 f41 := fnOk_of (fn := Try.f41) Try.func41 (by kernel_rfl) rfl (by kernel_rfl) rfl (by kernel_rfl) rfl
theorem ok42 : FnOk Try.prog 42 f42 := fnOk_of (fn := Try.f42) Try.func42 (by kernel_rfl) rfl (by kernel_rfl) rfl (by kernel_rfl) rfl
theorem ok43 : FnOk Try.prog 43 f43 := fnOk_of (fn := Try.f43) Try.func43 (by kernel_rfl) rfl (by kernel_rfl) rfl (by kernel_rfl) rfl
theorem ok44 : FnOk Try.prog 44 f44 := fnOk_of (fn := Try.f44) Try.func44 (by kernel_rfl) rfl (by kernel_rfl) rfl (by kernel_rfl) rfl
theorem ok45 : FnOk Try.prog 45 f45 := fnOk_of (fn := Try.f45) Try.func45 (by kernel_rfl) rfl (by kernel_rfl) rfl (by kernel_rfl) rfl
theorem ok46 : FnOk Try.prog 46 f46 := fnOk_of (fn := Try.f46) Try.func46 (by kernel_rfl) rfl (by kernel_rfl) rfl (by kernel_rfl) rfl
theorem ok47 : FnOk Try.prog 47 f47 := fnOk_of (fn := Try.f47) Try.func47 (by kernel_rfl) rfl (by kernel_rfl) rfl (by kernel_rfl) rfl
theorem ok48 : FnOk Try.prog 48 f48 := fnOk_of (fn := Try.f48) Try.func48 (by kernel_rfl) rfl (by kernel_rfl) rfl (by kernel_rfl) rfl
theorem ok49 : FnOk Try.prog 49 f49 := .inl ⟨_, _, rfl, rfl, clone_ok2 Try.func49 rfl ⟨rfl, rfl, rfl⟩ ⟨rfl, rfl, rfl⟩ ⟨rfl, rfl, rfl⟩ ⟨rfl, rfl, rfl⟩ ⟨rfl, rfl, rfl⟩ ⟨rfl, rfl, rfl⟩ ⟨rfl, rfl, rfl⟩ ⟨rfl, rfl, rfl⟩ rfl rfl Try.underlying22 (by kernel_rfl) (by kernel_rfl), Try.f49, Try.func49, by kernel_rfl, rfl⟩
theorem ok50 : FnOk Try.prog 50 f50 := .inl ⟨_, _, rfl, rfl, clone_ok2 Try.func50 rfl ⟨rfl, rfl, rfl⟩ ⟨rfl, rfl, rfl⟩ ⟨rfl, rfl, rfl⟩ ⟨rfl, rfl, rfl⟩ ⟨rfl, rfl, rfl⟩ ⟨rfl, rfl, rfl⟩ ⟨rfl, rfl, rfl⟩ ⟨rfl, rfl, rfl⟩ rfl rfl Try.underlying53 (by kernel_rfl) (by kernel_rfl), Try.f50, Try.func50, by kernel_rfl, rfl⟩
theorem ok51 : FnOk Try.prog 51 f51 := fnOk_of (fn := Try.f51) Try.func51 (by kernel_rfl) rfl (by kernel_rfl) rfl (by kernel_rfl) rfl
theorem ap_ok : ∀ f F, ap f = some F → FnOk Try.prog f F := by
  intro f F h
  unfold ap at h
  split at h
  · obtain rfl := Option.some.inj h; exact ok2
  · obtain rfl := Option.some.inj h; exact ok3
  · obtain rfl := Option.some.inj h; exact ok4
  · obtain rfl := Option.some.inj h; exact ok5
  · obtain rfl := Option.some.inj h; exact ok6
  · obtain rfl := Option.some.inj h; exact ok7
  · obtain rfl := Option.some.inj h; exact ok8
  · obtain rfl := Option.some.inj h; exact ok9
  · obtain rfl := Option.some.inj h; exact ok10
  · obtain rfl := Option.some.inj h; exact ok11
  · obtain rfl := Option.some.inj h; exact ok12
  · obtain rfl := Option.some.inj h; exact ok13
  · obtain rfl := Option.some.inj h; exact ok14
  · obtain rfl := Option.some.inj h; exact ok15
  · obtain rfl := Option.some.inj h; exact ok16
  · obtain rfl := Option.some.inj h; exact ok17
  · obtain rfl := Option.some.inj h; exact ok18
  · obtain rfl := Option.some.inj h; exact ok19
  · obtain rfl := Option.some.inj h; exact ok20
  · obtain rfl := Option.some.inj h; exact ok21
  · obtain rfl := Option.some.inj h; exact ok22
  · obtain rfl := Option.some.inj h; exact ok23
  · obtain rfl := Option.some.inj h; exact ok24
  · obtain rfl := Option.some.inj h; exact ok25
  · obtain rfl := Option.some.inj h; exact ok26
  · obtain rfl := Option.some.inj h; exact ok27
  · obtain rfl := Option.some.inj h; exact ok28
  · obtain rfl := Option.some.inj h; exact ok29
  · obtain rfl := Option.some.inj h; exact ok30
  · obtain rfl := Option.some.inj h; exact ok31
  · obtain rfl := Option.some.inj h; exact ok32
  · obtain rfl := Option.some.inj h; exact ok33
  · obtain rfl := Option.some.inj h; exact ok34
  · obtain rfl := Option.some.inj h; exact ok35
  · obtain rfl := Option.some.inj h; exact ok36
  · obtain rfl := Option.some.inj h; exact ok37
  · obtain rfl := Option.some.inj h; exact ok38
  · obtain rfl := Option.some.inj h; exact ok39
  · obtain rfl := Option.some.inj h; exact ok40
  · obtain rfl := Option.some.inj h; exact ok41
  · obtain rfl := Option.some.inj h; exact ok42
  · obtain rfl := Option.some.inj h; exact ok43
  · obtain rfl := Option.some.inj h; exact ok44
  · obtain rfl := Option.some.inj h; exact ok45
  · obtain rfl := Option.some.inj h; exact ok46
  · obtain rfl := Option.some.inj h; exact ok47
  · obtain rfl := Option.some.inj h; exact ok48
  · obtain rfl := Option.some.inj h; exact ok49
  · obtain rfl := Option.some.inj h; exact ok50
  · obtain rfl := Option.some.inj h; exact ok51
  · cases h
end Go.Proofs.Ythanlobfjpjegaa.Abs
