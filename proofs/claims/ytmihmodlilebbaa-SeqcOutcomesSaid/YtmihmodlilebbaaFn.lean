/- The functions of the program, as the plain machine has them; each stands for the program's own. Written by this session's programs Comp.lean and genfn.py. -/
import Derived.Test.YtmihmodlilebbaaC3
import Derived.Test.YtmihmodlilebbaaProg
import Derived.KernelRfl
namespace Go.Proofs.Ytmihmodlilebbaa.Abs
open Go Go.RowKit
set_option linter.unusedVariables false
set_option maxRecDepth 100000
namespace Fn
/-- gosem.cut.init -/
def f2 : AFun := ⟨1, (.region [⟨some 0, .call 1 [], none⟩] []), [], true, none⟩
/-- cotterel/cotterellaw55.SeqcOutcomes -/
def f3 : AFun := ⟨40, (.seq (.region [⟨some 4, .mv (.con (.bool false)), none⟩] [])
(.seq (.seq (.region [⟨some 8, .mv (.tmp 0), none⟩,
   ⟨some 9, .call 6 [(.tmp 8), (.con (.int .i64 4))], none⟩,
   ⟨some 10, .un .not (.tmp 9), none⟩] [])
 (.cond (.tmp 10)
  (.seq (.region [⟨some 11, .call 7 [], none⟩,
    ⟨some 4, .mv (.tmp 11), none⟩] [])
  .ret)
  .skip))
(.seq (.region [⟨some 12, .mv (.tmp 0), none⟩,
  ⟨some 13, .mv (.tmp 1), none⟩,
  ⟨some 14, .call 8 [(.tmp 12), (.tmp 13)], none⟩,
  ⟨some 5, .mv (.tmp 14), none⟩] [])
(.seq (.region [⟨some 15, .mv (.tmp 0), none⟩,
  ⟨some 16, .mv (.tmp 1), none⟩,
  ⟨some 17, .call 9 [(.tmp 15), (.tmp 16)], none⟩,
  ⟨some 6, .mv (.tmp 17), none⟩] [])
(.seq (.seq (.region [⟨some 18, .mv (.tmp 5), none⟩,
   ⟨some 19, .len (.tmp 18), none⟩,
   ⟨some 20, .mv (.tmp 6), none⟩,
   ⟨some 21, .len (.tmp 20), none⟩,
   ⟨some 22, .bin .neq (.tmp 19) (.tmp 21), none⟩] [])
 (.cond (.tmp 22)
  (.seq (.region [⟨some 4, .mv (.con (.bool false)), none⟩] [])
  .ret)
  .skip))
(.seq (.seq (.region [⟨some 7, .mv (.con (.int .i64 0)), none⟩] [])
 (.block 0 (.loop (.seq (.seq (.region [⟨some 23, .mv (.tmp 7), none⟩,
      ⟨some 24, .mv (.tmp 5), none⟩,
      ⟨some 25, .len (.tmp 24), none⟩,
      ⟨some 26, .bin .lss (.tmp 23) (.tmp 25), none⟩] [])
    (.cond (.tmp 26)
     .skip
     (.exit 0)))
   (.seq (.block 1 (.seq (.region [⟨some 29, .mv (.tmp 5), none⟩,
       ⟨some 30, .mv (.tmp 7), none⟩,
       ⟨some 31, .isl 1 (.tmp 29) (.tmp 30), none⟩,
       ⟨some 32, .load true 1 (.tmp 31), none⟩,
       ⟨some 33, .mv (.tmp 6), none⟩,
       ⟨some 34, .mv (.tmp 7), none⟩,
       ⟨some 35, .isl 1 (.tmp 33) (.tmp 34), none⟩,
       ⟨some 36, .load true 1 (.tmp 35), none⟩,
       ⟨some 37, .call 10 [(.tmp 32), (.tmp 36)], none⟩,
       ⟨some 38, .un .not (.tmp 37), none⟩] [])
     (.cond (.tmp 38)
      (.seq (.region [⟨some 4, .mv (.con (.bool false)), none⟩] [])
      .ret)
      .skip)))
   (.region [⟨some 27, .mv (.tmp 7), none⟩,
    ⟨some 28, .bin .add (.tmp 27) (.con (.int .i64 1)), none⟩,
    ⟨some 7, .mv (.tmp 28), none⟩] []))))))
(.seq (.region [⟨some 39, .call 7 [], none⟩,
  ⟨some 4, .mv (.tmp 39), none⟩] [])
.ret))))))), [.tmp 4], true, none⟩
/-- cotterel/cotterellaw55.SeqcRuns -/
def f4 : AFun := ⟨45, (.seq (.region [⟨some 6, .mv (.con (.bool false)), none⟩] [])
(.seq (.seq (.region [⟨some 11, .mv (.tmp 0), none⟩,
   ⟨some 12, .call 6 [(.tmp 11), (.con (.int .i64 8))], none⟩,
   ⟨some 13, .un .not (.tmp 12), none⟩,
   ⟨some 14, .mv (.tmp 13), none⟩,
   ⟨some 15, .mv (.tmp 2), some (14, false)⟩,
   ⟨some 16, .len (.tmp 15), some (14, false)⟩,
   ⟨some 17, .bin .gtr (.tmp 16) (.con (.int .i64 200)), some (14, false)⟩,
   ⟨some 18, .pick (.tmp 14) (.con (.bool true)) (.tmp 17), none⟩] [])
 (.cond (.tmp 18)
  (.seq (.region [⟨some 19, .call 7 [], none⟩,
    ⟨some 6, .mv (.tmp 19), none⟩] [])
  .ret)
  .skip))
(.seq (.region [⟨some 21, .mv (.tmp 0), none⟩,
  ⟨some 22, .mv (.tmp 1), none⟩,
  ⟨some 23, .mv (.tmp 2), none⟩,
  ⟨some 24, .call 11 [(.tmp 21), (.tmp 22), (.tmp 23)], none⟩,
  ⟨some 20, .mv (.tmp 24), none⟩,
  ⟨some 25, .extract (.tmp 20) 0, none⟩,
  ⟨some 26, .extract (.tmp 20) 1, none⟩,
  ⟨some 7, .mv (.tmp 25), none⟩,
  ⟨some 8, .mv (.tmp 26), none⟩] [])
(.seq (.region [⟨some 28, .mv (.tmp 0), none⟩,
  ⟨some 29, .mv (.tmp 1), none⟩,
  ⟨some 30, .mv (.tmp 2), none⟩,
  ⟨some 31, .call 12 [(.tmp 28), (.tmp 29), (.tmp 30)], none⟩,
  ⟨some 27, .mv (.tmp 31), none⟩,
  ⟨some 32, .extract (.tmp 27) 0, none⟩,
  ⟨some 33, .extract (.tmp 27) 1, none⟩,
  ⟨some 9, .mv (.tmp 32), none⟩,
  ⟨some 10, .mv (.tmp 33), none⟩] [])
(.seq (.region [⟨some 34, .mv (.tmp 7), none⟩,
  ⟨some 35, .mv (.tmp 9), none⟩,
  ⟨some 36, .call 10 [(.tmp 34), (.tmp 35)], none⟩,
  ⟨some 37, .mv (.tmp 36), none⟩,
  ⟨some 38, .mv (.tmp 8), some (37, true)⟩,
  ⟨some 39, .mv (.tmp 10), some (37, true)⟩,
  ⟨some 40, .call 13 [(.tmp 38), (.tmp 39)], some (37, true)⟩,
  ⟨some 41, .pick (.tmp 37) (.tmp 40) (.con (.bool false)), none⟩,
  ⟨some 42, .mv (.tmp 41), none⟩,
  ⟨some 43, .call 7 [], some (42, true)⟩,
  ⟨some 44, .pick (.tmp 42) (.tmp 43) (.con (.bool false)), none⟩,
  ⟨some 6, .mv (.tmp 44), none⟩] [])
.ret))))), [.tmp 6], true, none⟩
/-- cotterel/cotterellaw55.SeqcFences -/
def f5 : AFun := ⟨50, (.seq (.region [⟨some 2, .mv (.con (.bool false)), none⟩] [])
(.seq (.seq (.region [⟨some 7, .mv (.tmp 0), none⟩,
   ⟨some 8, .len (.tmp 7), none⟩,
   ⟨some 9, .bin .gtr (.tmp 8) (.con (.int .i64 6)), none⟩] [])
 (.cond (.tmp 9)
  (.seq (.region [⟨some 10, .call 7 [], none⟩,
    ⟨some 2, .mv (.tmp 10), none⟩] [])
  .ret)
  .skip))
(.seq (.seq (.region [⟨some 3, .mv (.con (.int .i64 0)), none⟩] [])
 (.block 0 (.loop (.seq (.seq (.region [⟨some 11, .mv (.tmp 3), none⟩,
      ⟨some 12, .mv (.tmp 0), none⟩,
      ⟨some 13, .len (.tmp 12), none⟩,
      ⟨some 14, .bin .lss (.tmp 11) (.tmp 13), none⟩] [])
    (.cond (.tmp 14)
     .skip
     (.exit 0)))
   (.seq (.block 1 (.seq (.region [⟨some 17, .mv (.tmp 0), none⟩,
       ⟨some 18, .mv (.tmp 3), none⟩,
       ⟨some 19, .isl 1 (.tmp 17) (.tmp 18), none⟩,
       ⟨some 20, .load true 1 (.tmp 19), none⟩,
       ⟨some 21, .len (.tmp 20), none⟩,
       ⟨some 22, .bin .gtr (.tmp 21) (.con (.int .i64 40)), none⟩] [])
     (.cond (.tmp 22)
      (.seq (.region [⟨some 23, .call 7 [], none⟩,
        ⟨some 2, .mv (.tmp 23), none⟩] [])
      .ret)
      .skip)))
   (.region [⟨some 15, .mv (.tmp 3), none⟩,
    ⟨some 16, .bin .add (.tmp 15) (.con (.int .i64 1)), none⟩,
    ⟨some 3, .mv (.tmp 16), none⟩] []))))))
(.seq (.region [⟨some 24, .mv (.tmp 0), none⟩,
  ⟨some 25, .call 14 [(.tmp 24)], none⟩,
  ⟨some 26, .mv (.tmp 0), none⟩,
  ⟨some 27, .call 15 [(.tmp 26)], none⟩,
  ⟨some 4, .mv (.tmp 25), none⟩,
  ⟨some 5, .mv (.tmp 27), none⟩] [])
(.seq (.seq (.region [⟨some 28, .mv (.tmp 4), none⟩,
   ⟨some 29, .len (.tmp 28), none⟩,
   ⟨some 30, .mv (.tmp 5), none⟩,
   ⟨some 31, .len (.tmp 30), none⟩,
   ⟨some 32, .bin .neq (.tmp 29) (.tmp 31), none⟩] [])
 (.cond (.tmp 32)
  (.seq (.region [⟨some 2, .mv (.con (.bool false)), none⟩] [])
  .ret)
  .skip))
(.seq (.seq (.region [⟨some 6, .mv (.con (.int .i64 0)), none⟩] [])
 (.block 2 (.loop (.seq (.seq (.region [⟨some 33, .mv (.tmp 6), none⟩,
      ⟨some 34, .mv (.tmp 4), none⟩,
      ⟨some 35, .len (.tmp 34), none⟩,
      ⟨some 36, .bin .lss (.tmp 33) (.tmp 35), none⟩] [])
    (.cond (.tmp 36)
     .skip
     (.exit 2)))
   (.seq (.block 3 (.seq (.region [⟨some 39, .mv (.tmp 4), none⟩,
       ⟨some 40, .mv (.tmp 6), none⟩,
       ⟨some 41, .isl 1 (.tmp 39) (.tmp 40), none⟩,
       ⟨some 42, .load true 1 (.tmp 41), none⟩,
       ⟨some 43, .mv (.tmp 5), none⟩,
       ⟨some 44, .mv (.tmp 6), none⟩,
       ⟨some 45, .isl 1 (.tmp 43) (.tmp 44), none⟩,
       ⟨some 46, .load true 1 (.tmp 45), none⟩,
       ⟨some 47, .call 16 [(.tmp 42), (.tmp 46)], none⟩,
       ⟨some 48, .un .not (.tmp 47), none⟩] [])
     (.cond (.tmp 48)
      (.seq (.region [⟨some 2, .mv (.con (.bool false)), none⟩] [])
      .ret)
      .skip)))
   (.region [⟨some 37, .mv (.tmp 6), none⟩,
    ⟨some 38, .bin .add (.tmp 37) (.con (.int .i64 1)), none⟩,
    ⟨some 6, .mv (.tmp 38), none⟩] []))))))
(.seq (.region [⟨some 49, .call 7 [], none⟩,
  ⟨some 2, .mv (.tmp 49), none⟩] [])
.ret))))))), [.tmp 2], true, none⟩
/-- cotterel/cotterellaw55.light -/
def f6 : AFun := ⟨42, (.seq (.region [⟨some 4, .mv (.con (.bool false)), none⟩] [])
(.seq (.seq (.region [⟨some 5, .mv (.con (.int .i64 0)), none⟩] [])
 (.block 0 (.loop (.seq (.seq (.region [⟨some 6, .mv (.tmp 5), none⟩,
      ⟨some 7, .mv (.tmp 0), none⟩,
      ⟨some 8, .len (.tmp 7), none⟩,
      ⟨some 9, .bin .lss (.tmp 6) (.tmp 8), none⟩,
      ⟨some 10, .mv (.tmp 9), none⟩,
      ⟨some 11, .mv (.tmp 5), some (10, true)⟩,
      ⟨some 12, .bin .lss (.tmp 11) (.con (.int .i64 6)), some (10, true)⟩,
      ⟨some 13, .pick (.tmp 10) (.tmp 12) (.con (.bool false)), none⟩] [])
    (.cond (.tmp 13)
     .skip
     (.exit 0)))
   (.seq (.block 1 (.seq (.region [⟨some 16, .mv (.tmp 0), none⟩,
       ⟨some 17, .mv (.tmp 5), none⟩,
       ⟨some 18, .isl 1 (.tmp 16) (.tmp 17), none⟩,
       ⟨some 19, .load true 1 (.tmp 18), none⟩,
       ⟨some 20, .len (.tmp 19), none⟩,
       ⟨some 21, .mv (.tmp 1), none⟩,
       ⟨some 22, .bin .gtr (.tmp 20) (.tmp 21), none⟩,
       ⟨some 23, .mv (.tmp 22), none⟩,
       ⟨some 24, .mv (.tmp 0), some (23, true)⟩,
       ⟨some 25, .mv (.tmp 5), some (23, true)⟩,
       ⟨some 26, .isl 1 (.tmp 24) (.tmp 25), some (23, true)⟩,
       ⟨some 27, .load true 1 (.tmp 26), some (23, true)⟩,
       ⟨some 28, .len (.tmp 27), some (23, true)⟩,
       ⟨some 29, .bin .leq (.tmp 28) (.con (.int .i64 8)), some (23, true)⟩,
       ⟨some 30, .pick (.tmp 23) (.tmp 29) (.con (.bool false)), none⟩,
       ⟨some 31, .mv (.tmp 30), none⟩,
       ⟨some 32, .mv (.tmp 0), some (31, false)⟩,
       ⟨some 33, .mv (.tmp 5), some (31, false)⟩,
       ⟨some 34, .isl 1 (.tmp 32) (.tmp 33), some (31, false)⟩,
       ⟨some 35, .load true 1 (.tmp 34), some (31, false)⟩,
       ⟨some 36, .len (.tmp 35), some (31, false)⟩,
       ⟨some 37, .bin .gtr (.tmp 36) (.con (.int .i64 40)), some (31, false)⟩,
       ⟨some 38, .pick (.tmp 31) (.con (.bool true)) (.tmp 37), none⟩] [])
     (.cond (.tmp 38)
      (.seq (.region [⟨some 4, .mv (.con (.bool false)), none⟩] [])
      .ret)
      .skip)))
   (.region [⟨some 14, .mv (.tmp 5), none⟩,
    ⟨some 15, .bin .add (.tmp 14) (.con (.int .i64 1)), none⟩,
    ⟨some 5, .mv (.tmp 15), none⟩] []))))))
(.seq (.region [⟨some 39, .mv (.tmp 0), none⟩,
  ⟨some 40, .len (.tmp 39), none⟩,
  ⟨some 41, .bin .leq (.tmp 40) (.con (.int .i64 6)), none⟩,
  ⟨some 4, .mv (.tmp 41), none⟩] [])
.ret))), [.tmp 4], true, none⟩
/-- cotterel/cotterellaw55.awake -/
def f7 : AFun := ⟨42, (.seq (.region [⟨some 0, .mv (.con (.bool false)), none⟩] [])
(.seq (.region [⟨some 3, .build [(.int .i64 0), (.int .i64 0), (.int .u32 0)] [(0, 1, (.con (.int .i64 2))), (1, 1, (.con (.int .i64 0))), (2, 1, (.con (.int .u32 1)))], none⟩,
  ⟨some 4, .build [(.int .i64 0), (.int .i64 0), (.int .u32 0)] [(0, 1, (.con (.int .i64 1))), (1, 1, (.con (.int .i64 1)))], none⟩,
  ⟨some 5, .bsl [(.int .i64 0), (.int .i64 0), (.int .u32 0), (.int .i64 0), (.int .i64 0), (.int .u32 0)] 2 3 [(0, 3, (.tmp 3)), (3, 3, (.tmp 4))], none⟩,
  ⟨some 6, .build [(.int .i64 0), (.int .i64 0), (.int .u32 0)] [(0, 1, (.con (.int .i64 2))), (1, 1, (.con (.int .i64 1))), (2, 1, (.con (.int .u32 1)))], none⟩,
  ⟨some 7, .build [(.int .i64 0), (.int .i64 0), (.int .u32 0)] [(0, 1, (.con (.int .i64 1))), (1, 1, (.con (.int .i64 0)))], none⟩,
  ⟨some 8, .bsl [(.int .i64 0), (.int .i64 0), (.int .u32 0), (.int .i64 0), (.int .i64 0), (.int .u32 0)] 2 3 [(0, 3, (.tmp 6)), (3, 3, (.tmp 7))], none⟩,
  ⟨some 9, .bsl [(.imm true 0 []), (.imm true 0 [])] 2 1 [(0, 1, (.tmp 5)), (1, 1, (.tmp 8))], none⟩,
  ⟨some 1, .mv (.tmp 9), none⟩] [])
(.seq (.region [⟨some 10, .mv (.tmp 1), none⟩,
  ⟨some 11, .call 8 [(.tmp 10), (.con (.int .i64 2))], none⟩,
  ⟨some 2, .mv (.tmp 11), none⟩] [])
(.seq (.region [⟨some 12, .mv (.tmp 2), none⟩,
  ⟨some 13, .len (.tmp 12), none⟩,
  ⟨some 14, .bin .eql (.tmp 13) (.con (.int .i64 3)), none⟩,
  ⟨some 15, .mv (.tmp 14), none⟩,
  ⟨some 16, .mv (.tmp 2), some (15, true)⟩,
  ⟨some 17, .isl 1 (.tmp 16) (.con (.int .i64 0)), some (15, true)⟩,
  ⟨some 18, .load true 1 (.tmp 17), some (15, true)⟩,
  ⟨some 19, .bsl [(.int .u32 0)] 1 1 [(0, 1, (.con (.int .u32 0)))], some (15, true)⟩,
  ⟨some 20, .bsl [(.int .u32 0)] 1 1 [(0, 1, (.con (.int .u32 1)))], some (15, true)⟩,
  ⟨some 21, .bsl [(.imm true 0 []), (.imm true 0 [])] 2 1 [(0, 1, (.tmp 19)), (1, 1, (.tmp 20))], some (15, true)⟩,
  ⟨some 22, .call 10 [(.tmp 18), (.tmp 21)], some (15, true)⟩,
  ⟨some 23, .pick (.tmp 15) (.tmp 22) (.con (.bool false)), none⟩,
  ⟨some 24, .mv (.tmp 23), none⟩,
  ⟨some 25, .mv (.tmp 2), some (24, true)⟩,
  ⟨some 26, .isl 1 (.tmp 25) (.con (.int .i64 1)), some (24, true)⟩,
  ⟨some 27, .load true 1 (.tmp 26), some (24, true)⟩,
  ⟨some 28, .bsl [(.int .u32 0)] 1 1 [(0, 1, (.con (.int .u32 1)))], some (24, true)⟩,
  ⟨some 29, .bsl [(.int .u32 0)] 1 1 [(0, 1, (.con (.int .u32 1)))], some (24, true)⟩,
  ⟨some 30, .bsl [(.imm true 0 []), (.imm true 0 [])] 2 1 [(0, 1, (.tmp 28)), (1, 1, (.tmp 29))], some (24, true)⟩,
  ⟨some 31, .call 10 [(.tmp 27), (.tmp 30)], some (24, true)⟩,
  ⟨some 32, .pick (.tmp 24) (.tmp 31) (.con (.bool false)), none⟩,
  ⟨some 33, .mv (.tmp 32), none⟩,
  ⟨some 34, .mv (.tmp 2), some (33, true)⟩,
  ⟨some 35, .isl 1 (.tmp 34) (.con (.int .i64 2)), some (33, true)⟩,
  ⟨some 36, .load true 1 (.tmp 35), some (33, true)⟩,
  ⟨some 37, .bsl [(.int .u32 0)] 1 1 [(0, 1, (.con (.int .u32 1)))], some (33, true)⟩,
  ⟨some 38, .bsl [(.int .u32 0)] 1 1 [(0, 1, (.con (.int .u32 0)))], some (33, true)⟩,
  ⟨some 39, .bsl [(.imm true 0 []), (.imm true 0 [])] 2 1 [(0, 1, (.tmp 37)), (1, 1, (.tmp 38))], some (33, true)⟩,
  ⟨some 40, .call 10 [(.tmp 36), (.tmp 39)], some (33, true)⟩,
  ⟨some 41, .pick (.tmp 33) (.tmp 40) (.con (.bool false)), none⟩,
  ⟨some 0, .mv (.tmp 41), none⟩] [])
.ret)))), [.tmp 0], true, none⟩
/-- cotterel/seqc.Outcomes -/
def f8 : AFun := ⟨12, (.seq (.region [⟨some 4, .mv (.con (.imm true 0 [])), none⟩] [])
(.seq (.seq (.region [⟨some 5, .mv (.tmp 0), none⟩,
   ⟨some 6, .call 17 [(.tmp 5)], none⟩,
   ⟨some 7, .un .not (.tmp 6), none⟩] [])
 (.cond (.tmp 7)
  (.seq (.region [⟨some 4, .mv (.con (.imm true 0 [])), none⟩] [])
  .ret)
  .skip))
(.seq (.region [⟨some 8, .mv (.tmp 0), none⟩,
  ⟨some 9, .mv (.tmp 1), none⟩,
  ⟨some 10, .call 18 [(.tmp 8), (.tmp 9)], none⟩,
  ⟨some 11, .call 19 [(.tmp 10), (.con (.imm true 0 []))], none⟩,
  ⟨some 4, .mv (.tmp 11), none⟩] [])
.ret))), [.tmp 4], true, none⟩
/-- cotterel/cotterelref55.Outcomes -/
def f9 : AFun := ⟨13, (.seq (.region [⟨some 4, .mv (.con (.imm true 0 [])), none⟩] [])
(.seq (.seq (.region [⟨some 5, .mv (.tmp 0), none⟩,
   ⟨some 6, .call 20 [(.tmp 5)], none⟩,
   ⟨some 7, .un .not (.tmp 6), none⟩] [])
 (.cond (.tmp 7)
  (.seq (.region [⟨some 4, .mv (.con (.imm true 0 [])), none⟩] [])
  .ret)
  .skip))
(.seq (.region [⟨some 8, .mv (.tmp 0), none⟩,
  ⟨some 9, .mv (.tmp 0), none⟩,
  ⟨some 10, .mv (.tmp 1), none⟩,
  ⟨some 11, .call 22 [(.tmp 9), (.tmp 10)], none⟩,
  ⟨some 12, .call 21 [(.tmp 8), (.tmp 11), (.con (.imm true 0 []))], none⟩,
  ⟨some 4, .mv (.tmp 12), none⟩] [])
.ret))), [.tmp 4], true, none⟩
/-- cotterel/cotterelref55.Same -/
def f10 : AFun := ⟨27, (.seq (.region [⟨some 4, .mv (.con (.bool false)), none⟩] [])
(.seq (.seq (.region [⟨some 6, .mv (.tmp 0), none⟩,
   ⟨some 7, .len (.tmp 6), none⟩,
   ⟨some 8, .mv (.tmp 1), none⟩,
   ⟨some 9, .len (.tmp 8), none⟩,
   ⟨some 10, .bin .neq (.tmp 7) (.tmp 9), none⟩] [])
 (.cond (.tmp 10)
  (.seq (.region [⟨some 4, .mv (.con (.bool false)), none⟩] [])
  .ret)
  .skip))
(.seq (.seq (.region [⟨some 5, .mv (.con (.int .i64 0)), none⟩] [])
 (.block 0 (.loop (.seq (.seq (.region [⟨some 11, .mv (.tmp 5), none⟩,
      ⟨some 12, .mv (.tmp 0), none⟩,
      ⟨some 13, .len (.tmp 12), none⟩,
      ⟨some 14, .bin .lss (.tmp 11) (.tmp 13), none⟩] [])
    (.cond (.tmp 14)
     .skip
     (.exit 0)))
   (.seq (.block 1 (.seq (.region [⟨some 17, .mv (.tmp 0), none⟩,
       ⟨some 18, .mv (.tmp 5), none⟩,
       ⟨some 19, .isl 1 (.tmp 17) (.tmp 18), none⟩,
       ⟨some 20, .load true 1 (.tmp 19), none⟩,
       ⟨some 21, .mv (.tmp 1), none⟩,
       ⟨some 22, .mv (.tmp 5), none⟩,
       ⟨some 23, .isl 1 (.tmp 21) (.tmp 22), none⟩,
       ⟨some 24, .load true 1 (.tmp 23), none⟩,
       ⟨some 25, .call 13 [(.tmp 20), (.tmp 24)], none⟩,
       ⟨some 26, .un .not (.tmp 25), none⟩] [])
     (.cond (.tmp 26)
      (.seq (.region [⟨some 4, .mv (.con (.bool false)), none⟩] [])
      .ret)
      .skip)))
   (.region [⟨some 15, .mv (.tmp 5), none⟩,
    ⟨some 16, .bin .add (.tmp 15) (.con (.int .i64 1)), none⟩,
    ⟨some 5, .mv (.tmp 16), none⟩] []))))))
(.seq (.region [⟨some 4, .mv (.con (.bool true)), none⟩] [])
.ret)))), [.tmp 4], true, none⟩
/-- cotterel/seqc.Run -/
def f11 : AFun := ⟨37, (.seq (.region [⟨some 6, .mv (.con (.imm true 0 [])), none⟩,
  ⟨some 7, .mv (.con (.imm true 0 [])), none⟩] [])
(.seq (.seq (.region [⟨some 11, .mv (.tmp 0), none⟩,
   ⟨some 12, .call 17 [(.tmp 11)], none⟩,
   ⟨some 13, .un .not (.tmp 12), none⟩] [])
 (.cond (.tmp 13)
  (.seq (.region [⟨some 6, .mv (.con (.imm true 0 [])), none⟩,
    ⟨some 7, .mv (.con (.imm true 0 [])), none⟩] [])
  .ret)
  .skip))
(.seq (.region [⟨some 14, .mv (.tmp 0), none⟩,
  ⟨some 15, .mv (.tmp 1), none⟩,
  ⟨some 16, .call 18 [(.tmp 14), (.tmp 15)], none⟩,
  ⟨some 8, .alloc [(.imm true 0 []), (.int .u32 0), (.int .u32 0), (.int .u32 0), (.int .u32 0), (.int .u32 0), (.int .u32 0), (.int .u32 0), (.int .u32 0), (.int .i64 0), (.int .i64 0), (.int .i64 0), (.imm true 0 []), (.imm true 0 [])], none⟩,
  ⟨none, .store 14 (.tmp 8) (.tmp 16), none⟩] [])
(.seq (.seq (.region [⟨some 17, .mv (.tmp 2), none⟩,
   ⟨some 18, .len (.tmp 17), none⟩,
   ⟨some 19, .mv (.con (.int .i64 0)), none⟩] [])
 (.block 0 (.loop (.seq (.region [⟨some 20, .bin .lss (.tmp 19) (.tmp 18), none⟩] [])
   (.seq (.cond (.tmp 20)
     .skip
     (.exit 0))
   (.seq (.block 1 (.seq (.region [⟨some 21, .isl 1 (.tmp 17) (.tmp 19), none⟩,
       ⟨some 22, .load true 1 (.tmp 21), none⟩,
       ⟨some 10, .mv (.tmp 22), none⟩] [])
     (.seq (.region [⟨some 23, .load false 14 (.tmp 8), none⟩,
       ⟨some 24, .mv (.tmp 10), none⟩,
       ⟨some 25, .call 23 [(.tmp 23), (.tmp 24)], none⟩] [])
     (.cond (.tmp 25)
      (.region [⟨some 26, .load false 14 (.tmp 8), none⟩,
       ⟨some 27, .mv (.tmp 10), none⟩,
       ⟨some 28, .call 24 [(.tmp 26), (.tmp 27)], none⟩,
       ⟨none, .store 14 (.tmp 8) (.tmp 28), none⟩] [])
      .skip))))
   (.region [⟨some 29, .bin .add (.tmp 19) (.con (.int .i64 1)), none⟩,
    ⟨some 19, .mv (.tmp 29), none⟩] [])))))))
(.seq (.region [⟨some 30, .load false 14 (.tmp 8), none⟩,
  ⟨some 31, .call 25 [(.tmp 30)], none⟩,
  ⟨some 32, .faddr (.tmp 8) 1, none⟩,
  ⟨some 33, .faddr (.tmp 8) 9, none⟩,
  ⟨some 34, .load true 1 (.tmp 33), none⟩,
  ⟨some 35, .slArr 8 1 (.tmp 32) none (some (.tmp 34)) none, none⟩,
  ⟨some 36, .append 1 4 (.con (.imm true 0 [])) (.tmp 35), none⟩,
  ⟨some 6, .mv (.tmp 31), none⟩,
  ⟨some 7, .mv (.tmp 36), none⟩] [(1, 4), (1, 5)])
.ret))))), [.tmp 6, .tmp 7], true, none⟩
/-- cotterel/cotterelref55.Run -/
def f12 : AFun := ⟨36, (.seq (.region [⟨some 6, .mv (.con (.imm true 0 [])), none⟩,
  ⟨some 7, .mv (.con (.imm true 0 [])), none⟩] [])
(.seq (.seq (.region [⟨some 10, .mv (.tmp 0), none⟩,
   ⟨some 11, .call 20 [(.tmp 10)], none⟩,
   ⟨some 12, .un .not (.tmp 11), none⟩] [])
 (.cond (.tmp 12)
  (.seq (.region [⟨some 6, .mv (.con (.imm true 0 [])), none⟩,
    ⟨some 7, .mv (.con (.imm true 0 [])), none⟩] [])
  .ret)
  .skip))
(.seq (.region [⟨some 13, .mv (.tmp 0), none⟩,
  ⟨some 14, .mv (.tmp 1), none⟩,
  ⟨some 15, .call 22 [(.tmp 13), (.tmp 14)], none⟩,
  ⟨some 8, .alloc [(.imm true 0 []), (.imm true 0 []), (.imm true 0 [])], none⟩,
  ⟨none, .store 3 (.tmp 8) (.tmp 15), none⟩] [])
(.seq (.seq (.region [⟨some 9, .mv (.con (.int .i64 0)), none⟩] [])
 (.block 0 (.loop (.seq (.seq (.region [⟨some 16, .mv (.tmp 9), none⟩,
      ⟨some 17, .mv (.tmp 2), none⟩,
      ⟨some 18, .len (.tmp 17), none⟩,
      ⟨some 19, .bin .lss (.tmp 16) (.tmp 18), none⟩] [])
    (.cond (.tmp 19)
     .skip
     (.exit 0)))
   (.seq (.block 1 (.region [⟨some 23, .mv (.tmp 0), none⟩,
      ⟨some 24, .load false 3 (.tmp 8), none⟩,
      ⟨some 25, .mv (.tmp 2), none⟩,
      ⟨some 26, .mv (.tmp 9), none⟩,
      ⟨some 27, .isl 1 (.tmp 25) (.tmp 26), none⟩,
      ⟨some 28, .load true 1 (.tmp 27), none⟩,
      ⟨some 29, .call 26 [(.tmp 23), (.tmp 24), (.tmp 28)], none⟩,
      ⟨some 22, .mv (.tmp 29), none⟩,
      ⟨some 30, .extract (.tmp 22) 0, none⟩,
      ⟨some 31, .extract (.tmp 22) 1, none⟩,
      ⟨none, .store 3 (.tmp 8) (.tmp 30), none⟩] []))
   (.region [⟨some 20, .mv (.tmp 9), none⟩,
    ⟨some 21, .bin .add (.tmp 20) (.con (.int .i64 1)), none⟩,
    ⟨some 9, .mv (.tmp 21), none⟩] []))))))
(.seq (.region [⟨some 32, .faddr (.tmp 8) 2, none⟩,
  ⟨some 33, .load true 1 (.tmp 32), none⟩,
  ⟨some 34, .faddr (.tmp 8) 0, none⟩,
  ⟨some 35, .load true 1 (.tmp 34), none⟩,
  ⟨some 6, .mv (.tmp 33), none⟩,
  ⟨some 7, .mv (.tmp 35), none⟩] [])
.ret))))), [.tmp 6, .tmp 7], true, none⟩
/-- cotterel/cotterelsame.Words -/
def f13 : AFun := ⟨32, (.seq (.region [⟨some 4, .mv (.con (.bool false)), none⟩] [])
(.seq (.seq (.region [⟨some 6, .mv (.tmp 0), none⟩,
   ⟨some 7, .len (.tmp 6), none⟩,
   ⟨some 8, .mv (.tmp 1), none⟩,
   ⟨some 9, .len (.tmp 8), none⟩,
   ⟨some 10, .bin .neq (.tmp 7) (.tmp 9), none⟩] [])
 (.cond (.tmp 10)
  (.seq (.region [⟨some 4, .mv (.con (.bool false)), none⟩] [])
  .ret)
  .skip))
(.seq (.seq (.region [⟨some 5, .mv (.con (.int .i64 0)), none⟩] [])
 (.block 0 (.loop (.seq (.seq (.region [⟨some 11, .mv (.tmp 5), none⟩,
      ⟨some 12, .mv (.tmp 0), none⟩,
      ⟨some 13, .len (.tmp 12), none⟩,
      ⟨some 14, .bin .lss (.tmp 11) (.tmp 13), none⟩,
      ⟨some 15, .mv (.tmp 14), none⟩,
      ⟨some 16, .mv (.tmp 5), some (15, true)⟩,
      ⟨some 17, .mv (.tmp 1), some (15, true)⟩,
      ⟨some 18, .len (.tmp 17), some (15, true)⟩,
      ⟨some 19, .bin .lss (.tmp 16) (.tmp 18), some (15, true)⟩,
      ⟨some 20, .pick (.tmp 15) (.tmp 19) (.con (.bool false)), none⟩] [])
    (.cond (.tmp 20)
     .skip
     (.exit 0)))
   (.seq (.block 1 (.seq (.region [⟨some 23, .mv (.tmp 0), none⟩,
       ⟨some 24, .mv (.tmp 5), none⟩,
       ⟨some 25, .isl 1 (.tmp 23) (.tmp 24), none⟩,
       ⟨some 26, .load true 1 (.tmp 25), none⟩,
       ⟨some 27, .mv (.tmp 1), none⟩,
       ⟨some 28, .mv (.tmp 5), none⟩,
       ⟨some 29, .isl 1 (.tmp 27) (.tmp 28), none⟩,
       ⟨some 30, .load true 1 (.tmp 29), none⟩,
       ⟨some 31, .bin .neq (.tmp 26) (.tmp 30), none⟩] [])
     (.cond (.tmp 31)
      (.seq (.region [⟨some 4, .mv (.con (.bool false)), none⟩] [])
      .ret)
      .skip)))
   (.region [⟨some 21, .mv (.tmp 5), none⟩,
    ⟨some 22, .bin .add (.tmp 21) (.con (.int .i64 1)), none⟩,
    ⟨some 5, .mv (.tmp 22), none⟩] []))))))
(.seq (.region [⟨some 4, .mv (.con (.bool true)), none⟩] [])
.ret)))), [.tmp 4], true, none⟩
/-- cotterel/seqc.Fenced -/
def f14 : AFun := ⟨39, (.seq (.region [⟨some 2, .mv (.con (.imm true 0 [])), none⟩] [])
(.seq (.region [⟨some 3, .mv (.con (.imm true 0 [])), none⟩] [])
(.seq (.seq (.region [⟨some 9, .mv (.tmp 0), none⟩,
   ⟨some 10, .len (.tmp 9), none⟩,
   ⟨some 11, .mv (.con (.int .i64 0)), none⟩] [])
 (.block 0 (.loop (.seq (.region [⟨some 12, .bin .lss (.tmp 11) (.tmp 10), none⟩] [])
   (.seq (.cond (.tmp 12)
     .skip
     (.exit 0))
   (.seq (.block 1 (.seq (.region [⟨some 13, .isl 1 (.tmp 9) (.tmp 11), none⟩,
       ⟨some 14, .load true 1 (.tmp 13), none⟩,
       ⟨some 5, .mv (.tmp 14), none⟩] [])
     (.seq (.region [⟨some 6, .mv (.con (.imm true 0 [])), none⟩] [])
     (.seq (.seq (.region [⟨some 15, .mv (.tmp 5), none⟩,
        ⟨some 16, .len (.tmp 15), none⟩,
        ⟨some 17, .mv (.con (.int .i64 0)), none⟩] [])
      (.block 2 (.loop (.seq (.region [⟨some 18, .bin .lss (.tmp 17) (.tmp 16), none⟩] [])
        (.seq (.cond (.tmp 18)
          .skip
          (.exit 2))
        (.seq (.block 3 (.seq (.region [⟨some 19, .isl 3 (.tmp 15) (.tmp 17), none⟩,
            ⟨some 20, .load false 3 (.tmp 19), none⟩,
            ⟨some 8, .alloc [(.int .i64 0), (.int .i64 0), (.int .u32 0)], none⟩,
            ⟨none, .store 3 (.tmp 8) (.tmp 20), none⟩] [])
          (.seq (.region [⟨some 21, .mv (.tmp 6), none⟩,
            ⟨some 22, .load false 3 (.tmp 8), none⟩,
            ⟨some 23, .bsl [(.int .i64 0), (.int .i64 0), (.int .u32 0)] 1 3 [(0, 3, (.tmp 22))], none⟩,
            ⟨some 24, .append 3 24 (.tmp 21) (.tmp 23), none⟩,
            ⟨some 6, .mv (.tmp 24), none⟩] [])
          (.seq (.region [⟨some 25, .faddr (.tmp 8) 0, none⟩,
            ⟨some 26, .load true 1 (.tmp 25), none⟩,
            ⟨some 27, .bin .eql (.tmp 26) (.con (.int .i64 2)), none⟩] [])
          (.cond (.tmp 27)
           (.region [⟨some 28, .mv (.tmp 6), none⟩,
            ⟨some 29, .build [(.int .i64 0), (.int .i64 0), (.int .u32 0)] [(0, 1, (.con (.int .i64 3)))], none⟩,
            ⟨some 30, .bsl [(.int .i64 0), (.int .i64 0), (.int .u32 0)] 1 3 [(0, 3, (.tmp 29))], none⟩,
            ⟨some 31, .append 3 24 (.tmp 28) (.tmp 30), none⟩,
            ⟨some 6, .mv (.tmp 31), none⟩] [])
           .skip)))))
        (.region [⟨some 32, .bin .add (.tmp 17) (.con (.int .i64 1)), none⟩,
         ⟨some 17, .mv (.tmp 32), none⟩] [])))))))
     (.region [⟨some 33, .mv (.tmp 3), none⟩,
      ⟨some 34, .mv (.tmp 6), none⟩,
      ⟨some 35, .bsl [(.imm true 0 [])] 1 1 [(0, 1, (.tmp 34))], none⟩,
      ⟨some 36, .append 1 24 (.tmp 33) (.tmp 35), none⟩,
      ⟨some 3, .mv (.tmp 36), none⟩] [])))))
   (.region [⟨some 37, .bin .add (.tmp 11) (.con (.int .i64 1)), none⟩,
    ⟨some 11, .mv (.tmp 37), none⟩] [])))))))
(.seq (.region [⟨some 38, .mv (.tmp 3), none⟩,
  ⟨some 2, .mv (.tmp 38), none⟩] [])
.ret)))), [.tmp 2], true, none⟩
/-- cotterel/cotterelref55.Fenced -/
def f15 : AFun := ⟨50, (.seq (.region [⟨some 2, .mv (.con (.imm true 0 [])), none⟩] [])
(.seq (.region [⟨some 3, .mv (.con (.imm true 0 [])), none⟩] [])
(.seq (.seq (.region [⟨some 4, .mv (.con (.int .i64 0)), none⟩] [])
 (.block 0 (.loop (.seq (.seq (.region [⟨some 7, .mv (.tmp 4), none⟩,
      ⟨some 8, .mv (.tmp 0), none⟩,
      ⟨some 9, .len (.tmp 8), none⟩,
      ⟨some 10, .bin .lss (.tmp 7) (.tmp 9), none⟩] [])
    (.cond (.tmp 10)
     .skip
     (.exit 0)))
   (.seq (.block 1 (.seq (.region [⟨some 5, .mv (.con (.imm true 0 [])), none⟩] [])
     (.seq (.seq (.region [⟨some 6, .mv (.con (.int .i64 0)), none⟩] [])
      (.block 2 (.loop (.seq (.seq (.region [⟨some 13, .mv (.tmp 6), none⟩,
           ⟨some 14, .mv (.tmp 0), none⟩,
           ⟨some 15, .mv (.tmp 4), none⟩,
           ⟨some 16, .isl 1 (.tmp 14) (.tmp 15), none⟩,
           ⟨some 17, .load true 1 (.tmp 16), none⟩,
           ⟨some 18, .len (.tmp 17), none⟩,
           ⟨some 19, .bin .lss (.tmp 13) (.tmp 18), none⟩] [])
         (.cond (.tmp 19)
          .skip
          (.exit 2)))
        (.seq (.block 3 (.seq (.region [⟨some 22, .mv (.tmp 5), none⟩,
            ⟨some 23, .mv (.tmp 0), none⟩,
            ⟨some 24, .mv (.tmp 4), none⟩,
            ⟨some 25, .isl 1 (.tmp 23) (.tmp 24), none⟩,
            ⟨some 26, .load true 1 (.tmp 25), none⟩,
            ⟨some 27, .mv (.tmp 6), none⟩,
            ⟨some 28, .isl 3 (.tmp 26) (.tmp 27), none⟩,
            ⟨some 29, .load false 3 (.tmp 28), none⟩,
            ⟨some 30, .bsl [(.int .i64 0), (.int .i64 0), (.int .u32 0)] 1 3 [(0, 3, (.tmp 29))], none⟩,
            ⟨some 31, .append 3 24 (.tmp 22) (.tmp 30), none⟩,
            ⟨some 5, .mv (.tmp 31), none⟩] [])
          (.seq (.region [⟨some 32, .mv (.tmp 0), none⟩,
            ⟨some 33, .mv (.tmp 4), none⟩,
            ⟨some 34, .isl 1 (.tmp 32) (.tmp 33), none⟩,
            ⟨some 35, .load true 1 (.tmp 34), none⟩,
            ⟨some 36, .mv (.tmp 6), none⟩,
            ⟨some 37, .isl 3 (.tmp 35) (.tmp 36), none⟩,
            ⟨some 38, .faddr (.tmp 37) 0, none⟩,
            ⟨some 39, .load true 1 (.tmp 38), none⟩,
            ⟨some 40, .bin .eql (.tmp 39) (.con (.int .i64 2)), none⟩] [])
          (.cond (.tmp 40)
           (.region [⟨some 41, .mv (.tmp 5), none⟩,
            ⟨some 42, .build [(.int .i64 0), (.int .i64 0), (.int .u32 0)] [(0, 1, (.con (.int .i64 3)))], none⟩,
            ⟨some 43, .bsl [(.int .i64 0), (.int .i64 0), (.int .u32 0)] 1 3 [(0, 3, (.tmp 42))], none⟩,
            ⟨some 44, .append 3 24 (.tmp 41) (.tmp 43), none⟩,
            ⟨some 5, .mv (.tmp 44), none⟩] [])
           .skip))))
        (.region [⟨some 20, .mv (.tmp 6), none⟩,
         ⟨some 21, .bin .add (.tmp 20) (.con (.int .i64 1)), none⟩,
         ⟨some 6, .mv (.tmp 21), none⟩] []))))))
     (.region [⟨some 45, .mv (.tmp 3), none⟩,
      ⟨some 46, .mv (.tmp 5), none⟩,
      ⟨some 47, .bsl [(.imm true 0 [])] 1 1 [(0, 1, (.tmp 46))], none⟩,
      ⟨some 48, .append 1 24 (.tmp 45) (.tmp 47), none⟩,
      ⟨some 3, .mv (.tmp 48), none⟩] []))))
   (.region [⟨some 11, .mv (.tmp 4), none⟩,
    ⟨some 12, .bin .add (.tmp 11) (.con (.int .i64 1)), none⟩,
    ⟨some 4, .mv (.tmp 12), none⟩] []))))))
(.seq (.region [⟨some 49, .mv (.tmp 3), none⟩,
  ⟨some 2, .mv (.tmp 49), none⟩] [])
.ret)))), [.tmp 2], true, none⟩
/-- cotterel/cotterelsame.Ops -/
def f16 : AFun := ⟨32, (.seq (.region [⟨some 4, .mv (.con (.bool false)), none⟩] [])
(.seq (.seq (.region [⟨some 6, .mv (.tmp 0), none⟩,
   ⟨some 7, .len (.tmp 6), none⟩,
   ⟨some 8, .mv (.tmp 1), none⟩,
   ⟨some 9, .len (.tmp 8), none⟩,
   ⟨some 10, .bin .neq (.tmp 7) (.tmp 9), none⟩] [])
 (.cond (.tmp 10)
  (.seq (.region [⟨some 4, .mv (.con (.bool false)), none⟩] [])
  .ret)
  .skip))
(.seq (.seq (.region [⟨some 5, .mv (.con (.int .i64 0)), none⟩] [])
 (.block 0 (.loop (.seq (.seq (.region [⟨some 11, .mv (.tmp 5), none⟩,
      ⟨some 12, .mv (.tmp 0), none⟩,
      ⟨some 13, .len (.tmp 12), none⟩,
      ⟨some 14, .bin .lss (.tmp 11) (.tmp 13), none⟩,
      ⟨some 15, .mv (.tmp 14), none⟩,
      ⟨some 16, .mv (.tmp 5), some (15, true)⟩,
      ⟨some 17, .mv (.tmp 1), some (15, true)⟩,
      ⟨some 18, .len (.tmp 17), some (15, true)⟩,
      ⟨some 19, .bin .lss (.tmp 16) (.tmp 18), some (15, true)⟩,
      ⟨some 20, .pick (.tmp 15) (.tmp 19) (.con (.bool false)), none⟩] [])
    (.cond (.tmp 20)
     .skip
     (.exit 0)))
   (.seq (.block 1 (.seq (.region [⟨some 23, .mv (.tmp 0), none⟩,
       ⟨some 24, .mv (.tmp 5), none⟩,
       ⟨some 25, .isl 3 (.tmp 23) (.tmp 24), none⟩,
       ⟨some 26, .load false 3 (.tmp 25), none⟩,
       ⟨some 27, .mv (.tmp 1), none⟩,
       ⟨some 28, .mv (.tmp 5), none⟩,
       ⟨some 29, .isl 3 (.tmp 27) (.tmp 28), none⟩,
       ⟨some 30, .load false 3 (.tmp 29), none⟩,
       ⟨some 31, .aeq true [some .i64, some .i64, some .u32] (.tmp 26) (.tmp 30), none⟩] [])
     (.cond (.tmp 31)
      (.seq (.region [⟨some 4, .mv (.con (.bool false)), none⟩] [])
      .ret)
      .skip)))
   (.region [⟨some 21, .mv (.tmp 5), none⟩,
    ⟨some 22, .bin .add (.tmp 21) (.con (.int .i64 1)), none⟩,
    ⟨some 5, .mv (.tmp 22), none⟩] []))))))
(.seq (.region [⟨some 4, .mv (.con (.bool true)), none⟩] [])
.ret)))), [.tmp 4], true, none⟩
/-- cotterel/seqc.right -/
def f17 : AFun := ⟨18, (.seq (.region [⟨some 2, .mv (.con (.bool false)), none⟩] [])
(.seq (.seq (.region [⟨some 5, .mv (.tmp 0), none⟩,
   ⟨some 6, .len (.tmp 5), none⟩,
   ⟨some 7, .bin .gtr (.tmp 6) (.con (.int .i64 2)), none⟩] [])
 (.cond (.tmp 7)
  (.seq (.region [⟨some 2, .mv (.con (.bool false)), none⟩] [])
  .ret)
  .skip))
(.seq (.seq (.region [⟨some 8, .mv (.tmp 0), none⟩,
   ⟨some 9, .len (.tmp 8), none⟩,
   ⟨some 10, .mv (.con (.int .i64 0)), none⟩] [])
 (.block 0 (.loop (.seq (.region [⟨some 11, .bin .lss (.tmp 10) (.tmp 9), none⟩] [])
   (.seq (.cond (.tmp 11)
     .skip
     (.exit 0))
   (.seq (.block 1 (.seq (.region [⟨some 12, .isl 1 (.tmp 8) (.tmp 10), none⟩,
       ⟨some 13, .load true 1 (.tmp 12), none⟩,
       ⟨some 4, .mv (.tmp 13), none⟩] [])
     (.seq (.region [⟨some 14, .mv (.tmp 4), none⟩,
       ⟨some 15, .len (.tmp 14), none⟩,
       ⟨some 16, .bin .gtr (.tmp 15) (.con (.int .i64 8)), none⟩] [])
     (.cond (.tmp 16)
      (.seq (.region [⟨some 2, .mv (.con (.bool false)), none⟩] [])
      .ret)
      .skip))))
   (.region [⟨some 17, .bin .add (.tmp 10) (.con (.int .i64 1)), none⟩,
    ⟨some 10, .mv (.tmp 17), none⟩] [])))))))
(.seq (.region [⟨some 2, .mv (.con (.bool true)), none⟩] [])
.ret)))), [.tmp 2], true, none⟩
/-- cotterel/seqc.begin -/
def f18 : AFun := ⟨10, (.seq (.region [⟨some 4, .alloc [(.imm true 0 []), (.int .u32 0), (.int .u32 0), (.int .u32 0), (.int .u32 0), (.int .u32 0), (.int .u32 0), (.int .u32 0), (.int .u32 0), (.int .i64 0), (.int .i64 0), (.int .i64 0), (.imm true 0 []), (.imm true 0 [])], none⟩] [])
(.seq (.region [⟨some 5, .mv (.tmp 0), none⟩,
  ⟨some 6, .mv (.tmp 1), none⟩,
  ⟨some 7, .mx [(.tmp 6), (.con (.int .i64 0))], none⟩,
  ⟨some 8, .mn [(.tmp 7), (.con (.int .i64 8))], none⟩,
  ⟨some 9, .build [(.imm true 0 []), (.int .u32 0), (.int .u32 0), (.int .u32 0), (.int .u32 0), (.int .u32 0), (.int .u32 0), (.int .u32 0), (.int .u32 0), (.int .i64 0), (.int .i64 0), (.int .i64 0), (.imm true 0 []), (.imm true 0 [])] [(0, 1, (.tmp 5)), (9, 1, (.tmp 8))], none⟩,
  ⟨none, .store 14 (.tmp 4) (.tmp 9), none⟩] [])
.ret)), [.cell 4 false 14], true, none⟩
/-- (cotterel/seqc.play).ends -/
def f19 : AFun := ⟨37, (.seq (.region [⟨some 2, .box (.tmp 0), none⟩,
  ⟨some 4, .mv (.con (.imm true 0 [])), none⟩] [])
(.seq (.region [⟨some 5, .mv (.con (.bool true)), none⟩] [])
(.seq (.seq (.region [⟨some 8, .faddr (.tmp 2) 0, none⟩,
   ⟨some 9, .load true 1 (.tmp 8), none⟩,
   ⟨some 10, .len (.tmp 9), none⟩,
   ⟨some 11, .mv (.con (.int .i64 0)), none⟩] [])
 (.block 0 (.loop (.seq (.region [⟨some 12, .bin .lss (.tmp 11) (.tmp 10), none⟩] [])
   (.seq (.cond (.tmp 12)
     .skip
     (.exit 0))
   (.seq (.block 1 (.seq (.region [⟨some 13, .mv (.tmp 11), none⟩,
       ⟨some 6, .mv (.tmp 13), none⟩] [])
     (.seq (.region [⟨some 14, .load false 14 (.tmp 2), none⟩,
       ⟨some 15, .mv (.tmp 6), none⟩,
       ⟨some 16, .call 23 [(.tmp 14), (.tmp 15)], none⟩] [])
     (.cond (.tmp 16)
      (.seq (.region [⟨some 5, .mv (.con (.bool false)), none⟩] [])
      (.region [⟨some 17, .load false 14 (.tmp 2), none⟩,
       ⟨some 18, .mv (.tmp 6), none⟩,
       ⟨some 19, .call 24 [(.tmp 17), (.tmp 18)], none⟩,
       ⟨some 20, .mv (.tmp 1), none⟩,
       ⟨some 21, .call 19 [(.tmp 19), (.tmp 20)], none⟩,
       ⟨some 1, .mv (.tmp 21), none⟩] []))
      .skip))))
   (.region [⟨some 22, .bin .add (.tmp 11) (.con (.int .i64 1)), none⟩,
    ⟨some 11, .mv (.tmp 22), none⟩] [])))))))
(.seq (.seq (.region [⟨some 23, .load false 14 (.tmp 2), none⟩,
   ⟨some 24, .call 25 [(.tmp 23)], none⟩,
   ⟨some 7, .mv (.tmp 24), none⟩] [])
 (.seq (.region [⟨some 25, .mv (.tmp 5), none⟩,
   ⟨some 26, .mv (.tmp 25), none⟩,
   ⟨some 27, .mv (.tmp 1), some (26, true)⟩,
   ⟨some 28, .mv (.tmp 7), some (26, true)⟩,
   ⟨some 29, .call 27 [(.tmp 27), (.tmp 28)], some (26, true)⟩,
   ⟨some 30, .un .not (.tmp 29), some (26, true)⟩,
   ⟨some 31, .pick (.tmp 26) (.tmp 30) (.con (.bool false)), none⟩] [])
 (.cond (.tmp 31)
  (.region [⟨some 32, .mv (.tmp 1), none⟩,
   ⟨some 33, .mv (.tmp 7), none⟩,
   ⟨some 34, .bsl [(.imm true 0 [])] 1 1 [(0, 1, (.tmp 33))], none⟩,
   ⟨some 35, .append 1 24 (.tmp 32) (.tmp 34), none⟩,
   ⟨some 1, .mv (.tmp 35), none⟩] [])
  .skip)))
(.seq (.region [⟨some 36, .mv (.tmp 1), none⟩,
  ⟨some 4, .mv (.tmp 36), none⟩] [])
.ret))))), [.tmp 4], false, none⟩
/-- cotterel/cotterelref55.Right -/
def f20 : AFun := ⟨23, (.seq (.region [⟨some 2, .mv (.con (.bool false)), none⟩] [])
(.seq (.seq (.region [⟨some 3, .mv (.con (.int .i64 0)), none⟩] [])
 (.block 0 (.loop (.seq (.seq (.region [⟨some 4, .mv (.tmp 3), none⟩,
      ⟨some 5, .mv (.tmp 0), none⟩,
      ⟨some 6, .len (.tmp 5), none⟩,
      ⟨some 7, .bin .lss (.tmp 4) (.tmp 6), none⟩,
      ⟨some 8, .mv (.tmp 7), none⟩,
      ⟨some 9, .mv (.tmp 3), some (8, true)⟩,
      ⟨some 10, .bin .lss (.tmp 9) (.con (.int .i64 3)), some (8, true)⟩,
      ⟨some 11, .pick (.tmp 8) (.tmp 10) (.con (.bool false)), none⟩] [])
    (.cond (.tmp 11)
     .skip
     (.exit 0)))
   (.seq (.block 1 (.seq (.region [⟨some 14, .mv (.tmp 0), none⟩,
       ⟨some 15, .mv (.tmp 3), none⟩,
       ⟨some 16, .isl 1 (.tmp 14) (.tmp 15), none⟩,
       ⟨some 17, .load true 1 (.tmp 16), none⟩,
       ⟨some 18, .len (.tmp 17), none⟩,
       ⟨some 19, .bin .gtr (.tmp 18) (.con (.int .i64 8)), none⟩] [])
     (.cond (.tmp 19)
      (.seq (.region [⟨some 2, .mv (.con (.bool false)), none⟩] [])
      .ret)
      .skip)))
   (.region [⟨some 12, .mv (.tmp 3), none⟩,
    ⟨some 13, .bin .add (.tmp 12) (.con (.int .i64 1)), none⟩,
    ⟨some 3, .mv (.tmp 13), none⟩] []))))))
(.seq (.region [⟨some 20, .mv (.tmp 0), none⟩,
  ⟨some 21, .len (.tmp 20), none⟩,
  ⟨some 22, .bin .leq (.tmp 21) (.con (.int .i64 2)), none⟩,
  ⟨some 2, .mv (.tmp 22), none⟩] [])
.ret))), [.tmp 2], true, none⟩
/-- cotterel/cotterelref55.ends -/
def f21 : AFun := ⟨43, (.seq (.region [⟨some 4, .box (.tmp 1), none⟩,
  ⟨some 6, .mv (.con (.imm true 0 [])), none⟩] [])
(.seq (.region [⟨some 7, .mv (.con (.bool true)), none⟩] [])
(.seq (.seq (.region [⟨some 8, .mv (.con (.int .i64 0)), none⟩] [])
 (.block 0 (.loop (.seq (.seq (.region [⟨some 11, .mv (.tmp 8), none⟩,
      ⟨some 12, .mv (.tmp 0), none⟩,
      ⟨some 13, .len (.tmp 12), none⟩,
      ⟨some 14, .bin .lss (.tmp 11) (.tmp 13), none⟩] [])
    (.cond (.tmp 14)
     .skip
     (.exit 0)))
   (.seq (.block 1 (.seq (.region [⟨some 18, .mv (.tmp 0), none⟩,
       ⟨some 19, .load false 3 (.tmp 4), none⟩,
       ⟨some 20, .mv (.tmp 8), none⟩,
       ⟨some 21, .call 26 [(.tmp 18), (.tmp 19), (.tmp 20)], none⟩,
       ⟨some 17, .mv (.tmp 21), none⟩,
       ⟨some 22, .extract (.tmp 17) 0, none⟩,
       ⟨some 23, .extract (.tmp 17) 1, none⟩,
       ⟨some 9, .alloc [(.imm true 0 []), (.imm true 0 []), (.imm true 0 [])], none⟩,
       ⟨none, .store 3 (.tmp 9) (.tmp 22), none⟩,
       ⟨some 10, .mv (.tmp 23), none⟩] [])
     (.seq (.region [⟨some 24, .mv (.tmp 10), none⟩] [])
     (.cond (.tmp 24)
      (.seq (.region [⟨some 7, .mv (.con (.bool false)), none⟩] [])
      (.region [⟨some 25, .mv (.tmp 0), none⟩,
       ⟨some 26, .load false 3 (.tmp 9), none⟩,
       ⟨some 27, .mv (.tmp 2), none⟩,
       ⟨some 28, .call 21 [(.tmp 25), (.tmp 26), (.tmp 27)], none⟩,
       ⟨some 2, .mv (.tmp 28), none⟩] []))
      .skip))))
   (.region [⟨some 15, .mv (.tmp 8), none⟩,
    ⟨some 16, .bin .add (.tmp 15) (.con (.int .i64 1)), none⟩,
    ⟨some 8, .mv (.tmp 16), none⟩] []))))))
(.seq (.seq (.region [⟨some 29, .mv (.tmp 7), none⟩,
   ⟨some 30, .mv (.tmp 29), none⟩,
   ⟨some 31, .mv (.tmp 2), some (30, true)⟩,
   ⟨some 32, .faddr (.tmp 4) 2, some (30, true)⟩,
   ⟨some 33, .load true 1 (.tmp 32), some (30, true)⟩,
   ⟨some 34, .call 28 [(.tmp 31), (.tmp 33)], some (30, true)⟩,
   ⟨some 35, .un .not (.tmp 34), some (30, true)⟩,
   ⟨some 36, .pick (.tmp 30) (.tmp 35) (.con (.bool false)), none⟩] [])
 (.cond (.tmp 36)
  (.region [⟨some 37, .mv (.tmp 2), none⟩,
   ⟨some 38, .faddr (.tmp 4) 2, none⟩,
   ⟨some 39, .load true 1 (.tmp 38), none⟩,
   ⟨some 40, .bsl [(.imm true 0 [])] 1 1 [(0, 1, (.tmp 39))], none⟩,
   ⟨some 41, .append 1 24 (.tmp 37) (.tmp 40), none⟩,
   ⟨some 2, .mv (.tmp 41), none⟩] [])
  .skip))
(.seq (.region [⟨some 42, .mv (.tmp 2), none⟩,
  ⟨some 6, .mv (.tmp 42), none⟩] [])
.ret))))), [.tmp 6], false, none⟩
/-- cotterel/cotterelref55.begin -/
def f22 : AFun := ⟨39, (.seq (.region [⟨some 4, .alloc [(.imm true 0 []), (.imm true 0 []), (.imm true 0 [])], none⟩] [])
(.seq (.region [⟨some 5, .alloc [(.imm true 0 []), (.imm true 0 []), (.imm true 0 [])], none⟩] [])
(.seq (.seq (.region [⟨some 6, .mv (.con (.int .i64 0)), none⟩] [])
 (.block 0 (.loop (.seq (.seq (.region [⟨some 8, .mv (.tmp 6), none⟩,
      ⟨some 9, .mv (.tmp 1), none⟩,
      ⟨some 10, .bin .lss (.tmp 8) (.tmp 9), none⟩,
      ⟨some 11, .mv (.tmp 10), none⟩,
      ⟨some 12, .mv (.tmp 6), some (11, true)⟩,
      ⟨some 13, .bin .lss (.tmp 12) (.con (.int .i64 8)), some (11, true)⟩,
      ⟨some 14, .pick (.tmp 11) (.tmp 13) (.con (.bool false)), none⟩] [])
    (.cond (.tmp 14)
     .skip
     (.exit 0)))
   (.seq (.block 1 (.region [⟨some 17, .faddr (.tmp 5) 0, none⟩,
      ⟨some 18, .load true 1 (.tmp 17), none⟩,
      ⟨some 19, .bsl [(.int .u32 0)] 1 1 [(0, 1, (.con (.int .u32 0)))], none⟩,
      ⟨some 20, .append 1 4 (.tmp 18) (.tmp 19), none⟩,
      ⟨some 21, .faddr (.tmp 5) 0, none⟩,
      ⟨none, .store 1 (.tmp 21) (.tmp 20), none⟩] []))
   (.region [⟨some 15, .mv (.tmp 6), none⟩,
    ⟨some 16, .bin .add (.tmp 15) (.con (.int .i64 1)), none⟩,
    ⟨some 6, .mv (.tmp 16), none⟩] []))))))
(.seq (.seq (.region [⟨some 7, .mv (.con (.int .i64 0)), none⟩] [])
 (.block 2 (.loop (.seq (.seq (.region [⟨some 22, .mv (.tmp 7), none⟩,
      ⟨some 23, .mv (.tmp 0), none⟩,
      ⟨some 24, .len (.tmp 23), none⟩,
      ⟨some 25, .bin .lss (.tmp 22) (.tmp 24), none⟩] [])
    (.cond (.tmp 25)
     .skip
     (.exit 2)))
   (.seq (.block 3 (.seq (.region [⟨some 28, .faddr (.tmp 5) 1, none⟩,
       ⟨some 29, .load true 1 (.tmp 28), none⟩,
       ⟨some 30, .bsl [(.int .i64 0)] 1 1 [(0, 1, (.con (.int .i64 0)))], none⟩,
       ⟨some 31, .append 1 8 (.tmp 29) (.tmp 30), none⟩,
       ⟨some 32, .faddr (.tmp 5) 1, none⟩,
       ⟨none, .store 1 (.tmp 32) (.tmp 31), none⟩] [])
     (.region [⟨some 33, .faddr (.tmp 5) 2, none⟩,
      ⟨some 34, .load true 1 (.tmp 33), none⟩,
      ⟨some 35, .bsl [(.imm true 0 [])] 1 1 [(0, 1, (.con (.imm true 0 [])))], none⟩,
      ⟨some 36, .append 1 24 (.tmp 34) (.tmp 35), none⟩,
      ⟨some 37, .faddr (.tmp 5) 2, none⟩,
      ⟨none, .store 1 (.tmp 37) (.tmp 36), none⟩] [])))
   (.region [⟨some 26, .mv (.tmp 7), none⟩,
    ⟨some 27, .bin .add (.tmp 26) (.con (.int .i64 1)), none⟩,
    ⟨some 7, .mv (.tmp 27), none⟩] []))))))
(.seq (.region [⟨some 38, .load false 3 (.tmp 5), none⟩,
  ⟨none, .store 3 (.tmp 4) (.tmp 38), none⟩] [])
.ret))))), [.cell 4 false 3], true, none⟩
/-- (cotterel/seqc.play).left -/
def f23 : AFun := ⟨27, (.seq (.region [⟨some 2, .box (.tmp 0), none⟩,
  ⟨some 4, .mv (.con (.bool false)), none⟩] [])
(.seq (.region [⟨some 5, .mv (.tmp 1), none⟩,
  ⟨some 6, .bin .geq (.tmp 5) (.con (.int .i64 0)), none⟩,
  ⟨some 7, .mv (.tmp 6), none⟩,
  ⟨some 8, .mv (.tmp 1), some (7, true)⟩,
  ⟨some 9, .faddr (.tmp 2) 0, some (7, true)⟩,
  ⟨some 10, .load true 1 (.tmp 9), some (7, true)⟩,
  ⟨some 11, .len (.tmp 10), some (7, true)⟩,
  ⟨some 12, .bin .lss (.tmp 8) (.tmp 11), some (7, true)⟩,
  ⟨some 13, .pick (.tmp 7) (.tmp 12) (.con (.bool false)), none⟩,
  ⟨some 14, .mv (.tmp 13), none⟩,
  ⟨some 15, .mv (.tmp 1), some (14, true)⟩,
  ⟨some 16, .faddr (.tmp 2) 10, some (14, true)⟩,
  ⟨some 17, .iarr 2 1 (.tmp 16) (.tmp 15), some (14, true)⟩,
  ⟨some 18, .load true 1 (.tmp 17), some (14, true)⟩,
  ⟨some 19, .faddr (.tmp 2) 0, some (14, true)⟩,
  ⟨some 20, .load true 1 (.tmp 19), some (14, true)⟩,
  ⟨some 21, .mv (.tmp 1), some (14, true)⟩,
  ⟨some 22, .isl 1 (.tmp 20) (.tmp 21), some (14, true)⟩,
  ⟨some 23, .load true 1 (.tmp 22), some (14, true)⟩,
  ⟨some 24, .len (.tmp 23), some (14, true)⟩,
  ⟨some 25, .bin .lss (.tmp 18) (.tmp 24), some (14, true)⟩,
  ⟨some 26, .pick (.tmp 14) (.tmp 25) (.con (.bool false)), none⟩,
  ⟨some 4, .mv (.tmp 26), none⟩] [])
.ret)), [.tmp 4], true, none⟩
/-- (cotterel/seqc.play).after -/
def f24 : AFun := ⟨85, (.seq (.region [⟨some 2, .box (.tmp 0), none⟩,
  ⟨some 4, .alloc [(.imm true 0 []), (.int .u32 0), (.int .u32 0), (.int .u32 0), (.int .u32 0), (.int .u32 0), (.int .u32 0), (.int .u32 0), (.int .u32 0), (.int .i64 0), (.int .i64 0), (.int .i64 0), (.imm true 0 []), (.imm true 0 [])], none⟩] [])
(.seq (.region [⟨some 9, .faddr (.tmp 2) 0, none⟩,
  ⟨some 10, .load true 1 (.tmp 9), none⟩,
  ⟨some 11, .mv (.tmp 1), none⟩,
  ⟨some 12, .isl 1 (.tmp 10) (.tmp 11), none⟩,
  ⟨some 13, .load true 1 (.tmp 12), none⟩,
  ⟨some 14, .mv (.tmp 1), none⟩,
  ⟨some 15, .faddr (.tmp 2) 10, none⟩,
  ⟨some 16, .iarr 2 1 (.tmp 15) (.tmp 14), none⟩,
  ⟨some 17, .load true 1 (.tmp 16), none⟩,
  ⟨some 18, .isl 3 (.tmp 13) (.tmp 17), none⟩,
  ⟨some 19, .load false 3 (.tmp 18), none⟩,
  ⟨some 5, .alloc [(.int .i64 0), (.int .i64 0), (.int .u32 0)], none⟩,
  ⟨none, .store 3 (.tmp 5) (.tmp 19), none⟩] [(1, 11), (4, 11), (8, 11), (10, 11)])
(.seq (.region [⟨some 20, .mv (.tmp 1), none⟩,
  ⟨some 21, .faddr (.tmp 2) 10, none⟩,
  ⟨some 22, .iarr 2 1 (.tmp 21) (.tmp 20), none⟩,
  ⟨some 23, .load true 1 (.tmp 22), none⟩,
  ⟨some 24, .bin .add (.tmp 23) (.con (.int .i64 1)), none⟩,
  ⟨some 25, .faddr (.tmp 2) 10, none⟩,
  ⟨some 26, .iarr 2 1 (.tmp 25) (.tmp 20), none⟩,
  ⟨none, .store 1 (.tmp 26) (.tmp 24), none⟩] [])
(.seq (.region [⟨some 27, .faddr (.tmp 5) 1, none⟩,
  ⟨some 28, .load true 1 (.tmp 27), none⟩,
  ⟨some 29, .bin .geq (.tmp 28) (.con (.int .i64 0)), none⟩,
  ⟨some 30, .mv (.tmp 29), none⟩,
  ⟨some 31, .faddr (.tmp 5) 1, some (30, true)⟩,
  ⟨some 32, .load true 1 (.tmp 31), some (30, true)⟩,
  ⟨some 33, .faddr (.tmp 2) 9, some (30, true)⟩,
  ⟨some 34, .load true 1 (.tmp 33), some (30, true)⟩,
  ⟨some 35, .bin .lss (.tmp 32) (.tmp 34), some (30, true)⟩,
  ⟨some 36, .pick (.tmp 30) (.tmp 35) (.con (.bool false)), none⟩,
  ⟨some 6, .mv (.tmp 36), none⟩] [])
(.seq (.seq (.region [⟨some 37, .faddr (.tmp 5) 0, none⟩,
   ⟨some 38, .load true 1 (.tmp 37), none⟩,
   ⟨some 39, .bin .eql (.tmp 38) (.con (.int .i64 1)), none⟩,
   ⟨some 40, .mv (.tmp 39), none⟩,
   ⟨some 41, .faddr (.tmp 5) 0, some (40, false)⟩,
   ⟨some 42, .load true 1 (.tmp 41), some (40, false)⟩,
   ⟨some 43, .bin .eql (.tmp 42) (.con (.int .i64 4)), some (40, false)⟩,
   ⟨some 44, .pick (.tmp 40) (.con (.bool true)) (.tmp 43), none⟩] [])
 (.cond (.tmp 44)
  (.seq (.region [⟨some 7, .mv (.con (.int .u32 0)), none⟩] [])
  (.seq (.seq (.region [⟨some 45, .mv (.tmp 6), none⟩] [])
   (.cond (.tmp 45)
    (.region [⟨some 46, .faddr (.tmp 5) 1, none⟩,
     ⟨some 47, .load true 1 (.tmp 46), none⟩,
     ⟨some 48, .faddr (.tmp 2) 1, none⟩,
     ⟨some 49, .iarr 8 1 (.tmp 48) (.tmp 47), none⟩,
     ⟨some 50, .load true 1 (.tmp 49), none⟩,
     ⟨some 7, .mv (.tmp 50), none⟩] [])
    .skip))
  (.seq (.region [⟨some 51, .mv (.tmp 1), none⟩,
    ⟨some 52, .faddr (.tmp 2) 12, none⟩,
    ⟨some 53, .iarr 2 1 (.tmp 52) (.tmp 51), none⟩,
    ⟨some 54, .load true 1 (.tmp 53), none⟩,
    ⟨some 8, .mv (.tmp 54), none⟩] [])
  (.region [⟨some 55, .mv (.tmp 1), none⟩,
   ⟨some 56, .mv (.tmp 8), none⟩,
   ⟨some 57, .mv (.tmp 8), none⟩,
   ⟨some 58, .len (.tmp 57), none⟩,
   ⟨some 59, .mv (.tmp 8), none⟩,
   ⟨some 60, .len (.tmp 59), none⟩,
   ⟨some 61, .slSl 1 (.tmp 56) none (some (.tmp 58)) (some (.tmp 60)), none⟩,
   ⟨some 62, .mv (.tmp 7), none⟩,
   ⟨some 63, .bsl [(.int .u32 0)] 1 1 [(0, 1, (.tmp 62))], none⟩,
   ⟨some 64, .append 1 4 (.tmp 61) (.tmp 63), none⟩,
   ⟨some 65, .faddr (.tmp 2) 12, none⟩,
   ⟨some 66, .iarr 2 1 (.tmp 65) (.tmp 55), none⟩,
   ⟨none, .store 1 (.tmp 66) (.tmp 64), none⟩] []))))
  .skip))
(.seq (.seq (.region [⟨some 67, .mv (.tmp 6), none⟩,
   ⟨some 68, .mv (.tmp 67), none⟩,
   ⟨some 69, .faddr (.tmp 5) 0, some (68, true)⟩,
   ⟨some 70, .load true 1 (.tmp 69), some (68, true)⟩,
   ⟨some 71, .bin .eql (.tmp 70) (.con (.int .i64 2)), some (68, true)⟩,
   ⟨some 72, .mv (.tmp 71), some (68, true)⟩,
   ⟨some 73, .faddr (.tmp 5) 0, some (72, false)⟩,
   ⟨some 74, .load true 1 (.tmp 73), some (72, false)⟩,
   ⟨some 75, .bin .eql (.tmp 74) (.con (.int .i64 4)), some (72, false)⟩,
   ⟨some 76, .pick (.tmp 72) (.con (.bool true)) (.tmp 75), some (68, true)⟩,
   ⟨some 77, .pick (.tmp 68) (.tmp 76) (.con (.bool false)), none⟩] [])
 (.cond (.tmp 77)
  (.region [⟨some 78, .faddr (.tmp 5) 1, none⟩,
   ⟨some 79, .load true 1 (.tmp 78), none⟩,
   ⟨some 80, .faddr (.tmp 5) 2, none⟩,
   ⟨some 81, .load true 1 (.tmp 80), none⟩,
   ⟨some 82, .faddr (.tmp 2) 1, none⟩,
   ⟨some 83, .iarr 8 1 (.tmp 82) (.tmp 79), none⟩,
   ⟨none, .store 1 (.tmp 83) (.tmp 81), none⟩] [])
  .skip))
(.seq (.region [⟨some 84, .load false 14 (.tmp 2), none⟩,
  ⟨none, .store 14 (.tmp 4) (.tmp 84), none⟩] [])
.ret))))))), [.cell 4 false 14], true, none⟩
/-- (cotterel/seqc.play).told -/
def f25 : AFun := ⟨21, (.seq (.region [⟨some 1, .box (.tmp 0), none⟩,
  ⟨some 2, .mv (.con (.imm true 0 [])), none⟩] [])
(.seq (.region [⟨some 5, .bsl [] 0 1 [], none⟩,
  ⟨some 3, .mv (.tmp 5), none⟩] [])
(.seq (.seq (.region [⟨some 6, .faddr (.tmp 1) 0, none⟩,
   ⟨some 7, .load true 1 (.tmp 6), none⟩,
   ⟨some 8, .len (.tmp 7), none⟩,
   ⟨some 9, .mv (.con (.int .i64 0)), none⟩] [])
 (.block 0 (.loop (.seq (.region [⟨some 10, .bin .lss (.tmp 9) (.tmp 8), none⟩] [])
   (.seq (.cond (.tmp 10)
     .skip
     (.exit 0))
   (.seq (.block 1 (.seq (.region [⟨some 11, .mv (.tmp 9), none⟩,
       ⟨some 4, .mv (.tmp 11), none⟩] [])
     (.region [⟨some 12, .mv (.tmp 3), none⟩,
      ⟨some 13, .mv (.tmp 4), none⟩,
      ⟨some 14, .faddr (.tmp 1) 12, none⟩,
      ⟨some 15, .iarr 2 1 (.tmp 14) (.tmp 13), none⟩,
      ⟨some 16, .load true 1 (.tmp 15), none⟩,
      ⟨some 17, .bsl [(.imm true 0 [])] 1 1 [(0, 1, (.tmp 16))], none⟩,
      ⟨some 18, .append 1 24 (.tmp 12) (.tmp 17), none⟩,
      ⟨some 3, .mv (.tmp 18), none⟩] [])))
   (.region [⟨some 19, .bin .add (.tmp 9) (.con (.int .i64 1)), none⟩,
    ⟨some 9, .mv (.tmp 19), none⟩] [])))))))
(.seq (.region [⟨some 20, .mv (.tmp 3), none⟩,
  ⟨some 2, .mv (.tmp 20), none⟩] [])
.ret)))), [.tmp 2], true, none⟩
/-- cotterel/cotterelref55.step -/
def f26 : AFun := ⟨141, (.seq (.region [⟨some 4, .box (.tmp 1), none⟩,
  ⟨some 6, .alloc [(.imm true 0 []), (.imm true 0 []), (.imm true 0 [])], none⟩,
  ⟨some 7, .mv (.con (.bool false)), none⟩] [])
(.seq (.seq (.region [⟨some 13, .mv (.tmp 2), none⟩,
   ⟨some 14, .bin .lss (.tmp 13) (.con (.int .i64 0)), none⟩,
   ⟨some 15, .mv (.tmp 14), none⟩,
   ⟨some 16, .mv (.tmp 2), some (15, false)⟩,
   ⟨some 17, .mv (.tmp 0), some (15, false)⟩,
   ⟨some 18, .len (.tmp 17), some (15, false)⟩,
   ⟨some 19, .bin .geq (.tmp 16) (.tmp 18), some (15, false)⟩,
   ⟨some 20, .pick (.tmp 15) (.con (.bool true)) (.tmp 19), none⟩,
   ⟨some 21, .mv (.tmp 20), none⟩,
   ⟨some 22, .faddr (.tmp 4) 1, some (21, false)⟩,
   ⟨some 23, .load true 1 (.tmp 22), some (21, false)⟩,
   ⟨some 24, .mv (.tmp 2), some (21, false)⟩,
   ⟨some 25, .isl 1 (.tmp 23) (.tmp 24), some (21, false)⟩,
   ⟨some 26, .load true 1 (.tmp 25), some (21, false)⟩,
   ⟨some 27, .mv (.tmp 0), some (21, false)⟩,
   ⟨some 28, .mv (.tmp 2), some (21, false)⟩,
   ⟨some 29, .isl 1 (.tmp 27) (.tmp 28), some (21, false)⟩,
   ⟨some 30, .load true 1 (.tmp 29), some (21, false)⟩,
   ⟨some 31, .len (.tmp 30), some (21, false)⟩,
   ⟨some 32, .bin .geq (.tmp 26) (.tmp 31), some (21, false)⟩,
   ⟨some 33, .pick (.tmp 21) (.con (.bool true)) (.tmp 32), none⟩] [])
 (.cond (.tmp 33)
  (.seq (.region [⟨some 34, .load false 3 (.tmp 4), none⟩,
    ⟨none, .store 3 (.tmp 6) (.tmp 34), none⟩,
    ⟨some 7, .mv (.con (.bool false)), none⟩] [])
  .ret)
  .skip))
(.seq (.region [⟨some 35, .mv (.tmp 0), none⟩,
  ⟨some 36, .mv (.tmp 2), none⟩,
  ⟨some 37, .isl 1 (.tmp 35) (.tmp 36), none⟩,
  ⟨some 38, .load true 1 (.tmp 37), none⟩,
  ⟨some 39, .faddr (.tmp 4) 1, none⟩,
  ⟨some 40, .load true 1 (.tmp 39), none⟩,
  ⟨some 41, .mv (.tmp 2), none⟩,
  ⟨some 42, .isl 1 (.tmp 40) (.tmp 41), none⟩,
  ⟨some 43, .load true 1 (.tmp 42), none⟩,
  ⟨some 44, .isl 3 (.tmp 38) (.tmp 43), none⟩,
  ⟨some 45, .load false 3 (.tmp 44), none⟩,
  ⟨some 8, .alloc [(.int .i64 0), (.int .i64 0), (.int .u32 0)], none⟩,
  ⟨none, .store 3 (.tmp 8) (.tmp 45), none⟩] [(3, 11), (5, 11), (8, 11), (10, 11)])
(.seq (.region [⟨some 46, .bsl [] 0 1 [], none⟩,
  ⟨some 47, .faddr (.tmp 4) 0, none⟩,
  ⟨some 48, .load true 1 (.tmp 47), none⟩,
  ⟨some 49, .append 1 4 (.tmp 46) (.tmp 48), none⟩,
  ⟨some 50, .bsl [] 0 1 [], none⟩,
  ⟨some 51, .faddr (.tmp 4) 1, none⟩,
  ⟨some 52, .load true 1 (.tmp 51), none⟩,
  ⟨some 53, .append 1 8 (.tmp 50) (.tmp 52), none⟩,
  ⟨some 54, .build [(.imm true 0 []), (.imm true 0 []), (.imm true 0 [])] [(0, 1, (.tmp 49)), (1, 1, (.tmp 53))], none⟩,
  ⟨some 9, .alloc [(.imm true 0 []), (.imm true 0 []), (.imm true 0 [])], none⟩,
  ⟨none, .store 3 (.tmp 9) (.tmp 54), none⟩] [(0, 2), (0, 4), (2, 4), (3, 4), (0, 6), (3, 6), (4, 6), (0, 9), (2, 9), (3, 9), (4, 9), (6, 9), (7, 9)])
(.seq (.seq (.region [⟨some 10, .mv (.con (.int .i64 0)), none⟩] [])
 (.block 0 (.loop (.seq (.seq (.region [⟨some 55, .mv (.tmp 10), none⟩,
      ⟨some 56, .faddr (.tmp 4) 2, none⟩,
      ⟨some 57, .load true 1 (.tmp 56), none⟩,
      ⟨some 58, .len (.tmp 57), none⟩,
      ⟨some 59, .bin .lss (.tmp 55) (.tmp 58), none⟩] [])
    (.cond (.tmp 59)
     .skip
     (.exit 0)))
   (.seq (.block 1 (.region [⟨some 62, .faddr (.tmp 9) 2, none⟩,
      ⟨some 63, .load true 1 (.tmp 62), none⟩,
      ⟨some 64, .bsl [] 0 1 [], none⟩,
      ⟨some 65, .faddr (.tmp 4) 2, none⟩,
      ⟨some 66, .load true 1 (.tmp 65), none⟩,
      ⟨some 67, .mv (.tmp 10), none⟩,
      ⟨some 68, .isl 1 (.tmp 66) (.tmp 67), none⟩,
      ⟨some 69, .load true 1 (.tmp 68), none⟩,
      ⟨some 70, .append 1 4 (.tmp 64) (.tmp 69), none⟩,
      ⟨some 71, .bsl [(.imm true 0 [])] 1 1 [(0, 1, (.tmp 70))], none⟩,
      ⟨some 72, .append 1 24 (.tmp 63) (.tmp 71), none⟩,
      ⟨some 73, .faddr (.tmp 9) 2, none⟩,
      ⟨none, .store 1 (.tmp 73) (.tmp 72), none⟩] [(1, 2), (2, 4), (2, 7), (1, 8), (1, 9)]))
   (.region [⟨some 60, .mv (.tmp 10), none⟩,
    ⟨some 61, .bin .add (.tmp 60) (.con (.int .i64 1)), none⟩,
    ⟨some 10, .mv (.tmp 61), none⟩] []))))))
(.seq (.region [⟨some 74, .faddr (.tmp 9) 1, none⟩,
  ⟨some 75, .load true 1 (.tmp 74), none⟩,
  ⟨some 76, .mv (.tmp 2), none⟩,
  ⟨some 77, .faddr (.tmp 9) 1, none⟩,
  ⟨some 78, .load true 1 (.tmp 77), none⟩,
  ⟨some 79, .mv (.tmp 2), none⟩,
  ⟨some 80, .isl 1 (.tmp 78) (.tmp 79), none⟩,
  ⟨some 81, .load true 1 (.tmp 80), none⟩,
  ⟨some 82, .bin .add (.tmp 81) (.con (.int .i64 1)), none⟩,
  ⟨some 83, .isl 1 (.tmp 75) (.tmp 76), none⟩,
  ⟨none, .store 1 (.tmp 83) (.tmp 82), none⟩] [])
(.seq (.region [⟨some 84, .faddr (.tmp 8) 1, none⟩,
  ⟨some 85, .load true 1 (.tmp 84), none⟩,
  ⟨some 86, .bin .geq (.tmp 85) (.con (.int .i64 0)), none⟩,
  ⟨some 87, .mv (.tmp 86), none⟩,
  ⟨some 88, .faddr (.tmp 8) 1, some (87, true)⟩,
  ⟨some 89, .load true 1 (.tmp 88), some (87, true)⟩,
  ⟨some 90, .faddr (.tmp 4) 0, some (87, true)⟩,
  ⟨some 91, .load true 1 (.tmp 90), some (87, true)⟩,
  ⟨some 92, .len (.tmp 91), some (87, true)⟩,
  ⟨some 93, .bin .lss (.tmp 89) (.tmp 92), some (87, true)⟩,
  ⟨some 94, .pick (.tmp 87) (.tmp 93) (.con (.bool false)), none⟩,
  ⟨some 11, .mv (.tmp 94), none⟩] [])
(.seq (.seq (.region [⟨some 95, .faddr (.tmp 8) 0, none⟩,
   ⟨some 96, .load true 1 (.tmp 95), none⟩,
   ⟨some 97, .bin .eql (.tmp 96) (.con (.int .i64 1)), none⟩,
   ⟨some 98, .mv (.tmp 97), none⟩,
   ⟨some 99, .faddr (.tmp 8) 0, some (98, false)⟩,
   ⟨some 100, .load true 1 (.tmp 99), some (98, false)⟩,
   ⟨some 101, .bin .eql (.tmp 100) (.con (.int .i64 4)), some (98, false)⟩,
   ⟨some 102, .pick (.tmp 98) (.con (.bool true)) (.tmp 101), none⟩] [])
 (.cond (.tmp 102)
  (.seq (.region [⟨some 12, .mv (.con (.int .u32 0)), none⟩] [])
  (.seq (.seq (.region [⟨some 103, .mv (.tmp 11), none⟩] [])
   (.cond (.tmp 103)
    (.region [⟨some 104, .faddr (.tmp 4) 0, none⟩,
     ⟨some 105, .load true 1 (.tmp 104), none⟩,
     ⟨some 106, .faddr (.tmp 8) 1, none⟩,
     ⟨some 107, .load true 1 (.tmp 106), none⟩,
     ⟨some 108, .isl 1 (.tmp 105) (.tmp 107), none⟩,
     ⟨some 109, .load true 1 (.tmp 108), none⟩,
     ⟨some 12, .mv (.tmp 109), none⟩] [])
    .skip))
  (.region [⟨some 110, .faddr (.tmp 9) 2, none⟩,
   ⟨some 111, .load true 1 (.tmp 110), none⟩,
   ⟨some 112, .mv (.tmp 2), none⟩,
   ⟨some 113, .faddr (.tmp 9) 2, none⟩,
   ⟨some 114, .load true 1 (.tmp 113), none⟩,
   ⟨some 115, .mv (.tmp 2), none⟩,
   ⟨some 116, .isl 1 (.tmp 114) (.tmp 115), none⟩,
   ⟨some 117, .load true 1 (.tmp 116), none⟩,
   ⟨some 118, .mv (.tmp 12), none⟩,
   ⟨some 119, .bsl [(.int .u32 0)] 1 1 [(0, 1, (.tmp 118))], none⟩,
   ⟨some 120, .append 1 4 (.tmp 117) (.tmp 119), none⟩,
   ⟨some 121, .isl 1 (.tmp 111) (.tmp 112), none⟩,
   ⟨none, .store 1 (.tmp 121) (.tmp 120), none⟩] [(1, 9), (4, 9), (7, 9), (1, 10)])))
  .skip))
(.seq (.seq (.region [⟨some 122, .mv (.tmp 11), none⟩,
   ⟨some 123, .mv (.tmp 122), none⟩,
   ⟨some 124, .faddr (.tmp 8) 0, some (123, true)⟩,
   ⟨some 125, .load true 1 (.tmp 124), some (123, true)⟩,
   ⟨some 126, .bin .eql (.tmp 125) (.con (.int .i64 2)), some (123, true)⟩,
   ⟨some 127, .mv (.tmp 126), some (123, true)⟩,
   ⟨some 128, .faddr (.tmp 8) 0, some (127, false)⟩,
   ⟨some 129, .load true 1 (.tmp 128), some (127, false)⟩,
   ⟨some 130, .bin .eql (.tmp 129) (.con (.int .i64 4)), some (127, false)⟩,
   ⟨some 131, .pick (.tmp 127) (.con (.bool true)) (.tmp 130), some (123, true)⟩,
   ⟨some 132, .pick (.tmp 123) (.tmp 131) (.con (.bool false)), none⟩] [])
 (.cond (.tmp 132)
  (.region [⟨some 133, .faddr (.tmp 9) 0, none⟩,
   ⟨some 134, .load true 1 (.tmp 133), none⟩,
   ⟨some 135, .faddr (.tmp 8) 1, none⟩,
   ⟨some 136, .load true 1 (.tmp 135), none⟩,
   ⟨some 137, .faddr (.tmp 8) 2, none⟩,
   ⟨some 138, .load true 1 (.tmp 137), none⟩,
   ⟨some 139, .isl 1 (.tmp 134) (.tmp 136), none⟩,
   ⟨none, .store 1 (.tmp 139) (.tmp 138), none⟩] [])
  .skip))
(.seq (.region [⟨some 140, .load false 3 (.tmp 9), none⟩,
  ⟨none, .store 3 (.tmp 6) (.tmp 140), none⟩,
  ⟨some 7, .mv (.con (.bool true)), none⟩] [])
.ret)))))))))), [.cell 6 false 3, .tmp 7], true, none⟩
/-- cotterel/seqc.known -/
def f27 : AFun := ⟨17, (.seq (.region [⟨some 4, .mv (.con (.bool false)), none⟩] [])
(.seq (.seq (.region [⟨some 7, .mv (.tmp 0), none⟩,
   ⟨some 8, .len (.tmp 7), none⟩,
   ⟨some 9, .mv (.con (.int .i64 0)), none⟩] [])
 (.block 0 (.loop (.seq (.region [⟨some 10, .bin .lss (.tmp 9) (.tmp 8), none⟩] [])
   (.seq (.cond (.tmp 10)
     .skip
     (.exit 0))
   (.seq (.block 1 (.seq (.region [⟨some 11, .isl 1 (.tmp 7) (.tmp 9), none⟩,
       ⟨some 12, .load true 1 (.tmp 11), none⟩,
       ⟨some 6, .mv (.tmp 12), none⟩] [])
     (.seq (.region [⟨some 13, .mv (.tmp 6), none⟩,
       ⟨some 14, .mv (.tmp 1), none⟩,
       ⟨some 15, .call 29 [(.tmp 13), (.tmp 14)], none⟩] [])
     (.cond (.tmp 15)
      (.seq (.region [⟨some 4, .mv (.con (.bool true)), none⟩] [])
      .ret)
      .skip))))
   (.region [⟨some 16, .bin .add (.tmp 9) (.con (.int .i64 1)), none⟩,
    ⟨some 9, .mv (.tmp 16), none⟩] [])))))))
(.seq (.region [⟨some 4, .mv (.con (.bool false)), none⟩] [])
.ret))), [.tmp 4], true, none⟩
/-- cotterel/cotterelref55.In -/
def f28 : AFun := ⟨18, (.seq (.region [⟨some 4, .mv (.con (.bool false)), none⟩] [])
(.seq (.seq (.region [⟨some 5, .mv (.con (.int .i64 0)), none⟩] [])
 (.block 0 (.loop (.seq (.seq (.region [⟨some 6, .mv (.tmp 5), none⟩,
      ⟨some 7, .mv (.tmp 0), none⟩,
      ⟨some 8, .len (.tmp 7), none⟩,
      ⟨some 9, .bin .lss (.tmp 6) (.tmp 8), none⟩] [])
    (.cond (.tmp 9)
     .skip
     (.exit 0)))
   (.seq (.block 1 (.seq (.region [⟨some 12, .mv (.tmp 0), none⟩,
       ⟨some 13, .mv (.tmp 5), none⟩,
       ⟨some 14, .isl 1 (.tmp 12) (.tmp 13), none⟩,
       ⟨some 15, .load true 1 (.tmp 14), none⟩,
       ⟨some 16, .mv (.tmp 1), none⟩,
       ⟨some 17, .call 10 [(.tmp 15), (.tmp 16)], none⟩] [])
     (.cond (.tmp 17)
      (.seq (.region [⟨some 4, .mv (.con (.bool true)), none⟩] [])
      .ret)
      .skip)))
   (.region [⟨some 10, .mv (.tmp 5), none⟩,
    ⟨some 11, .bin .add (.tmp 10) (.con (.int .i64 1)), none⟩,
    ⟨some 5, .mv (.tmp 11), none⟩] []))))))
(.seq (.region [⟨some 4, .mv (.con (.bool false)), none⟩] [])
.ret))), [.tmp 4], true, none⟩
/-- cotterel/seqc.alike -/
def f29 : AFun := ⟨53, (.seq (.region [⟨some 4, .mv (.con (.bool false)), none⟩] [])
(.seq (.seq (.region [⟨some 7, .mv (.tmp 0), none⟩,
   ⟨some 8, .len (.tmp 7), none⟩,
   ⟨some 9, .mv (.con (.int .i64 0)), none⟩] [])
 (.block 0 (.loop (.seq (.region [⟨some 10, .bin .lss (.tmp 9) (.tmp 8), none⟩] [])
   (.seq (.cond (.tmp 10)
     .skip
     (.exit 0))
   (.seq (.block 1 (.seq (.region [⟨some 11, .mv (.tmp 9), none⟩,
       ⟨some 5, .mv (.tmp 11), none⟩] [])
     (.seq (.seq (.region [⟨some 12, .mv (.tmp 0), none⟩,
        ⟨some 13, .mv (.tmp 5), none⟩,
        ⟨some 14, .isl 1 (.tmp 12) (.tmp 13), none⟩,
        ⟨some 15, .load true 1 (.tmp 14), none⟩,
        ⟨some 16, .len (.tmp 15), none⟩,
        ⟨some 17, .mv (.tmp 1), none⟩,
        ⟨some 18, .mv (.tmp 5), none⟩,
        ⟨some 19, .isl 1 (.tmp 17) (.tmp 18), none⟩,
        ⟨some 20, .load true 1 (.tmp 19), none⟩,
        ⟨some 21, .len (.tmp 20), none⟩,
        ⟨some 22, .bin .neq (.tmp 16) (.tmp 21), none⟩] [])
      (.cond (.tmp 22)
       (.seq (.region [⟨some 4, .mv (.con (.bool false)), none⟩] [])
       .ret)
       .skip))
     (.seq (.region [⟨some 23, .mv (.tmp 0), none⟩,
       ⟨some 24, .mv (.tmp 5), none⟩,
       ⟨some 25, .isl 1 (.tmp 23) (.tmp 24), none⟩,
       ⟨some 26, .load true 1 (.tmp 25), none⟩,
       ⟨some 27, .len (.tmp 26), none⟩,
       ⟨some 28, .mv (.con (.int .i64 0)), none⟩] [])
     (.block 2 (.loop (.seq (.region [⟨some 29, .bin .lss (.tmp 28) (.tmp 27), none⟩] [])
       (.seq (.cond (.tmp 29)
         .skip
         (.exit 2))
       (.seq (.block 3 (.seq (.region [⟨some 30, .mv (.tmp 28), none⟩,
           ⟨some 6, .mv (.tmp 30), none⟩] [])
         (.seq (.region [⟨some 31, .mv (.tmp 0), none⟩,
           ⟨some 32, .mv (.tmp 5), none⟩,
           ⟨some 33, .isl 1 (.tmp 31) (.tmp 32), none⟩,
           ⟨some 34, .load true 1 (.tmp 33), none⟩,
           ⟨some 35, .mv (.tmp 6), none⟩,
           ⟨some 36, .isl 1 (.tmp 34) (.tmp 35), none⟩,
           ⟨some 37, .load true 1 (.tmp 36), none⟩,
           ⟨some 38, .mv (.tmp 1), none⟩,
           ⟨some 39, .mv (.tmp 5), none⟩,
           ⟨some 40, .isl 1 (.tmp 38) (.tmp 39), none⟩,
           ⟨some 41, .load true 1 (.tmp 40), none⟩,
           ⟨some 42, .mv (.tmp 6), none⟩,
           ⟨some 43, .isl 1 (.tmp 41) (.tmp 42), none⟩,
           ⟨some 44, .load true 1 (.tmp 43), none⟩,
           ⟨some 45, .bin .neq (.tmp 37) (.tmp 44), none⟩] [])
         (.cond (.tmp 45)
          (.seq (.region [⟨some 4, .mv (.con (.bool false)), none⟩] [])
          .ret)
          .skip))))
       (.region [⟨some 46, .bin .add (.tmp 28) (.con (.int .i64 1)), none⟩,
        ⟨some 28, .mv (.tmp 46), none⟩] []))))))))))
   (.region [⟨some 47, .bin .add (.tmp 9) (.con (.int .i64 1)), none⟩,
    ⟨some 9, .mv (.tmp 47), none⟩] [])))))))
(.seq (.region [⟨some 48, .mv (.tmp 0), none⟩,
  ⟨some 49, .len (.tmp 48), none⟩,
  ⟨some 50, .mv (.tmp 1), none⟩,
  ⟨some 51, .len (.tmp 50), none⟩,
  ⟨some 52, .bin .eql (.tmp 49) (.tmp 51), none⟩,
  ⟨some 4, .mv (.tmp 52), none⟩] [])
.ret))), [.tmp 4], true, none⟩
end Fn
open Fn
def ap : AProg
  | 2 => some f2
  | 3 => some f3
  | 4 => some f4
  | 5 => some f5
  | 6 => some f6
  | 7 => some f7
  | 8 => some f8
  | 9 => some f9
  | 10 => some f10
  | 11 => some f11
  | 12 => some f12
  | 13 => some f13
  | 14 => some f14
  | 15 => some f15
  | 16 => some f16
  | 17 => some f17
  | 18 => some f18
  | 19 => some f19
  | 20 => some f20
  | 21 => some f21
  | 22 => some f22
  | 23 => some f23
  | 24 => some f24
  | 25 => some f25
  | 26 => some f26
  | 27 => some f27
  | 28 => some f28
  | 29 => some f29
  | _ => none
theorem ok2 : FnOk Try.prog 2 f2 := fnOk_of (fn := Try.f2) Try.func2 (by kernel_rfl) rfl (by kernel_rfl) rfl (by kernel_rfl) rfl
theorem ok3 : FnOk Try.prog 3 f3 := fnOk_of (fn := Try.f3) Try.func3 (by kernel_rfl) rfl (by kernel_rfl) rfl (by kernel_rfl) rfl
theorem ok4 : FnOk Try.prog 4 f4 := fnOk_of (fn := Try.f4) Try.func4 (by kernel_rfl) rfl (by kernel_rfl) rfl (by kernel_rfl) rfl
theorem ok5 : FnOk Try.prog 5 f5 := fnOk_of (fn := Try.f5) Try.func5 (by kernel_rfl) rfl (by kernel_rfl) rfl (by kernel_rfl) rfl
theorem ok6 : FnOk Try.prog 6 f6 := fnOk_of (fn := Try.f6) Try.func6 (by kernel_rfl) rfl (by kernel_rfl) rfl (by kernel_rfl) rfl
theorem ok7 : FnOk Try.prog 7 f7 := fnOk_of (fn := Try.f7) Try.func7 (by kernel_rfl) rfl (by kernel_rfl) rfl (by kernel_rfl) rfl
theorem ok8 : FnOk Try.prog 8 f8 := fnOk_of (fn := Try.f8) Try.func8 (by kernel_rfl) rfl (by kernel_rfl) rfl (by kernel_rfl) rfl
theorem ok9 : FnOk Try.prog 9 f9 := fnOk_of (fn := Try.f9) Try.func9 (by kernel_rfl) rfl (by kernel_rfl) rfl (by kernel_rfl) rfl
theorem ok10 : FnOk Try.prog 10 f10 := fnOk_of (fn := Try.f10) Try.func10 (by kernel_rfl) rfl (by kernel_rfl) rfl (by kernel_rfl) rfl
theorem ok11 : FnOk Try.prog 11 f11 := fnOk_of (fn := Try.f11) Try.func11 (by kernel_rfl) rfl (by kernel_rfl) rfl (by kernel_rfl) rfl
theorem ok12 : FnOk Try.prog 12 f12 := fnOk_of (fn := Try.f12) Try.func12 (by kernel_rfl) rfl (by kernel_rfl) rfl (by kernel_rfl) rfl
theorem ok13 : FnOk Try.prog 13 f13 := fnOk_of (fn := Try.f13) Try.func13 (by kernel_rfl) rfl (by kernel_rfl) rfl (by kernel_rfl) rfl
theorem ok14 : FnOk Try.prog 14 f14 := fnOk_of (fn := Try.f14) Try.func14 (by kernel_rfl) rfl (by kernel_rfl) rfl (by kernel_rfl) rfl
theorem ok15 : FnOk Try.prog 15 f15 := fnOk_of (fn := Try.f15) Try.func15 (by kernel_rfl) rfl (by kernel_rfl) rfl (by kernel_rfl) rfl
theorem ok16 : FnOk Try.prog 16 f16 := fnOk_of (fn := Try.f16) Try.func16 (by kernel_rfl) rfl (by kernel_rfl) rfl (by kernel_rfl) rfl
theorem ok17 : FnOk Try.prog 17 f17 := fnOk_of (fn := Try.f17) Try.func17 (by kernel_rfl) rfl (by kernel_rfl) rfl (by kernel_rfl) rfl
theorem ok18 : FnOk Try.prog 18 f18 := fnOk_of (fn := Try.f18) Try.func18 (by kernel_rfl) rfl (by kernel_rfl) rfl (by kernel_rfl) rfl
theorem ok19 : FnOk Try.prog 19 f19 := fnOk_of (fn := Try.f19) Try.func19 (by kernel_rfl) rfl (by kernel_rfl) rfl (by kernel_rfl) rfl
theorem ok20 : FnOk Try.prog 20 f20 := fnOk_of (fn := Try.f20) Try.func20 (by kernel_rfl) rfl (by kernel_rfl) rfl (by kernel_rfl) rfl
theorem ok21 : FnOk Try.prog 21 f21 := fnOk_of (fn := Try.f21) Try.func21 (by kernel_rfl) rfl (by kernel_rfl) rfl (by kernel_rfl) rfl
theorem ok22 : FnOk Try.prog 22 f22 := fnOk_of (fn := Try.f22) Try.func22 (by kernel_rfl) rfl (by kernel_rfl) rfl (by kernel_rfl) rfl
theorem ok23 : FnOk Try.prog 23 f23 := fnOk_of (fn := Try.f23) Try.func23 (by kernel_rfl) rfl (by kernel_rfl) rfl (by kernel_rfl) rfl
theorem ok24 : FnOk Try.prog 24 f24 := fnOk_of (fn := Try.f24) Try.func24 (by kernel_rfl) rfl (by kernel_rfl) rfl (by kernel_rfl) rfl
theorem ok25 : FnOk Try.prog 25 f25 := fnOk_of (fn := Try.f25) Try.func25 (by kernel_rfl) rfl (by kernel_rfl) rfl (by kernel_rfl) rfl
theorem ok26 : FnOk Try.prog 26 f26 := fnOk_of (fn := Try.f26) Try.func26 (by kernel_rfl) rfl (by kernel_rfl) rfl (by kernel_rfl) rfl
theorem ok27 : FnOk Try.prog 27 f27 := fnOk_of (fn := Try.f27) Try.func27 (by kernel_rfl) rfl (by kernel_rfl) rfl (by kernel_rfl) rfl
theorem ok28 : FnOk Try.prog 28 f28 := fnOk_of (fn := Try.f28) Try.func28 (by kernel_rfl) rfl (by kernel_rfl) rfl (by kernel_rfl) rfl
theorem ok29 : FnOk Try.prog 29 f29 := fnOk_of (fn := Try.f29) Try.func29 (by kernel_rfl) rfl (by kernel_rfl) rfl (by kernel_rfl) rfl
theorem ap_ok : ∀ f F, ap f = some F → FnOk Try.prog f F := by
  intro f F h
  unfold ap at h
  split at h
  · obtain rfl := Option.some.inj h; exact ok2
  · obtain rfl := Option.some.inj h; exact ok3
  · obtain rfl := Option.some.inj h; exact ok4
  · obtain rfl := Option.some.inj h; exact ok5
  · obtain rfl := Option.some.inj h; exact ok6
  · obtain rfl := Option.some.inj h; exact ok7
  · obtain rfl := Option.some.inj h; exact ok8
  · obtain rfl := Option.some.inj h; exact ok9
  · obtain rfl := Option.some.inj h; exact ok10
  · obtain rfl := Option.some.inj h; exact ok11
  · obtain rfl := Option.some.inj h; exact ok12
  · obtain rfl := Option.some.inj h; exact ok13
  · obtain rfl := Option.some.inj h; exact ok14
  · obtain rfl := Option.some.inj h; exact ok15
  · obtain rfl := Option.some.inj h; exact ok16
  · obtain rfl := Option.some.inj h; exact ok17
  · obtain rfl := Option.some.inj h; exact ok18
  · obtain rfl := Option.some.inj h; exact ok19
  · obtain rfl := Option.some.inj h; exact ok20
  · obtain rfl := Option.some.inj h; exact ok21
  · obtain rfl := Option.some.inj h; exact ok22
  · obtain rfl := Option.some.inj h; exact ok23
  · obtain rfl := Option.some.inj h; exact ok24
  · obtain rfl := Option.some.inj h; exact ok25
  · obtain rfl := Option.some.inj h; exact ok26
  · obtain rfl := Option.some.inj h; exact ok27
  · obtain rfl := Option.some.inj h; exact ok28
  · obtain rfl := Option.some.inj h; exact ok29
  · cases h
end Go.Proofs.Ytmihmodlilebbaa.Abs
