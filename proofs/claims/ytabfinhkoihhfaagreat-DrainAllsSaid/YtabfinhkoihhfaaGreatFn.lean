/- The functions of the program, as the plain machine has them; each stands for the program's own. Written by this session's programs Comp.lean and genfn.py. -/
import Derived.Test.YtabfinhkoihhfaaGreatC3
import Derived.Test.YtabfinhkoihhfaaGreatProg
import Derived.KernelRfl
namespace Go.Proofs.YtabfinhkoihhfaaGreat.Abs
open Go Go.RowKit
set_option linter.unusedVariables false
set_option maxRecDepth 100000
namespace Fn
abbrev t (i : Nat) : Opd := .tmp i
abbrev o (d : Nat) (x : AOp) : AOper := ⟨some d, x, none⟩
abbrev n (x : AOp) : AOper := ⟨none, x, none⟩
abbrev g (d : Nat) (x : AOp) (c : Nat) (b : Bool) : AOper := ⟨some d, x, some (c, b)⟩
def zK0 : List T := [(.int .i64 0), (.int .i64 0), (.int .i64 0), (.int .i64 0), (.int .i64 0), (.int .i64 0), (.int .i64 0), (.int .i64 0), (.int .i64 0), (.int .i64 0), (.int .i64 0), (.int .i64 0), (.int .i64 0), (.int .i64 0), (.int .i64 0), (.int .i64 0), (.int .i64 0), (.int .i64 0), (.int .i64 0), (.int .i64 0), (.int .i64 0), (.bool false), (.int .u32 0), (.int .u32 0), (.int .u32 0), (.int .u32 0), (.int .u32 0), (.int .u32 0), (.int .u32 0), (.int .u32 0), (.int .u32 0), (.int .u32 0), (.int .u32 0), (.int .u32 0), (.int .u32 0), (.int .u32 0), (.int .u32 0), (.int .u32 0), (.int .u32 0), (.int .u32 0), (.int .u32 0), (.int .u32 0), (.int .u32 0), (.int .u32 0), (.int .u32 0), (.int .u32 0), (.int .u32 0), (.int .u32 0), (.int .u32 0), (.int .u32 0), (.int .u32 0), (.bool false), (.imm true 0 []), (.imm true 0 []), (.int .u32 0), (.bool false), (.int .u32 0), (.imm true 0 []), (.imm true 0 []), (.int .i64 0), (.imm true 0 []), (.int .i64 0), (.imm true 0 []), (.int .i64 0), (.imm true 0 []), (.int .i64 0), (.int .i64 0), (.int .i64 0), (.int .i64 0), (.int .i64 0), (.int .i64 0), (.int .i64 0), (.int .i64 0), (.int .i64 0), (.int .i64 0), (.int .i64 0), (.int .i64 0), (.int .i64 0), (.int .i64 0), (.int .i64 0), (.int .i64 0), (.int .i64 0), (.int .i64 0), (.int .i64 0), (.int .i64 0), (.int .i64 0), (.int .i64 0), (.int .i64 0), (.int .i64 0), (.int .i64 0), (.int .i64 0), (.int .i64 0), (.int .i64 0), (.int .i64 0), (.int .i64 0), (.int .i64 0), (.int .i64 0), (.imm true 0 []), (.int .i64 0), (.int .i64 0), (.int .u64 0), (.imm true 0 []), (.imm true 0 []), (.imm true 0 []), (.imm true 0 []), (.imm true 0 []), (.imm true 0 []), (.imm true 0 []), (.imm true 0 []), (.imm true 0 []), (.int .i64 0), (.int .i64 0)]
/-- cotterel/cotterellaw49.DrainStages -/
def f3 : AFun := ⟨59, (.seq (.region [o 3 (.box (t 0)), o 4 (.box (t 1)), o 5 (.box (t 2)), o 6 (.mv (.con (.bool false)))] [])
(.seq (.seq (.region [o 15 (.load false 112 (t 3)), o 16 (.load false 2 (t 4)), o 17 (.call 5 [(t 15), (t 16)]), o 18 (.un .not (t 17))] [])
 (.cond (t 18)
 (.seq (.region [o 19 (.call 6 []), o 6 (.mv (t 19))] [])
 .ret)
 .skip))
(.seq (.region [o 21 (.load false 112 (t 3)), o 22 (.load false 2 (t 4)), o 23 (.load false 5 (t 5)), o 24 (.call 7 [(t 21), (t 22), (.con (.int .i64 0)), (t 23)]), o 20 (.mv (t 24)), o 25 (.extract (t 20) 0), o 26 (.extract (t 20) 1), o 27 (.extract (t 20) 2), o 28 (.extract (t 20) 3), o 7 (.alloc zK0), o 8 (.alloc [(.imm true 0 []), (.imm true 0 [])]), n (.store 112 (t 7) (t 25)), n (.store 2 (t 8) (t 26)), o 9 (.mv (t 27)), o 10 (.mv (t 28))] [])
(.seq (.region [o 30 (.load false 112 (t 3)), o 31 (.load false 2 (t 4)), o 32 (.load false 5 (t 5)), o 33 (.call 8 [(t 30), (t 31), (.con (.int .i64 0)), (t 32)]), o 29 (.mv (t 33)), o 34 (.extract (t 29) 0), o 35 (.extract (t 29) 1), o 36 (.extract (t 29) 2), o 37 (.extract (t 29) 3), o 11 (.alloc zK0), o 12 (.alloc [(.imm true 0 []), (.imm true 0 [])]), n (.store 112 (t 11) (t 34)), n (.store 2 (t 12) (t 35)), o 13 (.mv (t 36)), o 14 (.mv (t 37))] [])
(.seq (.region [o 38 (.load false 112 (t 7)), o 39 (.load false 112 (t 11)), o 40 (.call 9 [(t 38), (t 39)]), o 41 (.mv (t 40)), g 42 (.load false 2 (t 8)) 41 true, g 43 (.load false 2 (t 12)) 41 true, g 44 (.call 10 [(t 42), (t 43)]) 41 true, o 45 (.pick (t 41) (t 44) (.con (.bool false))), o 46 (.mv (t 45)), g 47 (.mv (t 9)) 46 true, g 48 (.mv (t 13)) 46 true, g 49 (.bin .eql (t 47) (t 48)) 46 true, o 50 (.pick (t 46) (t 49) (.con (.bool false))), o 51 (.mv (t 50)), g 52 (.mv (t 10)) 51 true, g 53 (.mv (t 14)) 51 true, g 54 (.beq false (t 52) (t 53)) 51 true, o 55 (.pick (t 51) (t 54) (.con (.bool false))), o 56 (.mv (t 55)), g 57 (.call 6 []) 56 true, o 58 (.pick (t 56) (t 57) (.con (.bool false))), o 6 (.mv (t 58))] [])
.ret))))), [.tmp 6], true, none, false⟩
/-- cotterel/cotterellaw49.DrainAlls -/
def f4 : AFun := ⟨41, (.seq (.region [o 3 (.box (t 0)), o 4 (.box (t 1)), o 6 (.mv (.con (.bool false)))] [])
(.seq (.seq (.region [o 11 (.load false 112 (t 3)), o 12 (.load false 2 (t 4)), o 13 (.call 5 [(t 11), (t 12)]), o 14 (.un .not (t 13))] [])
 (.cond (t 14)
 (.seq (.region [o 15 (.call 6 []), o 6 (.mv (t 15))] [])
 .ret)
 .skip))
(.seq (.region [o 17 (.load false 112 (t 3)), o 18 (.load false 2 (t 4)), o 19 (.mv (t 2)), o 20 (.call 11 [(t 17), (t 18), (t 19)]), o 16 (.mv (t 20)), o 21 (.extract (t 16) 0), o 22 (.extract (t 16) 1), o 7 (.alloc zK0), o 8 (.alloc [(.imm true 0 []), (.imm true 0 [])]), n (.store 112 (t 7) (t 21)), n (.store 2 (t 8) (t 22))] [])
(.seq (.region [o 24 (.load false 112 (t 3)), o 25 (.load false 2 (t 4)), o 26 (.mv (t 2)), o 27 (.call 12 [(t 24), (t 25), (t 26)]), o 23 (.mv (t 27)), o 28 (.extract (t 23) 0), o 29 (.extract (t 23) 1), o 9 (.alloc zK0), o 10 (.alloc [(.imm true 0 []), (.imm true 0 [])]), n (.store 112 (t 9) (t 28)), n (.store 2 (t 10) (t 29))] [])
(.seq (.region [o 30 (.load false 112 (t 7)), o 31 (.load false 112 (t 9)), o 32 (.call 9 [(t 30), (t 31)]), o 33 (.mv (t 32)), g 34 (.load false 2 (t 8)) 33 true, g 35 (.load false 2 (t 10)) 33 true, g 36 (.call 10 [(t 34), (t 35)]) 33 true, o 37 (.pick (t 33) (t 36) (.con (.bool false))), o 38 (.mv (t 37)), g 39 (.call 6 []) 38 true, o 40 (.pick (t 38) (t 39) (.con (.bool false))), o 6 (.mv (t 40))] [])
.ret))))), [.tmp 6], true, none, false⟩
/-- cotterel/cotterellaw46.Light -/
def f5 : AFun := ⟨83, (.seq (.region [o 2 (.box (t 0)), o 3 (.box (t 1)), o 4 (.mv (.con (.bool false)))] [])
(.seq (.seq (.region [o 7 (.load false 112 (t 2)), o 8 (.call 13 [(t 7)]), o 9 (.un .not (t 8)), o 10 (.mv (t 9)), g 11 (.faddr (t 2) 52) 10 false, g 12 (.load true 1 (t 11)) 10 false, g 13 (.len (t 12)) 10 false, g 14 (.bin .gtr (t 13) (.con (.int .i64 4096))) 10 false, o 15 (.pick (t 10) (.con (.bool true)) (t 14)), o 16 (.mv (t 15)), g 17 (.faddr (t 2) 62) 16 false, g 18 (.load true 1 (t 17)) 16 false, g 19 (.len (t 18)) 16 false, g 20 (.bin .gtr (t 19) (.con (.int .i64 20))) 16 false, o 21 (.pick (t 16) (.con (.bool true)) (t 20)), o 22 (.mv (t 21)), g 23 (.faddr (t 2) 107) 22 false, g 24 (.load true 1 (t 23)) 22 false, g 25 (.len (t 24)) 22 false, g 26 (.bin .gtr (t 25) (.con (.int .i64 20))) 22 false, o 27 (.pick (t 22) (.con (.bool true)) (t 26)), o 28 (.mv (t 27)), g 29 (.faddr (t 2) 109) 28 false, g 30 (.load true 1 (t 29)) 28 false, g 31 (.len (t 30)) 28 false, g 32 (.bin .gtr (t 31) (.con (.int .i64 40))) 28 false, o 33 (.pick (t 28) (.con (.bool true)) (t 32)), o 34 (.mv (t 33)), g 35 (.faddr (t 3) 0) 34 false, g 36 (.load true 1 (t 35)) 34 false, g 37 (.len (t 36)) 34 false, g 38 (.bin .gtr (t 37) (.con (.int .i64 4096))) 34 false, o 39 (.pick (t 34) (.con (.bool true)) (t 38)), o 40 (.mv (t 39)), g 41 (.faddr (t 3) 1) 40 false, g 42 (.load true 1 (t 41)) 40 false, g 43 (.len (t 42)) 40 false, g 44 (.bin .gtr (t 43) (.con (.int .i64 4))) 40 false, o 45 (.pick (t 40) (.con (.bool true)) (t 44))] [])
 (.cond (t 45)
 (.seq (.region [o 4 (.mv (.con (.bool false)))] [])
 .ret)
 .skip))
(.seq (.seq (.region [o 5 (.mv (.con (.int .i64 0)))] [])
 (.block 0 (.loop (.seq (.seq (.region [o 46 (.mv (t 5)), o 47 (.faddr (t 3) 1), o 48 (.load true 1 (t 47)), o 49 (.len (t 48)), o 50 (.bin .lss (t 46) (t 49))] [])
 (.cond (t 50)
 .skip
 (.exit 0)))
 (.seq (.block 1 (.seq (.seq (.region [o 53 (.faddr (t 3) 1), o 54 (.load true 1 (t 53)), o 55 (.mv (t 5)), o 56 (.isl 1 (t 54) (t 55)), o 57 (.faddr (t 56) 0), o 58 (.load true 1 (t 57)), o 59 (.len (t 58)), o 60 (.bin .gtr (t 59) (.con (.int .i64 20)))] [])
 (.cond (t 60)
 (.seq (.region [o 4 (.mv (.con (.bool false)))] [])
 .ret)
 .skip))
 (.seq (.region [o 6 (.mv (.con (.int .i64 0)))] [])
 (.block 2 (.loop (.seq (.seq (.region [o 61 (.mv (t 6)), o 62 (.faddr (t 3) 1), o 63 (.load true 1 (t 62)), o 64 (.mv (t 5)), o 65 (.isl 1 (t 63) (t 64)), o 66 (.faddr (t 65) 0), o 67 (.load true 1 (t 66)), o 68 (.len (t 67)), o 69 (.bin .lss (t 61) (t 68))] [])
 (.cond (t 69)
 .skip
 (.exit 2)))
 (.seq (.block 3 (.seq (.region [o 72 (.faddr (t 3) 1), o 73 (.load true 1 (t 72)), o 74 (.mv (t 5)), o 75 (.isl 1 (t 73) (t 74)), o 76 (.faddr (t 75) 0), o 77 (.load true 1 (t 76)), o 78 (.mv (t 6)), o 79 (.isl 1 (t 77) (t 78)), o 80 (.load true 1 (t 79)), o 81 (.len (t 80)), o 82 (.bin .gtr (t 81) (.con (.int .i64 10)))] [])
 (.cond (t 82)
 (.seq (.region [o 4 (.mv (.con (.bool false)))] [])
 .ret)
 .skip)))
 (.region [o 70 (.mv (t 6)), o 71 (.bin .add (t 70) (.con (.int .i64 1))), o 6 (.mv (t 71))] []))))))))
 (.region [o 51 (.mv (t 5)), o 52 (.bin .add (t 51) (.con (.int .i64 1))), o 5 (.mv (t 52))] []))))))
(.seq (.region [o 4 (.mv (.con (.bool true)))] [])
.ret)))), [.tmp 4], true, none, false⟩
/-- cotterel/cotterellaw49.awake -/
def f6 : AFun := ⟨75, (.seq (.region [o 0 (.mv (.con (.bool false)))] [])
(.seq (.region [o 12 (.build [(.int .i64 0), (.int .i64 0), (.int .i64 0), (.int .i64 0), (.int .i64 0), (.int .i64 0), (.int .i64 0), (.int .i64 0), (.int .i64 0), (.int .i64 0), (.int .i64 0), (.int .i64 0), (.int .i64 0), (.int .i64 0), (.int .i64 0), (.int .i64 0), (.int .i64 0), (.int .i64 0), (.int .i64 0), (.int .i64 0), (.int .i64 0), (.bool false)] [(18, 1, (.con (.int .i64 3)))]), o 13 (.build [(.int .u32 0), (.int .u32 0), (.int .i64 0)] [(0, 1, (.con (.int .u32 20))), (1, 1, (.con (.int .u32 258))), (2, 1, (.con (.int .i64 2)))]), o 14 (.bsl [(.int .u32 0), (.int .u32 0), (.int .i64 0)] 1 3 [(0, 3, (t 13))]), o 15 (.build zK0 [(0, 22, (t 12)), (107, 1, (t 14))]), o 1 (.alloc zK0), n (.store 112 (t 1) (t 15))] [])
(.seq (.region [o 16 (.mksl [(.int .u8 0)] 1 1 (.con (.int .i64 64)) (.con (.int .i64 64))), o 17 (.call 14 [(t 16), (.con (.int .i64 1)), (.con (.int .i64 1)), (.con (.int .i64 1))]), o 2 (.alloc [(.imm true 0 []), (.imm true 0 [])]), n (.store 2 (t 2) (t 17))] [])
(.seq (.region [o 19 (.load false 112 (t 1)), o 20 (.load false 2 (t 2)), o 21 (.build [(.int .u32 0), (.int .u32 0), (.int .i64 0), (.bool false), (.int .i64 0)] [(3, 1, (.con (.bool true)))]), o 22 (.call 7 [(t 19), (t 20), (.con (.int .i64 0)), (t 21)]), o 18 (.mv (t 22)), o 23 (.extract (t 18) 0), o 24 (.extract (t 18) 1), o 25 (.extract (t 18) 2), o 26 (.extract (t 18) 3), o 3 (.alloc zK0), o 4 (.alloc [(.imm true 0 []), (.imm true 0 [])]), n (.store 112 (t 3) (t 23)), n (.store 2 (t 4) (t 24)), o 5 (.mv (t 25)), o 6 (.mv (t 26))] [])
(.seq (.region [o 28 (.load false 112 (t 1)), o 29 (.load false 2 (t 2)), o 30 (.build [(.int .u32 0), (.int .u32 0), (.int .i64 0), (.bool false), (.int .i64 0)] []), o 31 (.call 7 [(t 28), (t 29), (.con (.int .i64 0)), (t 30)]), o 27 (.mv (t 31)), o 32 (.extract (t 27) 0), o 33 (.extract (t 27) 1), o 34 (.extract (t 27) 2), o 35 (.extract (t 27) 3), o 7 (.alloc zK0), o 8 (.alloc [(.imm true 0 []), (.imm true 0 [])]), n (.store 112 (t 7) (t 32)), n (.store 2 (t 8) (t 33)), o 9 (.mv (t 34)), o 10 (.mv (t 35))] [])
(.seq (.region [o 36 (.load false 2 (t 4)), o 37 (.call 15 [(t 36)]), o 11 (.mv (t 37))] [])
(.seq (.region [o 38 (.mv (t 6)), o 39 (.mv (t 38)), g 40 (.mv (t 10)) 39 true, g 41 (.un .not (t 40)) 39 true, o 42 (.pick (t 39) (t 41) (.con (.bool false))), o 43 (.mv (t 42)), g 44 (.mv (t 5)) 43 true, g 45 (.bin .eql (t 44) (.con (.int .u32 1))) 43 true, o 46 (.pick (t 43) (t 45) (.con (.bool false))), o 47 (.mv (t 46)), g 48 (.faddr (t 3) 107) 47 true, g 49 (.load true 1 (t 48)) 47 true, g 50 (.len (t 49)) 47 true, g 51 (.bin .eql (t 50) (.con (.int .i64 0))) 47 true, o 52 (.pick (t 47) (t 51) (.con (.bool false))), o 53 (.mv (t 52)), g 54 (.faddr (t 3) 110) 53 true, g 55 (.load true 1 (t 54)) 53 true, g 56 (.bin .eql (t 55) (.con (.int .i64 3))) 53 true, o 57 (.pick (t 53) (t 56) (.con (.bool false))), o 58 (.mv (t 57)), g 59 (.mv (t 11)) 58 true, g 60 (.len (t 59)) 58 true, g 61 (.bin .eql (t 60) (.con (.int .i64 64))) 58 true, o 62 (.pick (t 58) (t 61) (.con (.bool false))), o 63 (.mv (t 62)), g 64 (.mv (t 11)) 63 true, g 65 (.isl 1 (t 64) (.con (.int .i64 20))) 63 true, g 66 (.load true 1 (t 65)) 63 true, g 67 (.bin .eql (t 66) (.con (.int .u8 2))) 63 true, o 68 (.pick (t 63) (t 67) (.con (.bool false))), o 69 (.mv (t 68)), g 70 (.mv (t 11)) 69 true, g 71 (.isl 1 (t 70) (.con (.int .i64 21))) 69 true, g 72 (.load true 1 (t 71)) 69 true, g 73 (.bin .eql (t 72) (.con (.int .u8 1))) 69 true, o 74 (.pick (t 69) (t 73) (.con (.bool false))), o 0 (.mv (t 74))] [])
.ret))))))), [.tmp 0], true, none, false⟩
/-- cotterel/drain.Stage -/
def f7 : AFun := ⟨54, (.seq (.region [o 4 (.box (t 0)), o 5 (.box (t 1)), o 7 (.box (t 3)), o 8 (.alloc zK0), o 9 (.alloc [(.imm true 0 []), (.imm true 0 [])]), o 10 (.mv (.con (.int .u32 0))), o 11 (.mv (.con (.bool false)))] [])
(.seq (.block 0 (.seq (.region [o 15 (.faddr (t 4) 110), o 16 (.load true 1 (t 15)), o 17 (.bin .gtr (t 16) (.con (.int .i64 0))), o 14 (.mv (t 17))] [])
 (.cond (t 14)
 (.seq (.region [o 18 (.faddr (t 4) 110), o 19 (.load true 1 (t 18)), o 20 (.bin .sub (t 19) (.con (.int .i64 1))), o 21 (.faddr (t 4) 110), n (.store 1 (t 21) (t 20))] [])
 (.seq (.region [o 22 (.load false 112 (t 4)), o 23 (.load false 2 (t 5)), n (.store 112 (t 8) (t 22)), n (.store 2 (t 9) (t 23)), o 10 (.mv (.con (.int .u32 0))), o 11 (.mv (.con (.bool false)))] [(1, 2)])
 .ret))
 (.seq (.region [o 25 (.faddr (t 7) 3), o 26 (.load true 1 (t 25)), o 27 (.un .not (t 26)), o 28 (.mv (t 27)), g 29 (.faddr (t 4) 107) 28 false, g 30 (.load true 1 (t 29)) 28 false, g 31 (.len (t 30)) 28 false, g 32 (.bin .eql (t 31) (.con (.int .i64 0))) 28 false, o 33 (.pick (t 28) (.con (.bool true)) (t 32)), o 24 (.mv (t 33))] [])
 (.cond (t 24)
 (.seq (.region [o 34 (.load false 112 (t 4)), o 35 (.load false 2 (t 5)), n (.store 112 (t 8) (t 34)), n (.store 2 (t 9) (t 35)), o 10 (.mv (.con (.int .u32 0))), o 11 (.mv (.con (.bool false)))] [(1, 2)])
 .ret)
 .skip)))))
(.seq (.region [o 37 (.load false 112 (t 4)), o 38 (.load false 2 (t 5)), o 39 (.mv (t 2)), o 40 (.call 16 [(t 37), (t 38), (t 39)]), o 36 (.mv (t 40)), o 41 (.extract (t 36) 0), o 42 (.extract (t 36) 1), o 43 (.extract (t 36) 2), o 44 (.extract (t 36) 3), n (.store 112 (t 4) (t 41)), n (.store 2 (t 5) (t 42)), o 12 (.mv (t 43)), o 13 (.mv (t 44))] [])
(.seq (.seq (.region [o 45 (.mv (t 13)), o 46 (.un .not (t 45))] [])
 (.cond (t 46)
 (.region [o 47 (.faddr (t 4) 0), o 48 (.faddr (t 47) 18), o 49 (.load true 1 (t 48)), o 50 (.faddr (t 4) 110), n (.store 1 (t 50) (t 49))] [])
 .skip))
(.seq (.region [o 51 (.load false 112 (t 4)), o 52 (.load false 2 (t 5)), o 53 (.mv (t 12)), n (.store 112 (t 8) (t 51)), n (.store 2 (t 9) (t 52)), o 10 (.mv (t 53)), o 11 (.mv (.con (.bool true)))] [(1, 3)])
.ret))))), [.cell 8 false 112, .cell 9 false 2, .tmp 10, .tmp 11], false, none, true⟩
/-- cotterel/cotterelref49.Stage -/
def f8 : AFun := ⟨68, (.seq (.region [o 4 (.box (t 0)), o 5 (.box (t 1)), o 7 (.box (t 3)), o 8 (.alloc zK0), o 9 (.alloc [(.imm true 0 []), (.imm true 0 [])]), o 10 (.mv (.con (.int .u32 0))), o 11 (.mv (.con (.bool false)))] [])
(.seq (.seq (.region [o 15 (.faddr (t 4) 110), o 16 (.load true 1 (t 15)), o 17 (.bin .gtr (t 16) (.con (.int .i64 0)))] [])
 (.cond (t 17)
 (.seq (.region [o 18 (.faddr (t 4) 110), o 19 (.load true 1 (t 18)), o 20 (.bin .sub (t 19) (.con (.int .i64 1))), o 21 (.faddr (t 4) 110), n (.store 1 (t 21) (t 20))] [])
 (.seq (.region [o 22 (.load false 112 (t 4)), o 23 (.load false 2 (t 5)), n (.store 112 (t 8) (t 22)), n (.store 2 (t 9) (t 23)), o 10 (.mv (.con (.int .u32 0))), o 11 (.mv (.con (.bool false)))] [(1, 2)])
 .ret))
 .skip))
(.seq (.seq (.region [o 24 (.faddr (t 7) 3), o 25 (.load true 1 (t 24)), o 26 (.un .not (t 25)), o 27 (.mv (t 26)), g 28 (.faddr (t 4) 107) 27 false, g 29 (.load true 1 (t 28)) 27 false, g 30 (.len (t 29)) 27 false, g 31 (.bin .eql (t 30) (.con (.int .i64 0))) 27 false, o 32 (.pick (t 27) (.con (.bool true)) (t 31))] [])
 (.cond (t 32)
 (.seq (.region [o 33 (.load false 112 (t 4)), o 34 (.load false 2 (t 5)), n (.store 112 (t 8) (t 33)), n (.store 2 (t 9) (t 34)), o 10 (.mv (.con (.int .u32 0))), o 11 (.mv (.con (.bool false)))] [(1, 2)])
 .ret)
 .skip))
(.seq (.region [o 35 (.faddr (t 4) 107), o 36 (.load true 1 (t 35)), o 37 (.isl 3 (t 36) (.con (.int .i64 0))), o 38 (.load false 3 (t 37)), o 12 (.alloc [(.int .u32 0), (.int .u32 0), (.int .i64 0)]), n (.store 3 (t 12) (t 38))] [])
(.seq (.region [o 40 (.load false 2 (t 5)), o 41 (.mv (t 2)), o 42 (.faddr (t 12) 0), o 43 (.load true 1 (t 42)), o 44 (.faddr (t 12) 2), o 45 (.load true 1 (t 44)), o 46 (.faddr (t 12) 1), o 47 (.load true 1 (t 46)), o 48 (.call 17 [(t 40), (t 41), (t 43), (t 45), (t 47)]), o 39 (.mv (t 48)), o 49 (.extract (t 39) 0), o 50 (.extract (t 39) 1), o 13 (.alloc [(.imm true 0 []), (.imm true 0 [])]), n (.store 2 (t 13) (t 49)), o 14 (.mv (t 50))] [])
(.seq (.seq (.region [o 51 (.mv (t 14)), o 52 (.un .not (t 51))] [])
 (.cond (t 52)
 (.region [o 53 (.faddr (t 4) 0), o 54 (.faddr (t 53) 18), o 55 (.load true 1 (t 54)), o 56 (.faddr (t 4) 110), n (.store 1 (t 56) (t 55))] [])
 .skip))
(.seq (.region [o 57 (.bsl [] 0 3 []), o 58 (.faddr (t 4) 107), o 59 (.load true 1 (t 58)), o 60 (.slSl 3 (t 59) (some (.con (.int .i64 1))) none none), o 61 (.append 3 16 (t 57) (t 60)), o 62 (.faddr (t 4) 107), n (.store 1 (t 62) (t 61))] [])
(.seq (.region [o 63 (.load false 112 (t 4)), o 64 (.load false 2 (t 13)), o 65 (.faddr (t 12) 0), o 66 (.load true 1 (t 65)), o 67 (.call 18 [(t 66)]), n (.store 112 (t 8) (t 63)), n (.store 2 (t 9) (t 64)), o 10 (.mv (t 67)), o 11 (.mv (.con (.bool true)))] [(0, 4), (1, 4), (1, 5)])
.ret)))))))), [.cell 8 false 112, .cell 9 false 2, .tmp 10, .tmp 11], true, none, false⟩
/-- cotterel/cotterelsame.Core -/
def f9 : AFun := ⟨153, (.seq (.region [o 2 (.box (t 0)), o 3 (.box (t 1)), o 4 (.mv (.con (.bool false)))] [])
(.seq (.seq (.region [o 5 (.faddr (t 2) 0), o 6 (.load false 22 (t 5)), o 7 (.faddr (t 3) 0), o 8 (.load false 22 (t 7)), o 9 (.aeq true [some .i64, some .i64, some .i64, some .i64, some .i64, some .i64, some .i64, some .i64, some .i64, some .i64, some .i64, some .i64, some .i64, some .i64, some .i64, some .i64, some .i64, some .i64, some .i64, some .i64, some .i64, none] (t 6) (t 8)), o 10 (.mv (t 9)), g 11 (.faddr (t 2) 22) 10 false, g 12 (.load false 30 (t 11)) 10 false, g 13 (.faddr (t 3) 22) 10 false, g 14 (.load false 30 (t 13)) 10 false, g 15 (.aeq true [some .u32, some .u32, some .u32, some .u32, some .u32, some .u32, some .u32, some .u32, some .u32, some .u32, some .u32, some .u32, some .u32, some .u32, some .u32, some .u32, some .u32, some .u32, some .u32, some .u32, some .u32, some .u32, some .u32, some .u32, some .u32, some .u32, some .u32, some .u32, some .u32, none] (t 12) (t 14)) 10 false, o 16 (.pick (t 10) (.con (.bool true)) (t 15)), o 17 (.mv (t 16)), g 18 (.faddr (t 2) 54) 17 false, g 19 (.load true 1 (t 18)) 17 false, g 20 (.faddr (t 3) 54) 17 false, g 21 (.load true 1 (t 20)) 17 false, g 22 (.bin .neq (t 19) (t 21)) 17 false, o 23 (.pick (t 17) (.con (.bool true)) (t 22)), o 24 (.mv (t 23)), g 25 (.faddr (t 2) 55) 24 false, g 26 (.load true 1 (t 25)) 24 false, g 27 (.faddr (t 3) 55) 24 false, g 28 (.load true 1 (t 27)) 24 false, g 29 (.beq true (t 26) (t 28)) 24 false, o 30 (.pick (t 24) (.con (.bool true)) (t 29)), o 31 (.mv (t 30)), g 32 (.faddr (t 2) 63) 31 false, g 33 (.load true 1 (t 32)) 31 false, g 34 (.faddr (t 3) 63) 31 false, g 35 (.load true 1 (t 34)) 31 false, g 36 (.bin .neq (t 33) (t 35)) 31 false, o 37 (.pick (t 31) (.con (.bool true)) (t 36)), o 38 (.mv (t 37)), g 39 (.faddr (t 2) 110) 38 false, g 40 (.load true 1 (t 39)) 38 false, g 41 (.faddr (t 3) 110) 38 false, g 42 (.load true 1 (t 41)) 38 false, g 43 (.bin .neq (t 40) (t 42)) 38 false, o 44 (.pick (t 38) (.con (.bool true)) (t 43)), o 45 (.mv (t 44)), g 46 (.faddr (t 2) 111) 45 false, g 47 (.load true 1 (t 46)) 45 false, g 48 (.faddr (t 3) 111) 45 false, g 49 (.load true 1 (t 48)) 45 false, g 50 (.bin .neq (t 47) (t 49)) 45 false, o 51 (.pick (t 45) (.con (.bool true)) (t 50))] [])
 (.cond (t 51)
 (.seq (.region [o 4 (.mv (.con (.bool false)))] [])
 .ret)
 .skip))
(.seq (.seq (.region [o 52 (.faddr (t 2) 52), o 53 (.load true 1 (t 52)), o 54 (.faddr (t 3) 52), o 55 (.load true 1 (t 54)), o 56 (.call 19 [(t 53), (t 55)]), o 57 (.un .not (t 56)), o 58 (.mv (t 57)), g 59 (.faddr (t 2) 53) 58 false, g 60 (.load true 1 (t 59)) 58 false, g 61 (.faddr (t 3) 53) 58 false, g 62 (.load true 1 (t 61)) 58 false, g 63 (.call 20 [(t 60), (t 62)]) 58 false, g 64 (.un .not (t 63)) 58 false, o 65 (.pick (t 58) (.con (.bool true)) (t 64)), o 66 (.mv (t 65)), g 67 (.faddr (t 2) 56) 66 false, g 68 (.load false 6 (t 67)) 66 false, g 69 (.faddr (t 3) 56) 66 false, g 70 (.load false 6 (t 69)) 66 false, g 71 (.call 21 [(t 68), (t 70)]) 66 false, g 72 (.un .not (t 71)) 66 false, o 73 (.pick (t 66) (.con (.bool true)) (t 72)), o 74 (.mv (t 73)), g 75 (.faddr (t 2) 62) 74 false, g 76 (.load true 1 (t 75)) 74 false, g 77 (.faddr (t 3) 62) 74 false, g 78 (.load true 1 (t 77)) 74 false, g 79 (.call 22 [(t 76), (t 78)]) 74 false, g 80 (.un .not (t 79)) 74 false, o 81 (.pick (t 74) (.con (.bool true)) (t 80)), o 82 (.mv (t 81)), g 83 (.faddr (t 2) 64) 82 false, g 84 (.load true 1 (t 83)) 82 false, g 85 (.faddr (t 3) 64) 82 false, g 86 (.load true 1 (t 85)) 82 false, g 87 (.call 23 [(t 84), (t 86)]) 82 false, g 88 (.un .not (t 87)) 82 false, o 89 (.pick (t 82) (.con (.bool true)) (t 88)), o 90 (.mv (t 89)), g 91 (.faddr (t 2) 65) 90 false, g 92 (.load false 36 (t 91)) 90 false, g 93 (.faddr (t 3) 65) 90 false, g 94 (.load false 36 (t 93)) 90 false, g 95 (.call 24 [(t 92), (t 94)]) 90 false, g 96 (.un .not (t 95)) 90 false, o 97 (.pick (t 90) (.con (.bool true)) (t 96)), o 98 (.mv (t 97)), g 99 (.faddr (t 2) 101) 98 false, g 100 (.load false 2 (t 99)) 98 false, g 101 (.faddr (t 3) 101) 98 false, g 102 (.load false 2 (t 101)) 98 false, g 103 (.call 25 [(t 100), (t 102)]) 98 false, g 104 (.un .not (t 103)) 98 false, o 105 (.pick (t 98) (.con (.bool true)) (t 104))] [])
 (.cond (t 105)
 (.seq (.region [o 4 (.mv (.con (.bool false)))] [])
 .ret)
 .skip))
(.seq (.region [o 106 (.faddr (t 2) 103), o 107 (.load true 1 (t 106)), o 108 (.faddr (t 3) 103), o 109 (.load true 1 (t 108)), o 110 (.call 26 [(t 107), (t 109)]), o 111 (.mv (t 110)), g 112 (.faddr (t 2) 104) 111 true, g 113 (.load true 1 (t 112)) 111 true, g 114 (.faddr (t 3) 104) 111 true, g 115 (.load true 1 (t 114)) 111 true, g 116 (.call 27 [(t 113), (t 115)]) 111 true, o 117 (.pick (t 111) (t 116) (.con (.bool false))), o 118 (.mv (t 117)), g 119 (.faddr (t 2) 105) 118 true, g 120 (.load true 1 (t 119)) 118 true, g 121 (.faddr (t 3) 105) 118 true, g 122 (.load true 1 (t 121)) 118 true, g 123 (.call 28 [(t 120), (t 122)]) 118 true, o 124 (.pick (t 118) (t 123) (.con (.bool false))), o 125 (.mv (t 124)), g 126 (.faddr (t 2) 106) 125 true, g 127 (.load true 1 (t 126)) 125 true, g 128 (.faddr (t 3) 106) 125 true, g 129 (.load true 1 (t 128)) 125 true, g 130 (.call 29 [(t 127), (t 129)]) 125 true, o 131 (.pick (t 125) (t 130) (.con (.bool false))), o 132 (.mv (t 131)), g 133 (.faddr (t 2) 107) 132 true, g 134 (.load true 1 (t 133)) 132 true, g 135 (.faddr (t 3) 107) 132 true, g 136 (.load true 1 (t 135)) 132 true, g 137 (.call 30 [(t 134), (t 136)]) 132 true, o 138 (.pick (t 132) (t 137) (.con (.bool false))), o 139 (.mv (t 138)), g 140 (.faddr (t 2) 108) 139 true, g 141 (.load true 1 (t 140)) 139 true, g 142 (.faddr (t 3) 108) 139 true, g 143 (.load true 1 (t 142)) 139 true, g 144 (.call 31 [(t 141), (t 143)]) 139 true, o 145 (.pick (t 139) (t 144) (.con (.bool false))), o 146 (.mv (t 145)), g 147 (.faddr (t 2) 109) 146 true, g 148 (.load true 1 (t 147)) 146 true, g 149 (.faddr (t 3) 109) 146 true, g 150 (.load true 1 (t 149)) 146 true, g 151 (.call 19 [(t 148), (t 150)]) 146 true, o 152 (.pick (t 146) (t 151) (.con (.bool false))), o 4 (.mv (t 152))] [])
.ret)))), [.tmp 4], true, none, false⟩
/-- cotterel/cotterelsame.Coh -/
def f10 : AFun := ⟨47, (.seq (.region [o 2 (.box (t 0)), o 3 (.box (t 1)), o 4 (.mv (.con (.bool false)))] [])
(.seq (.seq (.region [o 6 (.faddr (t 2) 0), o 7 (.load true 1 (t 6)), o 8 (.faddr (t 3) 0), o 9 (.load true 1 (t 8)), o 10 (.call 19 [(t 7), (t 9)]), o 11 (.un .not (t 10)), o 12 (.mv (t 11)), g 13 (.faddr (t 2) 1) 12 false, g 14 (.load true 1 (t 13)) 12 false, g 15 (.len (t 14)) 12 false, g 16 (.faddr (t 3) 1) 12 false, g 17 (.load true 1 (t 16)) 12 false, g 18 (.len (t 17)) 12 false, g 19 (.bin .neq (t 15) (t 18)) 12 false, o 20 (.pick (t 12) (.con (.bool true)) (t 19))] [])
 (.cond (t 20)
 (.seq (.region [o 4 (.mv (.con (.bool false)))] [])
 .ret)
 .skip))
(.seq (.seq (.region [o 5 (.mv (.con (.int .i64 0)))] [])
 (.block 0 (.loop (.seq (.seq (.region [o 21 (.mv (t 5)), o 22 (.faddr (t 2) 1), o 23 (.load true 1 (t 22)), o 24 (.len (t 23)), o 25 (.bin .lss (t 21) (t 24)), o 26 (.mv (t 25)), g 27 (.mv (t 5)) 26 true, g 28 (.faddr (t 3) 1) 26 true, g 29 (.load true 1 (t 28)) 26 true, g 30 (.len (t 29)) 26 true, g 31 (.bin .lss (t 27) (t 30)) 26 true, o 32 (.pick (t 26) (t 31) (.con (.bool false)))] [])
 (.cond (t 32)
 .skip
 (.exit 0)))
 (.seq (.block 1 (.seq (.region [o 35 (.faddr (t 2) 1), o 36 (.load true 1 (t 35)), o 37 (.mv (t 5)), o 38 (.isl 1 (t 36) (t 37)), o 39 (.load false 1 (t 38)), o 40 (.faddr (t 3) 1), o 41 (.load true 1 (t 40)), o 42 (.mv (t 5)), o 43 (.isl 1 (t 41) (t 42)), o 44 (.load false 1 (t 43)), o 45 (.call 32 [(t 39), (t 44)]), o 46 (.un .not (t 45))] [])
 (.cond (t 46)
 (.seq (.region [o 4 (.mv (.con (.bool false)))] [])
 .ret)
 .skip)))
 (.region [o 33 (.mv (t 5)), o 34 (.bin .add (t 33) (.con (.int .i64 1))), o 5 (.mv (t 34))] []))))))
(.seq (.region [o 4 (.mv (.con (.bool true)))] [])
.ret)))), [.tmp 4], true, none, false⟩
/-- cotterel/drain.All -/
def f11 : AFun := ⟨24, (.seq (.region [o 3 (.box (t 0)), o 4 (.box (t 1)), o 6 (.alloc zK0), o 7 (.alloc [(.imm true 0 []), (.imm true 0 [])])] [])
(.seq (.block 0 (.loop (.seq (.seq (.region [o 8 (.faddr (t 3) 107), o 9 (.load true 1 (t 8)), o 10 (.len (t 9)), o 11 (.bin .gtr (t 10) (.con (.int .i64 0)))] [])
 (.cond (t 11)
 .skip
 (.exit 0)))
 (.block 1 (.region [o 13 (.load false 112 (t 3)), o 14 (.load false 2 (t 4)), o 15 (.mv (t 2)), o 16 (.call 16 [(t 13), (t 14), (t 15)]), o 12 (.mv (t 16)), o 17 (.extract (t 12) 0), o 18 (.extract (t 12) 1), o 19 (.extract (t 12) 2), o 20 (.extract (t 12) 3), n (.store 112 (t 3) (t 17)), n (.store 2 (t 4) (t 18))] [])))))
(.seq (.region [o 21 (.faddr (t 3) 110), n (.store 1 (t 21) (.con (.int .i64 0)))] [])
(.seq (.region [o 22 (.load false 112 (t 3)), o 23 (.load false 2 (t 4)), n (.store 112 (t 6) (t 22)), n (.store 2 (t 7) (t 23))] [(1, 2)])
.ret)))), [.cell 6 false 112, .cell 7 false 2], true, none, false⟩
/-- cotterel/cotterelref49.All -/
def f12 : AFun := ⟨44, (.seq (.region [o 3 (.box (t 0)), o 4 (.box (t 1)), o 6 (.alloc zK0), o 7 (.alloc [(.imm true 0 []), (.imm true 0 [])])] [])
(.seq (.seq (.region [o 8 (.mv (.con (.int .i64 0)))] [])
 (.block 0 (.loop (.seq (.seq (.region [o 9 (.mv (t 8)), o 10 (.faddr (t 3) 107), o 11 (.load true 1 (t 10)), o 12 (.len (t 11)), o 13 (.bin .lss (t 9) (t 12))] [])
 (.cond (t 13)
 .skip
 (.exit 0)))
 (.seq (.block 1 (.region [o 17 (.load false 2 (t 4)), o 18 (.mv (t 2)), o 19 (.faddr (t 3) 107), o 20 (.load true 1 (t 19)), o 21 (.mv (t 8)), o 22 (.isl 3 (t 20) (t 21)), o 23 (.faddr (t 22) 0), o 24 (.load true 1 (t 23)), o 25 (.faddr (t 3) 107), o 26 (.load true 1 (t 25)), o 27 (.mv (t 8)), o 28 (.isl 3 (t 26) (t 27)), o 29 (.faddr (t 28) 2), o 30 (.load true 1 (t 29)), o 31 (.faddr (t 3) 107), o 32 (.load true 1 (t 31)), o 33 (.mv (t 8)), o 34 (.isl 3 (t 32) (t 33)), o 35 (.faddr (t 34) 1), o 36 (.load true 1 (t 35)), o 37 (.call 17 [(t 17), (t 18), (t 24), (t 30), (t 36)]), o 16 (.mv (t 37)), o 38 (.extract (t 16) 0), o 39 (.extract (t 16) 1), n (.store 2 (t 4) (t 38))] []))
 (.region [o 14 (.mv (t 8)), o 15 (.bin .add (t 14) (.con (.int .i64 1))), o 8 (.mv (t 15))] []))))))
(.seq (.region [o 40 (.faddr (t 3) 107), n (.store 1 (t 40) (.con (.imm true 0 [])))] [])
(.seq (.region [o 41 (.faddr (t 3) 110), n (.store 1 (t 41) (.con (.int .i64 0)))] [])
(.seq (.region [o 42 (.load false 112 (t 3)), o 43 (.load false 2 (t 4)), n (.store 112 (t 6) (t 42)), n (.store 2 (t 7) (t 43))] [(1, 2)])
.ret))))), [.cell 6 false 112, .cell 7 false 2], true, none, false⟩
/-- cotterel/cotterellaw43.Light -/
def f13 : AFun := ⟨73, (.seq (.region [o 1 (.box (t 0)), o 2 (.mv (.con (.bool false)))] [])
(.seq (.region [o 3 (.faddr (t 1) 103), o 4 (.load true 1 (t 3)), o 5 (.len (t 4)), o 6 (.bin .leq (t 5) (.con (.int .i64 70))), o 7 (.mv (t 6)), g 8 (.faddr (t 1) 104) 7 true, g 9 (.load true 1 (t 8)) 7 true, g 10 (.len (t 9)) 7 true, g 11 (.bin .leq (t 10) (.con (.int .i64 40))) 7 true, o 12 (.pick (t 7) (t 11) (.con (.bool false))), o 13 (.mv (t 12)), g 14 (.faddr (t 1) 105) 13 true, g 15 (.load true 1 (t 14)) 13 true, g 16 (.len (t 15)) 13 true, g 17 (.bin .leq (t 16) (.con (.int .i64 20))) 13 true, o 18 (.pick (t 13) (t 17) (.con (.bool false))), o 19 (.mv (t 18)), g 20 (.faddr (t 1) 106) 19 true, g 21 (.load true 1 (t 20)) 19 true, g 22 (.len (t 21)) 19 true, g 23 (.bin .leq (t 22) (.con (.int .i64 20))) 19 true, o 24 (.pick (t 19) (t 23) (.con (.bool false))), o 25 (.mv (t 24)), g 26 (.faddr (t 1) 108) 25 true, g 27 (.load true 1 (t 26)) 25 true, g 28 (.len (t 27)) 25 true, g 29 (.bin .leq (t 28) (.con (.int .i64 70))) 25 true, o 30 (.pick (t 25) (t 29) (.con (.bool false))), o 31 (.mv (t 30)), g 32 (.faddr (t 1) 64) 31 true, g 33 (.load true 1 (t 32)) 31 true, g 34 (.len (t 33)) 31 true, g 35 (.bin .leq (t 34) (.con (.int .i64 20))) 31 true, o 36 (.pick (t 31) (t 35) (.con (.bool false))), o 37 (.mv (t 36)), g 38 (.faddr (t 1) 65) 37 true, g 39 (.faddr (t 38) 32) 37 true, g 40 (.faddr (t 39) 0) 37 true, g 41 (.load true 1 (t 40)) 37 true, g 42 (.len (t 41)) 37 true, g 43 (.bin .leq (t 42) (.con (.int .i64 100))) 37 true, o 44 (.pick (t 37) (t 43) (.con (.bool false))), o 45 (.mv (t 44)), g 46 (.faddr (t 1) 101) 45 true, g 47 (.faddr (t 46) 0) 45 true, g 48 (.load true 1 (t 47)) 45 true, g 49 (.len (t 48)) 45 true, g 50 (.bin .leq (t 49) (.con (.int .i64 100))) 45 true, o 51 (.pick (t 45) (t 50) (.con (.bool false))), o 52 (.mv (t 51)), g 53 (.faddr (t 1) 56) 52 true, g 54 (.faddr (t 53) 1) 52 true, g 55 (.load true 1 (t 54)) 52 true, g 56 (.len (t 55)) 52 true, g 57 (.bin .leq (t 56) (.con (.int .i64 300))) 52 true, o 58 (.pick (t 52) (t 57) (.con (.bool false))), o 59 (.mv (t 58)), g 60 (.faddr (t 1) 56) 59 true, g 61 (.faddr (t 60) 2) 59 true, g 62 (.load true 1 (t 61)) 59 true, g 63 (.len (t 62)) 59 true, g 64 (.bin .leq (t 63) (.con (.int .i64 40))) 59 true, o 65 (.pick (t 59) (t 64) (.con (.bool false))), o 66 (.mv (t 65)), g 67 (.faddr (t 1) 56) 66 true, g 68 (.faddr (t 67) 4) 66 true, g 69 (.load true 1 (t 68)) 66 true, g 70 (.len (t 69)) 66 true, g 71 (.bin .leq (t 70) (.con (.int .i64 40))) 66 true, o 72 (.pick (t 66) (t 71) (.con (.bool false))), o 2 (.mv (t 72))] [])
.ret)), [.tmp 2], true, none, false⟩
/-- cotterel/cotterelref41.New -/
def f14 : AFun := ⟨27, (.seq (.region [o 8 (.alloc [(.imm true 0 []), (.imm true 0 [])])] [])
(.seq (.region [o 10 (.mv (t 0)), o 11 (.mv (t 1)), o 12 (.mv (t 2)), o 13 (.call 33 [(t 11), (t 12)]), o 14 (.bsl [(.imm true 0 [])] 1 1 [(0, 1, (t 13))]), o 15 (.build [(.imm true 0 []), (.imm true 0 [])] [(0, 1, (t 10)), (1, 1, (t 14))]), o 9 (.alloc [(.imm true 0 []), (.imm true 0 [])]), n (.store 2 (t 9) (t 15))] [])
(.seq (.seq (.region [o 16 (.mv (t 3)), o 17 (.bin .gtr (t 16) (.con (.int .i64 1)))] [])
 (.cond (t 17)
 (.region [o 18 (.faddr (t 9) 1), o 19 (.load true 1 (t 18)), o 20 (.mv (t 1)), o 21 (.mv (t 2)), o 22 (.call 33 [(t 20), (t 21)]), o 23 (.bsl [(.imm true 0 [])] 1 1 [(0, 1, (t 22))]), o 24 (.append 1 24 (t 19) (t 23)), o 25 (.faddr (t 9) 1), n (.store 1 (t 25) (t 24))] [(1, 4), (1, 5)])
 .skip))
(.seq (.region [o 26 (.load false 2 (t 9)), n (.store 2 (t 8) (t 26))] [])
.ret)))), [.cell 8 false 2], true, none, false⟩
/-- cotterel/coh.View -/
def f15 : AFun := ⟨11, (.seq (.region [o 1 (.box (t 0)), o 2 (.mv (.con (.imm true 0 [])))] [])
(.seq (.region [o 4 (.faddr (t 1) 0), o 5 (.load true 1 (t 4)), o 6 (.call 34 [(t 5)]), o 3 (.alloc [(.imm true 0 [])]), n (.store 1 (t 3) (t 6))] [])
(.seq (.region [o 7 (.load false 2 (t 1)), o 8 (.mkfn 36 [] [(t 3)]), o 9 (.call 35 [(t 7), (t 8)])] [])
(.seq (.region [o 10 (.load true 1 (t 3)), o 2 (.mv (t 10))] [])
.ret)))), [.tmp 2], true, none, false⟩
/-- cotterel/drain.write -/
def f16 : AFun := ⟨41, (.seq (.region [o 3 (.box (t 0)), o 4 (.box (t 1)), o 6 (.alloc zK0), o 7 (.alloc [(.imm true 0 []), (.imm true 0 [])]), o 8 (.mv (.con (.int .u32 0))), o 9 (.mv (.con (.bool false)))] [])
(.seq (.region [o 15 (.faddr (t 3) 107), o 16 (.load true 1 (t 15)), o 17 (.call 38 [(t 16)]), o 14 (.mv (t 17)), o 18 (.extract (t 14) 0), o 19 (.extract (t 14) 1), o 20 (.extract (t 14) 2), o 11 (.alloc [(.int .u32 0), (.int .u32 0), (.int .i64 0)]), o 10 (.mv (t 18)), n (.store 3 (t 11) (t 19)), o 12 (.mv (t 20))] [])
(.seq (.region [o 21 (.mv (t 10)), o 22 (.faddr (t 3) 107), n (.store 1 (t 22) (t 21))] [])
(.seq (.region [o 24 (.load false 2 (t 4)), o 25 (.mv (t 2)), o 26 (.faddr (t 11) 0), o 27 (.load true 1 (t 26)), o 28 (.faddr (t 11) 2), o 29 (.load true 1 (t 28)), o 30 (.faddr (t 11) 1), o 31 (.load true 1 (t 30)), o 32 (.call 39 [(t 24), (t 25), (t 27), (t 29), (t 31)]), o 23 (.mv (t 32)), o 33 (.extract (t 23) 0), o 34 (.extract (t 23) 1), n (.store 2 (t 4) (t 33)), o 13 (.mv (t 34))] [])
(.seq (.region [o 35 (.load false 112 (t 3)), o 36 (.load false 2 (t 4)), o 37 (.faddr (t 11) 0), o 38 (.load true 1 (t 37)), o 39 (.call 40 [(t 38)]), o 40 (.mv (t 13)), n (.store 112 (t 6) (t 35)), n (.store 2 (t 7) (t 36)), o 8 (.mv (t 39)), o 9 (.mv (t 40))] [(0, 4), (1, 4), (1, 6)])
.ret))))), [.cell 6 false 112, .cell 7 false 2, .tmp 8, .tmp 9], false, none, true⟩
/-- cotterel/cotterelref41.Write -/
def f17 : AFun := ⟨55, (.seq (.region [o 5 (.box (t 0)), o 10 (.alloc [(.imm true 0 []), (.imm true 0 [])]), o 11 (.mv (.con (.bool false)))] [])
(.seq (.seq (.region [o 17 (.load false 2 (t 5)), o 18 (.mv (t 1)), o 19 (.mv (t 2)), o 20 (.mv (t 3)), o 21 (.call 41 [(t 17), (t 18), (t 19), (t 20)]), o 22 (.un .not (t 21))] [])
 (.cond (t 22)
 (.seq (.region [o 23 (.load false 2 (t 5)), n (.store 2 (t 10) (t 23)), o 11 (.mv (.con (.bool false)))] [])
 .ret)
 .skip))
(.seq (.region [o 24 (.mv (t 2)), o 25 (.call 18 [(t 24)]), o 12 (.mv (t 25))] [])
(.seq (.region [o 27 (.load false 2 (t 5)), o 28 (.mv (t 1)), o 29 (.mv (t 12)), o 30 (.call 42 [(t 27), (t 28), (t 29), (.con (.int .i64 2))]), o 26 (.mv (t 30)), o 31 (.extract (t 26) 0), o 32 (.extract (t 26) 1), o 13 (.alloc [(.imm true 0 []), (.imm true 0 [])]), n (.store 2 (t 13) (t 31)), o 14 (.mv (t 32))] [])
(.seq (.region [o 34 (.faddr (t 13) 1), o 35 (.load true 1 (t 34)), o 36 (.mv (t 1)), o 37 (.isl 1 (t 35) (t 36)), o 38 (.load false 1 (t 37)), o 39 (.mv (t 2)), o 40 (.mv (t 3)), o 41 (.mv (t 4)), o 42 (.call 43 [(t 38), (t 39), (t 40), (t 41)]), o 33 (.mv (t 42)), o 43 (.extract (t 33) 0), o 44 (.extract (t 33) 1), o 15 (.alloc [(.imm true 0 [])]), n (.store 1 (t 15) (t 43)), o 16 (.mv (t 44))] [])
(.seq (.seq (.region [o 45 (.mv (t 16))] [])
 (.cond (t 45)
 (.region [o 46 (.load false 2 (t 13)), o 47 (.mv (t 1)), o 48 (.load false 1 (t 15)), o 49 (.call 44 [(t 46), (t 47), (t 48)]), n (.store 2 (t 13) (t 49))] [])
 .skip))
(.seq (.region [o 50 (.load false 2 (t 13)), o 51 (.mv (t 1)), o 52 (.mv (t 12)), o 53 (.call 45 [(t 50), (t 51), (t 52)]), o 54 (.mv (t 14)), n (.store 2 (t 10) (t 53)), o 11 (.mv (t 54))] [])
.ret))))))), [.cell 10 false 2, .tmp 11], true, none, false⟩
/-- cotterel/cotterelref10.LineOf -/
def f18 : AFun := ⟨5, (.seq (.region [o 2 (.mv (.con (.int .u32 0)))] [])
(.seq (.region [o 3 (.mv (t 0)), o 4 (.bin .quo (t 3) (.con (.int .u32 16))), o 2 (.mv (t 4))] [])
.ret)), [.tmp 2], true, none, false⟩
/-- cotterel/cotterelsame.Bytes -/
def f19 : AFun := ⟨32, (.seq (.region [o 4 (.mv (.con (.bool false)))] [])
(.seq (.seq (.region [o 6 (.mv (t 0)), o 7 (.len (t 6)), o 8 (.mv (t 1)), o 9 (.len (t 8)), o 10 (.bin .neq (t 7) (t 9))] [])
 (.cond (t 10)
 (.seq (.region [o 4 (.mv (.con (.bool false)))] [])
 .ret)
 .skip))
(.seq (.seq (.region [o 5 (.mv (.con (.int .i64 0)))] [])
 (.block 0 (.loop (.seq (.seq (.region [o 11 (.mv (t 5)), o 12 (.mv (t 0)), o 13 (.len (t 12)), o 14 (.bin .lss (t 11) (t 13)), o 15 (.mv (t 14)), g 16 (.mv (t 5)) 15 true, g 17 (.mv (t 1)) 15 true, g 18 (.len (t 17)) 15 true, g 19 (.bin .lss (t 16) (t 18)) 15 true, o 20 (.pick (t 15) (t 19) (.con (.bool false)))] [])
 (.cond (t 20)
 .skip
 (.exit 0)))
 (.seq (.block 1 (.seq (.region [o 23 (.mv (t 0)), o 24 (.mv (t 5)), o 25 (.isl 1 (t 23) (t 24)), o 26 (.load true 1 (t 25)), o 27 (.mv (t 1)), o 28 (.mv (t 5)), o 29 (.isl 1 (t 27) (t 28)), o 30 (.load true 1 (t 29)), o 31 (.bin .neq (t 26) (t 30))] [])
 (.cond (t 31)
 (.seq (.region [o 4 (.mv (.con (.bool false)))] [])
 .ret)
 .skip)))
 (.region [o 21 (.mv (t 5)), o 22 (.bin .add (t 21) (.con (.int .i64 1))), o 5 (.mv (t 22))] []))))))
(.seq (.region [o 4 (.mv (.con (.bool true)))] [])
.ret)))), [.tmp 4], true, none, false⟩
/-- cotterel/cotterelsame.Words -/
def f20 : AFun := ⟨32, (.seq (.region [o 4 (.mv (.con (.bool false)))] [])
(.seq (.seq (.region [o 6 (.mv (t 0)), o 7 (.len (t 6)), o 8 (.mv (t 1)), o 9 (.len (t 8)), o 10 (.bin .neq (t 7) (t 9))] [])
 (.cond (t 10)
 (.seq (.region [o 4 (.mv (.con (.bool false)))] [])
 .ret)
 .skip))
(.seq (.seq (.region [o 5 (.mv (.con (.int .i64 0)))] [])
 (.block 0 (.loop (.seq (.seq (.region [o 11 (.mv (t 5)), o 12 (.mv (t 0)), o 13 (.len (t 12)), o 14 (.bin .lss (t 11) (t 13)), o 15 (.mv (t 14)), g 16 (.mv (t 5)) 15 true, g 17 (.mv (t 1)) 15 true, g 18 (.len (t 17)) 15 true, g 19 (.bin .lss (t 16) (t 18)) 15 true, o 20 (.pick (t 15) (t 19) (.con (.bool false)))] [])
 (.cond (t 20)
 .skip
 (.exit 0)))
 (.seq (.block 1 (.seq (.region [o 23 (.mv (t 0)), o 24 (.mv (t 5)), o 25 (.isl 1 (t 23) (t 24)), o 26 (.load true 1 (t 25)), o 27 (.mv (t 1)), o 28 (.mv (t 5)), o 29 (.isl 1 (t 27) (t 28)), o 30 (.load true 1 (t 29)), o 31 (.bin .neq (t 26) (t 30))] [])
 (.cond (t 31)
 (.seq (.region [o 4 (.mv (.con (.bool false)))] [])
 .ret)
 .skip)))
 (.region [o 21 (.mv (t 5)), o 22 (.bin .add (t 21) (.con (.int .i64 1))), o 5 (.mv (t 22))] []))))))
(.seq (.region [o 4 (.mv (.con (.bool true)))] [])
.ret)))), [.tmp 4], true, none, false⟩
/-- cotterel/cotterelsame.Pred -/
def f21 : AFun := ⟨45, (.seq (.region [o 2 (.box (t 0)), o 3 (.box (t 1)), o 4 (.mv (.con (.bool false)))] [])
(.seq (.region [o 5 (.faddr (t 2) 0), o 6 (.load true 1 (t 5)), o 7 (.faddr (t 3) 0), o 8 (.load true 1 (t 7)), o 9 (.bin .eql (t 6) (t 8)), o 10 (.mv (t 9)), g 11 (.faddr (t 2) 1) 10 true, g 12 (.load true 1 (t 11)) 10 true, g 13 (.faddr (t 3) 1) 10 true, g 14 (.load true 1 (t 13)) 10 true, g 15 (.call 19 [(t 12), (t 14)]) 10 true, o 16 (.pick (t 10) (t 15) (.con (.bool false))), o 17 (.mv (t 16)), g 18 (.faddr (t 2) 2) 17 true, g 19 (.load true 1 (t 18)) 17 true, g 20 (.faddr (t 3) 2) 17 true, g 21 (.load true 1 (t 20)) 17 true, g 22 (.call 46 [(t 19), (t 21)]) 17 true, o 23 (.pick (t 17) (t 22) (.con (.bool false))), o 24 (.mv (t 23)), g 25 (.faddr (t 2) 3) 24 true, g 26 (.load true 1 (t 25)) 24 true, g 27 (.faddr (t 3) 3) 24 true, g 28 (.load true 1 (t 27)) 24 true, g 29 (.bin .eql (t 26) (t 28)) 24 true, o 30 (.pick (t 24) (t 29) (.con (.bool false))), o 31 (.mv (t 30)), g 32 (.faddr (t 2) 4) 31 true, g 33 (.load true 1 (t 32)) 31 true, g 34 (.faddr (t 3) 4) 31 true, g 35 (.load true 1 (t 34)) 31 true, g 36 (.call 20 [(t 33), (t 35)]) 31 true, o 37 (.pick (t 31) (t 36) (.con (.bool false))), o 38 (.mv (t 37)), g 39 (.faddr (t 2) 5) 38 true, g 40 (.load true 1 (t 39)) 38 true, g 41 (.faddr (t 3) 5) 38 true, g 42 (.load true 1 (t 41)) 38 true, g 43 (.bin .eql (t 40) (t 42)) 38 true, o 44 (.pick (t 38) (t 43) (.con (.bool false))), o 4 (.mv (t 44))] [])
.ret)), [.tmp 4], true, none, false⟩
/-- cotterel/cotterelsame.Tlbs -/
def f22 : AFun := ⟨32, (.seq (.region [o 4 (.mv (.con (.bool false)))] [])
(.seq (.seq (.region [o 6 (.mv (t 0)), o 7 (.len (t 6)), o 8 (.mv (t 1)), o 9 (.len (t 8)), o 10 (.bin .neq (t 7) (t 9))] [])
 (.cond (t 10)
 (.seq (.region [o 4 (.mv (.con (.bool false)))] [])
 .ret)
 .skip))
(.seq (.seq (.region [o 5 (.mv (.con (.int .i64 0)))] [])
 (.block 0 (.loop (.seq (.seq (.region [o 11 (.mv (t 5)), o 12 (.mv (t 0)), o 13 (.len (t 12)), o 14 (.bin .lss (t 11) (t 13)), o 15 (.mv (t 14)), g 16 (.mv (t 5)) 15 true, g 17 (.mv (t 1)) 15 true, g 18 (.len (t 17)) 15 true, g 19 (.bin .lss (t 16) (t 18)) 15 true, o 20 (.pick (t 15) (t 19) (.con (.bool false)))] [])
 (.cond (t 20)
 .skip
 (.exit 0)))
 (.seq (.block 1 (.seq (.region [o 23 (.mv (t 0)), o 24 (.mv (t 5)), o 25 (.isl 4 (t 23) (t 24)), o 26 (.load false 4 (t 25)), o 27 (.mv (t 1)), o 28 (.mv (t 5)), o 29 (.isl 4 (t 27) (t 28)), o 30 (.load false 4 (t 29)), o 31 (.aeq true [none, some .u32, some .u32, some .i64] (t 26) (t 30))] [])
 (.cond (t 31)
 (.seq (.region [o 4 (.mv (.con (.bool false)))] [])
 .ret)
 .skip)))
 (.region [o 21 (.mv (t 5)), o 22 (.bin .add (t 21) (.con (.int .i64 1))), o 5 (.mv (t 22))] []))))))
(.seq (.region [o 4 (.mv (.con (.bool true)))] [])
.ret)))), [.tmp 4], true, none, false⟩
/-- cotterel/cotterelsame.Slots -/
def f23 : AFun := ⟨32, (.seq (.region [o 4 (.mv (.con (.bool false)))] [])
(.seq (.seq (.region [o 6 (.mv (t 0)), o 7 (.len (t 6)), o 8 (.mv (t 1)), o 9 (.len (t 8)), o 10 (.bin .neq (t 7) (t 9))] [])
 (.cond (t 10)
 (.seq (.region [o 4 (.mv (.con (.bool false)))] [])
 .ret)
 .skip))
(.seq (.seq (.region [o 5 (.mv (.con (.int .i64 0)))] [])
 (.block 0 (.loop (.seq (.seq (.region [o 11 (.mv (t 5)), o 12 (.mv (t 0)), o 13 (.len (t 12)), o 14 (.bin .lss (t 11) (t 13)), o 15 (.mv (t 14)), g 16 (.mv (t 5)) 15 true, g 17 (.mv (t 1)) 15 true, g 18 (.len (t 17)) 15 true, g 19 (.bin .lss (t 16) (t 18)) 15 true, o 20 (.pick (t 15) (t 19) (.con (.bool false)))] [])
 (.cond (t 20)
 .skip
 (.exit 0)))
 (.seq (.block 1 (.seq (.region [o 23 (.mv (t 0)), o 24 (.mv (t 5)), o 25 (.isl 9 (t 23) (t 24)), o 26 (.load false 9 (t 25)), o 27 (.mv (t 1)), o 28 (.mv (t 5)), o 29 (.isl 9 (t 27) (t 28)), o 30 (.load false 9 (t 29)), o 31 (.aeq true [some .u32, some .u32, some .i64, some .u32, none, some .u32, some .u32, some .i64, some .u32] (t 26) (t 30))] [])
 (.cond (t 31)
 (.seq (.region [o 4 (.mv (.con (.bool false)))] [])
 .ret)
 .skip)))
 (.region [o 21 (.mv (t 5)), o 22 (.bin .add (t 21) (.con (.int .i64 1))), o 5 (.mv (t 22))] []))))))
(.seq (.region [o 4 (.mv (.con (.bool true)))] [])
.ret)))), [.tmp 4], true, none, false⟩
/-- cotterel/cotterelsame.Rename -/
def f24 : AFun := ⟨31, (.seq (.region [o 2 (.box (t 0)), o 3 (.box (t 1)), o 4 (.mv (.con (.bool false)))] [])
(.seq (.region [o 5 (.faddr (t 2) 0), o 6 (.load false 16 (t 5)), o 7 (.faddr (t 3) 0), o 8 (.load false 16 (t 7)), o 9 (.aeq false [some .i64, some .i64, some .i64, some .i64, some .i64, some .i64, some .i64, some .i64, some .i64, some .i64, some .i64, some .i64, some .i64, some .i64, some .i64, some .i64] (t 6) (t 8)), o 10 (.mv (t 9)), g 11 (.faddr (t 2) 16) 10 true, g 12 (.load false 16 (t 11)) 10 true, g 13 (.faddr (t 3) 16) 10 true, g 14 (.load false 16 (t 13)) 10 true, g 15 (.aeq false [some .i64, some .i64, some .i64, some .i64, some .i64, some .i64, some .i64, some .i64, some .i64, some .i64, some .i64, some .i64, some .i64, some .i64, some .i64, some .i64] (t 12) (t 14)) 10 true, o 16 (.pick (t 10) (t 15) (.con (.bool false))), o 17 (.mv (t 16)), g 18 (.faddr (t 2) 32) 17 true, g 19 (.load false 3 (t 18)) 17 true, g 20 (.faddr (t 3) 32) 17 true, g 21 (.load false 3 (t 20)) 17 true, g 22 (.call 47 [(t 19), (t 21)]) 17 true, o 23 (.pick (t 17) (t 22) (.con (.bool false))), o 24 (.mv (t 23)), g 25 (.faddr (t 2) 35) 24 true, g 26 (.load true 1 (t 25)) 24 true, g 27 (.faddr (t 3) 35) 24 true, g 28 (.load true 1 (t 27)) 24 true, g 29 (.bin .eql (t 26) (t 28)) 24 true, o 30 (.pick (t 24) (t 29) (.con (.bool false))), o 4 (.mv (t 30))] [])
.ret)), [.tmp 4], true, none, false⟩
/-- cotterel/cotterelsame.Phys -/
def f25 : AFun := ⟨17, (.seq (.region [o 2 (.box (t 0)), o 3 (.box (t 1)), o 4 (.mv (.con (.bool false)))] [])
(.seq (.region [o 5 (.faddr (t 2) 0), o 6 (.load true 1 (t 5)), o 7 (.faddr (t 3) 0), o 8 (.load true 1 (t 7)), o 9 (.call 20 [(t 6), (t 8)]), o 10 (.mv (t 9)), g 11 (.faddr (t 2) 1) 10 true, g 12 (.load true 1 (t 11)) 10 true, g 13 (.faddr (t 3) 1) 10 true, g 14 (.load true 1 (t 13)) 10 true, g 15 (.call 48 [(t 12), (t 14)]) 10 true, o 16 (.pick (t 10) (t 15) (.con (.bool false))), o 4 (.mv (t 16))] [])
.ret)), [.tmp 4], true, none, false⟩
/-- cotterel/cotterelsame.Robs -/
def f26 : AFun := ⟨32, (.seq (.region [o 4 (.mv (.con (.bool false)))] [])
(.seq (.seq (.region [o 6 (.mv (t 0)), o 7 (.len (t 6)), o 8 (.mv (t 1)), o 9 (.len (t 8)), o 10 (.bin .neq (t 7) (t 9))] [])
 (.cond (t 10)
 (.seq (.region [o 4 (.mv (.con (.bool false)))] [])
 .ret)
 .skip))
(.seq (.seq (.region [o 5 (.mv (.con (.int .i64 0)))] [])
 (.block 0 (.loop (.seq (.seq (.region [o 11 (.mv (t 5)), o 12 (.mv (t 0)), o 13 (.len (t 12)), o 14 (.bin .lss (t 11) (t 13)), o 15 (.mv (t 14)), g 16 (.mv (t 5)) 15 true, g 17 (.mv (t 1)) 15 true, g 18 (.len (t 17)) 15 true, g 19 (.bin .lss (t 16) (t 18)) 15 true, o 20 (.pick (t 15) (t 19) (.con (.bool false)))] [])
 (.cond (t 20)
 .skip
 (.exit 0)))
 (.seq (.block 1 (.seq (.region [o 23 (.mv (t 0)), o 24 (.mv (t 5)), o 25 (.isl 35 (t 23) (t 24)), o 26 (.load false 35 (t 25)), o 27 (.mv (t 1)), o 28 (.mv (t 5)), o 29 (.isl 35 (t 27) (t 28)), o 30 (.load false 35 (t 29)), o 31 (.aeq true [some .i64, some .i64, some .i64, some .i64, some .i64, some .u32, some .u32, some .i64, some .u32, none, some .u32, some .u32, some .i64, some .u32, some .i64, some .i64, none, some .i64, some .i64, some .i64, some .i64, some .i64, some .u32, some .u64, some .i64, some .i64, some .i64, some .i64, some .i64, none, some .u32, some .u32, some .i64, some .u32, none] (t 26) (t 30))] [])
 (.cond (t 31)
 (.seq (.region [o 4 (.mv (.con (.bool false)))] [])
 .ret)
 .skip)))
 (.region [o 21 (.mv (t 5)), o 22 (.bin .add (t 21) (.con (.int .i64 1))), o 5 (.mv (t 22))] []))))))
(.seq (.region [o 4 (.mv (.con (.bool true)))] [])
.ret)))), [.tmp 4], true, none, false⟩
/-- cotterel/cotterelsame.Iqs -/
def f27 : AFun := ⟨32, (.seq (.region [o 4 (.mv (.con (.bool false)))] [])
(.seq (.seq (.region [o 6 (.mv (t 0)), o 7 (.len (t 6)), o 8 (.mv (t 1)), o 9 (.len (t 8)), o 10 (.bin .neq (t 7) (t 9))] [])
 (.cond (t 10)
 (.seq (.region [o 4 (.mv (.con (.bool false)))] [])
 .ret)
 .skip))
(.seq (.seq (.region [o 5 (.mv (.con (.int .i64 0)))] [])
 (.block 0 (.loop (.seq (.seq (.region [o 11 (.mv (t 5)), o 12 (.mv (t 0)), o 13 (.len (t 12)), o 14 (.bin .lss (t 11) (t 13)), o 15 (.mv (t 14)), g 16 (.mv (t 5)) 15 true, g 17 (.mv (t 1)) 15 true, g 18 (.len (t 17)) 15 true, g 19 (.bin .lss (t 16) (t 18)) 15 true, o 20 (.pick (t 15) (t 19) (.con (.bool false)))] [])
 (.cond (t 20)
 .skip
 (.exit 0)))
 (.seq (.block 1 (.seq (.region [o 23 (.mv (t 0)), o 24 (.mv (t 5)), o 25 (.isl 32 (t 23) (t 24)), o 26 (.load false 32 (t 25)), o 27 (.mv (t 1)), o 28 (.mv (t 5)), o 29 (.isl 32 (t 27) (t 28)), o 30 (.load false 32 (t 29)), o 31 (.aeq true [some .i64, some .i64, some .i64, some .i64, some .i64, some .u32, some .u32, some .i64, some .u32, none, some .u32, some .u32, some .i64, some .u32, some .i64, some .i64, none, some .i64, some .i64, some .i64, some .i64, some .i64, some .u32, some .u64, some .i64, some .i64, some .i64, some .i64, some .i64, none, none, none] (t 26) (t 30))] [])
 (.cond (t 31)
 (.seq (.region [o 4 (.mv (.con (.bool false)))] [])
 .ret)
 .skip)))
 (.region [o 21 (.mv (t 5)), o 22 (.bin .add (t 21) (.con (.int .i64 1))), o 5 (.mv (t 22))] []))))))
(.seq (.region [o 4 (.mv (.con (.bool true)))] [])
.ret)))), [.tmp 4], true, none, false⟩
/-- cotterel/cotterelsame.Lqs -/
def f28 : AFun := ⟨32, (.seq (.region [o 4 (.mv (.con (.bool false)))] [])
(.seq (.seq (.region [o 6 (.mv (t 0)), o 7 (.len (t 6)), o 8 (.mv (t 1)), o 9 (.len (t 8)), o 10 (.bin .neq (t 7) (t 9))] [])
 (.cond (t 10)
 (.seq (.region [o 4 (.mv (.con (.bool false)))] [])
 .ret)
 .skip))
(.seq (.seq (.region [o 5 (.mv (.con (.int .i64 0)))] [])
 (.block 0 (.loop (.seq (.seq (.region [o 11 (.mv (t 5)), o 12 (.mv (t 0)), o 13 (.len (t 12)), o 14 (.bin .lss (t 11) (t 13)), o 15 (.mv (t 14)), g 16 (.mv (t 5)) 15 true, g 17 (.mv (t 1)) 15 true, g 18 (.len (t 17)) 15 true, g 19 (.bin .lss (t 16) (t 18)) 15 true, o 20 (.pick (t 15) (t 19) (.con (.bool false)))] [])
 (.cond (t 20)
 .skip
 (.exit 0)))
 (.seq (.block 1 (.seq (.region [o 23 (.mv (t 0)), o 24 (.mv (t 5)), o 25 (.isl 8 (t 23) (t 24)), o 26 (.load false 8 (t 25)), o 27 (.mv (t 1)), o 28 (.mv (t 5)), o 29 (.isl 8 (t 27) (t 28)), o 30 (.load false 8 (t 29)), o 31 (.aeq true [some .u64, some .u32, some .u32, some .i64, none, none, some .u64, none] (t 26) (t 30))] [])
 (.cond (t 31)
 (.seq (.region [o 4 (.mv (.con (.bool false)))] [])
 .ret)
 .skip)))
 (.region [o 21 (.mv (t 5)), o 22 (.bin .add (t 21) (.con (.int .i64 1))), o 5 (.mv (t 22))] []))))))
(.seq (.region [o 4 (.mv (.con (.bool true)))] [])
.ret)))), [.tmp 4], true, none, false⟩
/-- cotterel/cotterelsame.Sqs -/
def f29 : AFun := ⟨32, (.seq (.region [o 4 (.mv (.con (.bool false)))] [])
(.seq (.seq (.region [o 6 (.mv (t 0)), o 7 (.len (t 6)), o 8 (.mv (t 1)), o 9 (.len (t 8)), o 10 (.bin .neq (t 7) (t 9))] [])
 (.cond (t 10)
 (.seq (.region [o 4 (.mv (.con (.bool false)))] [])
 .ret)
 .skip))
(.seq (.seq (.region [o 5 (.mv (.con (.int .i64 0)))] [])
 (.block 0 (.loop (.seq (.seq (.region [o 11 (.mv (t 5)), o 12 (.mv (t 0)), o 13 (.len (t 12)), o 14 (.bin .lss (t 11) (t 13)), o 15 (.mv (t 14)), g 16 (.mv (t 5)) 15 true, g 17 (.mv (t 1)) 15 true, g 18 (.len (t 17)) 15 true, g 19 (.bin .lss (t 16) (t 18)) 15 true, o 20 (.pick (t 15) (t 19) (.con (.bool false)))] [])
 (.cond (t 20)
 .skip
 (.exit 0)))
 (.seq (.block 1 (.seq (.region [o 23 (.mv (t 0)), o 24 (.mv (t 5)), o 25 (.isl 5 (t 23) (t 24)), o 26 (.load false 5 (t 25)), o 27 (.mv (t 1)), o 28 (.mv (t 5)), o 29 (.isl 5 (t 27) (t 28)), o 30 (.load false 5 (t 29)), o 31 (.aeq true [some .u64, some .u32, some .u32, some .i64, none] (t 26) (t 30))] [])
 (.cond (t 31)
 (.seq (.region [o 4 (.mv (.con (.bool false)))] [])
 .ret)
 .skip)))
 (.region [o 21 (.mv (t 5)), o 22 (.bin .add (t 21) (.con (.int .i64 1))), o 5 (.mv (t 22))] []))))))
(.seq (.region [o 4 (.mv (.con (.bool true)))] [])
.ret)))), [.tmp 4], true, none, false⟩
/-- cotterel/cotterelsame.Sbs -/
def f30 : AFun := ⟨32, (.seq (.region [o 4 (.mv (.con (.bool false)))] [])
(.seq (.seq (.region [o 6 (.mv (t 0)), o 7 (.len (t 6)), o 8 (.mv (t 1)), o 9 (.len (t 8)), o 10 (.bin .neq (t 7) (t 9))] [])
 (.cond (t 10)
 (.seq (.region [o 4 (.mv (.con (.bool false)))] [])
 .ret)
 .skip))
(.seq (.seq (.region [o 5 (.mv (.con (.int .i64 0)))] [])
 (.block 0 (.loop (.seq (.seq (.region [o 11 (.mv (t 5)), o 12 (.mv (t 0)), o 13 (.len (t 12)), o 14 (.bin .lss (t 11) (t 13)), o 15 (.mv (t 14)), g 16 (.mv (t 5)) 15 true, g 17 (.mv (t 1)) 15 true, g 18 (.len (t 17)) 15 true, g 19 (.bin .lss (t 16) (t 18)) 15 true, o 20 (.pick (t 15) (t 19) (.con (.bool false)))] [])
 (.cond (t 20)
 .skip
 (.exit 0)))
 (.seq (.block 1 (.seq (.region [o 23 (.mv (t 0)), o 24 (.mv (t 5)), o 25 (.isl 3 (t 23) (t 24)), o 26 (.load false 3 (t 25)), o 27 (.mv (t 1)), o 28 (.mv (t 5)), o 29 (.isl 3 (t 27) (t 28)), o 30 (.load false 3 (t 29)), o 31 (.aeq true [some .u32, some .u32, some .i64] (t 26) (t 30))] [])
 (.cond (t 31)
 (.seq (.region [o 4 (.mv (.con (.bool false)))] [])
 .ret)
 .skip)))
 (.region [o 21 (.mv (t 5)), o 22 (.bin .add (t 21) (.con (.int .i64 1))), o 5 (.mv (t 22))] []))))))
(.seq (.region [o 4 (.mv (.con (.bool true)))] [])
.ret)))), [.tmp 4], true, none, false⟩
/-- cotterel/cotterelsame.Flights -/
def f31 : AFun := ⟨32, (.seq (.region [o 4 (.mv (.con (.bool false)))] [])
(.seq (.seq (.region [o 6 (.mv (t 0)), o 7 (.len (t 6)), o 8 (.mv (t 1)), o 9 (.len (t 8)), o 10 (.bin .neq (t 7) (t 9))] [])
 (.cond (t 10)
 (.seq (.region [o 4 (.mv (.con (.bool false)))] [])
 .ret)
 .skip))
(.seq (.seq (.region [o 5 (.mv (.con (.int .i64 0)))] [])
 (.block 0 (.loop (.seq (.seq (.region [o 11 (.mv (t 5)), o 12 (.mv (t 0)), o 13 (.len (t 12)), o 14 (.bin .lss (t 11) (t 13)), o 15 (.mv (t 14)), g 16 (.mv (t 5)) 15 true, g 17 (.mv (t 1)) 15 true, g 18 (.len (t 17)) 15 true, g 19 (.bin .lss (t 16) (t 18)) 15 true, o 20 (.pick (t 15) (t 19) (.con (.bool false)))] [])
 (.cond (t 20)
 .skip
 (.exit 0)))
 (.seq (.block 1 (.seq (.region [o 23 (.mv (t 0)), o 24 (.mv (t 5)), o 25 (.isl 35 (t 23) (t 24)), o 26 (.load false 35 (t 25)), o 27 (.mv (t 1)), o 28 (.mv (t 5)), o 29 (.isl 35 (t 27) (t 28)), o 30 (.load false 35 (t 29)), o 31 (.aeq true [some .i64, some .i64, some .i64, some .i64, some .i64, some .u32, some .u32, some .i64, some .u32, none, some .u32, some .u32, some .i64, some .u32, some .i64, some .i64, none, some .i64, some .i64, some .i64, some .i64, some .i64, some .u32, some .u64, some .i64, some .i64, some .i64, some .i64, some .i64, some .i64, some .i64, some .u32, some .u32, some .i64, some .u32] (t 26) (t 30))] [])
 (.cond (t 31)
 (.seq (.region [o 4 (.mv (.con (.bool false)))] [])
 .ret)
 .skip)))
 (.region [o 21 (.mv (t 5)), o 22 (.bin .add (t 21) (.con (.int .i64 1))), o 5 (.mv (t 22))] []))))))
(.seq (.region [o 4 (.mv (.con (.bool true)))] [])
.ret)))), [.tmp 4], true, none, false⟩
/-- cotterel/cotterelsame.Cache -/
def f32 : AFun := ⟨78, (.seq (.region [o 2 (.box (t 0)), o 3 (.box (t 1)), o 4 (.mv (.con (.bool false)))] [])
(.seq (.seq (.region [o 7 (.faddr (t 2) 0), o 8 (.load true 1 (t 7)), o 9 (.len (t 8)), o 10 (.faddr (t 3) 0), o 11 (.load true 1 (t 10)), o 12 (.len (t 11)), o 13 (.bin .neq (t 9) (t 12))] [])
 (.cond (t 13)
 (.seq (.region [o 4 (.mv (.con (.bool false)))] [])
 .ret)
 .skip))
(.seq (.seq (.region [o 5 (.mv (.con (.int .i64 0)))] [])
 (.block 0 (.loop (.seq (.seq (.region [o 14 (.mv (t 5)), o 15 (.faddr (t 2) 0), o 16 (.load true 1 (t 15)), o 17 (.len (t 16)), o 18 (.bin .lss (t 14) (t 17)), o 19 (.mv (t 18)), g 20 (.mv (t 5)) 19 true, g 21 (.faddr (t 3) 0) 19 true, g 22 (.load true 1 (t 21)) 19 true, g 23 (.len (t 22)) 19 true, g 24 (.bin .lss (t 20) (t 23)) 19 true, o 25 (.pick (t 19) (t 24) (.con (.bool false)))] [])
 (.cond (t 25)
 .skip
 (.exit 0)))
 (.seq (.block 1 (.seq (.seq (.region [o 28 (.faddr (t 2) 0), o 29 (.load true 1 (t 28)), o 30 (.mv (t 5)), o 31 (.isl 1 (t 29) (t 30)), o 32 (.load true 1 (t 31)), o 33 (.len (t 32)), o 34 (.faddr (t 3) 0), o 35 (.load true 1 (t 34)), o 36 (.mv (t 5)), o 37 (.isl 1 (t 35) (t 36)), o 38 (.load true 1 (t 37)), o 39 (.len (t 38)), o 40 (.bin .neq (t 33) (t 39))] [])
 (.cond (t 40)
 (.seq (.region [o 4 (.mv (.con (.bool false)))] [])
 .ret)
 .skip))
 (.seq (.region [o 6 (.mv (.con (.int .i64 0)))] [])
 (.block 2 (.loop (.seq (.seq (.region [o 41 (.mv (t 6)), o 42 (.faddr (t 2) 0), o 43 (.load true 1 (t 42)), o 44 (.mv (t 5)), o 45 (.isl 1 (t 43) (t 44)), o 46 (.load true 1 (t 45)), o 47 (.len (t 46)), o 48 (.bin .lss (t 41) (t 47)), o 49 (.mv (t 48)), g 50 (.mv (t 6)) 49 true, g 51 (.faddr (t 3) 0) 49 true, g 52 (.load true 1 (t 51)) 49 true, g 53 (.mv (t 5)) 49 true, g 54 (.isl 1 (t 52) (t 53)) 49 true, g 55 (.load true 1 (t 54)) 49 true, g 56 (.len (t 55)) 49 true, g 57 (.bin .lss (t 50) (t 56)) 49 true, o 58 (.pick (t 49) (t 57) (.con (.bool false)))] [])
 (.cond (t 58)
 .skip
 (.exit 2)))
 (.seq (.block 3 (.seq (.region [o 61 (.faddr (t 2) 0), o 62 (.load true 1 (t 61)), o 63 (.mv (t 5)), o 64 (.isl 1 (t 62) (t 63)), o 65 (.load true 1 (t 64)), o 66 (.mv (t 6)), o 67 (.isl 19 (t 65) (t 66)), o 68 (.load false 19 (t 67)), o 69 (.faddr (t 3) 0), o 70 (.load true 1 (t 69)), o 71 (.mv (t 5)), o 72 (.isl 1 (t 70) (t 71)), o 73 (.load true 1 (t 72)), o 74 (.mv (t 6)), o 75 (.isl 19 (t 73) (t 74)), o 76 (.load false 19 (t 75)), o 77 (.aeq true [some .i64, some .u32, some .u8, some .u8, some .u8, some .u8, some .u8, some .u8, some .u8, some .u8, some .u8, some .u8, some .u8, some .u8, some .u8, some .u8, some .u8, some .u8, some .i64] (t 68) (t 76))] [])
 (.cond (t 77)
 (.seq (.region [o 4 (.mv (.con (.bool false)))] [])
 .ret)
 .skip)))
 (.region [o 59 (.mv (t 6)), o 60 (.bin .add (t 59) (.con (.int .i64 1))), o 6 (.mv (t 60))] []))))))))
 (.region [o 26 (.mv (t 5)), o 27 (.bin .add (t 26) (.con (.int .i64 1))), o 5 (.mv (t 27))] []))))))
(.seq (.region [o 4 (.mv (.con (.bool true)))] [])
.ret)))), [.tmp 4], true, none, false⟩
/-- cotterel/cotterelref39.New -/
def f33 : AFun := ⟨35, (.seq (.region [o 4 (.alloc [(.imm true 0 [])])] [])
(.seq (.region [o 5 (.alloc [(.imm true 0 [])])] [])
(.seq (.seq (.region [o 6 (.mv (.con (.int .i64 0)))] [])
 (.block 0 (.loop (.seq (.seq (.region [o 9 (.mv (t 6)), o 10 (.mv (t 0)), o 11 (.mx [(t 10), (.con (.int .i64 1))]), o 12 (.mn [(t 11), (.con (.int .i64 8))]), o 13 (.bin .lss (t 9) (t 12))] [])
 (.cond (t 13)
 .skip
 (.exit 0)))
 (.seq (.block 1 (.seq (.region [o 7 (.mv (.con (.imm true 0 [])))] [])
 (.seq (.seq (.region [o 8 (.mv (.con (.int .i64 0)))] [])
 (.block 2 (.loop (.seq (.seq (.region [o 16 (.mv (t 8)), o 17 (.mv (t 1)), o 18 (.mx [(t 17), (.con (.int .i64 1))]), o 19 (.mn [(t 18), (.con (.int .i64 4))]), o 20 (.bin .lss (t 16) (t 19))] [])
 (.cond (t 20)
 .skip
 (.exit 2)))
 (.seq (.block 3 (.region [o 23 (.mv (t 7)), o 24 (.mv (t 8)), o 25 (.build [(.int .i64 0), (.int .u32 0), (.int .u8 0), (.int .u8 0), (.int .u8 0), (.int .u8 0), (.int .u8 0), (.int .u8 0), (.int .u8 0), (.int .u8 0), (.int .u8 0), (.int .u8 0), (.int .u8 0), (.int .u8 0), (.int .u8 0), (.int .u8 0), (.int .u8 0), (.int .u8 0), (.int .i64 0)] [(18, 1, (t 24))]), o 26 (.bsl [(.int .i64 0), (.int .u32 0), (.int .u8 0), (.int .u8 0), (.int .u8 0), (.int .u8 0), (.int .u8 0), (.int .u8 0), (.int .u8 0), (.int .u8 0), (.int .u8 0), (.int .u8 0), (.int .u8 0), (.int .u8 0), (.int .u8 0), (.int .u8 0), (.int .u8 0), (.int .u8 0), (.int .i64 0)] 1 19 [(0, 19, (t 25))]), o 27 (.append 19 40 (t 23) (t 26)), o 7 (.mv (t 27))] []))
 (.region [o 21 (.mv (t 8)), o 22 (.bin .add (t 21) (.con (.int .i64 1))), o 8 (.mv (t 22))] []))))))
 (.region [o 28 (.faddr (t 5) 0), o 29 (.load true 1 (t 28)), o 30 (.mv (t 7)), o 31 (.bsl [(.imm true 0 [])] 1 1 [(0, 1, (t 30))]), o 32 (.append 1 24 (t 29) (t 31)), o 33 (.faddr (t 5) 0), n (.store 1 (t 33) (t 32))] []))))
 (.region [o 14 (.mv (t 6)), o 15 (.bin .add (t 14) (.con (.int .i64 1))), o 6 (.mv (t 15))] []))))))
(.seq (.region [o 34 (.load false 1 (t 5)), n (.store 1 (t 4) (t 34))] [])
.ret)))), [.cell 4 false 1], true, none, false⟩
/-- cotterel/coh.each -/
def f35 : AFun := ⟨38, (.seq (.region [o 2 (.box (t 0)), o 4 (.mv (.con (.bool false)))] [])
(.seq (.seq (.region [o 11 (.faddr (t 2) 1), o 12 (.load true 1 (t 11)), o 13 (.len (t 12)), o 14 (.mv (.con (.int .i64 0)))] [])
 (.block 0 (.loop (.seq (.region [o 15 (.bin .lss (t 14) (t 13))] [])
 (.seq (.cond (t 15)
 .skip
 (.exit 0))
 (.seq (.block 1 (.seq (.region [o 16 (.isl 1 (t 12) (t 14)), o 17 (.load false 1 (t 16)), o 6 (.alloc [(.imm true 0 [])]), n (.store 1 (t 6) (t 17))] [])
 (.seq (.region [o 18 (.faddr (t 6) 0), o 19 (.load true 1 (t 18)), o 20 (.len (t 19)), o 21 (.mv (.con (.int .i64 0)))] [])
 (.block 2 (.loop (.seq (.region [o 22 (.bin .lss (t 21) (t 20))] [])
 (.seq (.cond (t 22)
 .skip
 (.exit 2))
 (.seq (.block 3 (.seq (.region [o 23 (.isl 1 (t 19) (t 21)), o 24 (.load true 1 (t 23)), o 8 (.mv (t 24))] [])
 (.seq (.region [o 25 (.mv (t 8)), o 26 (.len (t 25)), o 27 (.mv (.con (.int .i64 0)))] [])
 (.block 4 (.loop (.seq (.region [o 28 (.bin .lss (t 27) (t 26))] [])
 (.seq (.cond (t 28)
 .skip
 (.exit 4))
 (.seq (.block 5 (.seq (.region [o 29 (.isl 19 (t 25) (t 27)), o 30 (.load false 19 (t 29)), o 10 (.alloc [(.int .i64 0), (.int .u32 0), (.int .u8 0), (.int .u8 0), (.int .u8 0), (.int .u8 0), (.int .u8 0), (.int .u8 0), (.int .u8 0), (.int .u8 0), (.int .u8 0), (.int .u8 0), (.int .u8 0), (.int .u8 0), (.int .u8 0), (.int .u8 0), (.int .u8 0), (.int .u8 0), (.int .i64 0)]), n (.store 19 (t 10) (t 30))] [])
 (.seq (.region [o 31 (.mv (t 1)), o 32 (.load false 19 (t 10)), o 33 (.callv (t 31) [(t 32)]), o 34 (.un .not (t 33))] [])
 (.cond (t 34)
 (.seq (.region [o 4 (.mv (.con (.bool false)))] [])
 .ret)
 .skip))))
 (.region [o 35 (.bin .add (t 27) (.con (.int .i64 1))), o 27 (.mv (t 35))] [])))))))))
 (.region [o 36 (.bin .add (t 21) (.con (.int .i64 1))), o 21 (.mv (t 36))] [])))))))))
 (.region [o 37 (.bin .add (t 14) (.con (.int .i64 1))), o 14 (.mv (t 37))] [])))))))
(.seq (.region [o 4 (.mv (.con (.bool true)))] [])
.ret))), [.tmp 4], false, none, false⟩
/-- cotterel/coh.View$1 -/
def f36 : AFun := ⟨22, (.seq (.region [o 2 (.box (t 0)), o 3 (.mv (.con (.bool false)))] [])
(.seq (.seq (.region [o 4 (.faddr (t 2) 0), o 5 (.load true 1 (t 4)), o 6 (.bin .eql (t 5) (.con (.int .i64 3))), o 7 (.mv (t 6)), g 8 (.load true 1 (t 1)) 7 true, g 9 (.faddr (t 2) 1) 7 true, g 10 (.load true 1 (t 9)) 7 true, g 11 (.call 37 [(t 8), (t 10)]) 7 true, o 12 (.pick (t 7) (t 11) (.con (.bool false)))] [])
 (.cond (t 12)
 (.region [o 13 (.load true 1 (t 1)), o 14 (.faddr (t 2) 1), o 15 (.load true 1 (t 14)), o 16 (.conv .i64 (t 15)), o 17 (.bin .mul (t 16) (.con (.int .i64 16))), o 18 (.slSl 1 (t 13) (some (t 17)) none none), o 19 (.faddr (t 2) 2), o 20 (.slArr 16 1 (t 19) none none none), o 21 (.copy 1 (t 18) (t 20))] [])
 .skip))
(.seq (.region [o 3 (.mv (.con (.bool true)))] [])
.ret))), [.tmp 3], false, none, false⟩
/-- cotterel/coh.lies -/
def f37 : AFun := ⟨13, (.seq (.region [o 4 (.mv (.con (.bool false)))] [])
(.seq (.region [o 5 (.mv (t 1)), o 6 (.conv .u64 (t 5)), o 7 (.bin .mul (t 6) (.con (.int .u64 16))), o 8 (.bin .add (t 7) (.con (.int .u64 16))), o 9 (.mv (t 0)), o 10 (.len (t 9)), o 11 (.conv .u64 (t 10)), o 12 (.bin .leq (t 8) (t 11)), o 4 (.mv (t 12))] [])
.ret)), [.tmp 4], true, none, false⟩
/-- cotterel/sb.Pop -/
def f38 : AFun := ⟨18, (.seq (.region [o 2 (.mv (.con (.imm true 0 []))), o 3 (.alloc [(.int .u32 0), (.int .u32 0), (.int .i64 0)]), o 4 (.mv (.con (.bool false)))] [])
(.seq (.seq (.region [o 5 (.mv (t 0)), o 6 (.len (t 5)), o 7 (.bin .eql (t 6) (.con (.int .i64 0)))] [])
 (.cond (t 7)
 (.seq (.region [o 8 (.build [(.int .u32 0), (.int .u32 0), (.int .i64 0)] []), o 2 (.mv (.con (.imm true 0 []))), n (.store 3 (t 3) (t 8)), o 4 (.mv (.con (.bool false)))] [])
 .ret)
 .skip))
(.seq (.region [o 9 (.mv (t 0)), o 10 (.mv (t 0)), o 11 (.len (t 10)), o 12 (.mv (t 0)), o 13 (.len (t 12)), o 14 (.slSl 3 (t 9) (some (.con (.int .i64 1))) (some (t 11)) (some (t 13))), o 15 (.mv (t 0)), o 16 (.isl 3 (t 15) (.con (.int .i64 0))), o 17 (.load false 3 (t 16)), o 2 (.mv (t 14)), n (.store 3 (t 3) (t 17)), o 4 (.mv (.con (.bool true)))] [])
.ret))), [.tmp 2, .cell 3 false 3, .tmp 4], false, none, true⟩
/-- cotterel/coh.Write -/
def f39 : AFun := ⟨54, (.seq (.region [o 5 (.box (t 0)), o 10 (.alloc [(.imm true 0 []), (.imm true 0 [])]), o 11 (.mv (.con (.bool false)))] [])
(.seq (.seq (.region [o 16 (.load false 2 (t 5)), o 17 (.mv (t 1)), o 18 (.mv (t 2)), o 19 (.mv (t 3)), o 20 (.call 49 [(t 16), (t 17), (t 18), (t 19)]), o 21 (.un .not (t 20))] [])
 (.cond (t 21)
 (.seq (.region [o 22 (.load false 2 (t 5)), n (.store 2 (t 10) (t 22)), o 11 (.mv (.con (.bool false)))] [])
 .ret)
 .skip))
(.seq (.region [o 23 (.mv (t 2)), o 24 (.call 40 [(t 23)]), o 12 (.mv (t 24))] [])
(.seq (.region [o 26 (.load false 2 (t 5)), o 27 (.mv (t 1)), o 28 (.mv (t 12)), o 29 (.call 50 [(t 26), (t 27), (t 28), (.con (.int .i64 2))]), o 25 (.mv (t 29)), o 30 (.extract (t 25) 0), o 31 (.extract (t 25) 1), n (.store 2 (t 5) (t 30)), o 13 (.mv (t 31))] [])
(.seq (.seq (.region [o 33 (.faddr (t 5) 1), o 34 (.load true 1 (t 33)), o 35 (.mv (t 1)), o 36 (.isl 1 (t 34) (t 35)), o 37 (.load false 1 (t 36)), o 38 (.mv (t 2)), o 39 (.mv (t 3)), o 40 (.mv (t 4)), o 41 (.call 51 [(t 37), (t 38), (t 39), (t 40)]), o 32 (.mv (t 41)), o 42 (.extract (t 32) 0), o 43 (.extract (t 32) 1), o 14 (.alloc [(.imm true 0 [])]), n (.store 1 (t 14) (t 42)), o 15 (.mv (t 43))] [])
 (.seq (.region [o 44 (.mv (t 15))] [])
 (.cond (t 44)
 (.region [o 45 (.load false 2 (t 5)), o 46 (.mv (t 1)), o 47 (.load false 1 (t 14)), o 48 (.call 52 [(t 45), (t 46), (t 47)]), n (.store 2 (t 5) (t 48))] [])
 .skip)))
(.seq (.region [o 49 (.load false 2 (t 5)), o 50 (.mv (t 1)), o 51 (.mv (t 12)), o 52 (.call 53 [(t 49), (t 50), (t 51)]), o 53 (.mv (t 13)), n (.store 2 (t 10) (t 52)), o 11 (.mv (t 53))] [])
.ret)))))), [.cell 10 false 2, .tmp 11], true, none, false⟩
/-- cotterel/mem.LineOf -/
def f40 : AFun := ⟨5, (.seq (.region [o 2 (.mv (.con (.int .u32 0)))] [])
(.seq (.region [o 3 (.mv (t 0)), o 4 (.bin .quo (t 3) (.con (.int .u32 16))), o 2 (.mv (t 4))] [])
.ret)), [.tmp 2], true, none, false⟩
/-- cotterel/cotterelref41.May -/
def f41 : AFun := ⟨44, (.seq (.region [o 4 (.box (t 0)), o 8 (.mv (.con (.bool false)))] [])
(.seq (.seq (.region [o 9 (.mv (t 1)), o 10 (.bin .lss (t 9) (.con (.int .i64 0))), o 11 (.mv (t 10)), g 12 (.mv (t 1)) 11 false, g 13 (.faddr (t 4) 1) 11 false, g 14 (.load true 1 (t 13)) 11 false, g 15 (.len (t 14)) 11 false, g 16 (.bin .geq (t 12) (t 15)) 11 false, o 17 (.pick (t 11) (.con (.bool true)) (t 16)), o 18 (.mv (t 17)), g 19 (.mv (t 3)) 18 false, g 20 (.bin .neq (t 19) (.con (.int .i64 1))) 18 false, g 21 (.mv (t 20)) 18 false, g 22 (.mv (t 3)) 21 true, g 23 (.bin .neq (t 22) (.con (.int .i64 2))) 21 true, g 24 (.pick (t 21) (t 23) (.con (.bool false))) 18 false, g 25 (.mv (t 24)) 18 false, g 26 (.mv (t 3)) 25 true, g 27 (.bin .neq (t 26) (.con (.int .i64 4))) 25 true, g 28 (.pick (t 25) (t 27) (.con (.bool false))) 18 false, o 29 (.pick (t 18) (.con (.bool true)) (t 28))] [])
 (.cond (t 29)
 (.seq (.region [o 8 (.mv (.con (.bool false)))] [])
 .ret)
 .skip))
(.seq (.region [o 30 (.mv (t 2)), o 31 (.bin .rem (t 30) (.con (.int .u32 16))), o 32 (.conv .i64 (t 31)), o 33 (.mv (t 3)), o 34 (.bin .add (t 32) (t 33)), o 35 (.bin .leq (t 34) (.con (.int .i64 16))), o 36 (.mv (t 35)), g 37 (.faddr (t 4) 0) 36 true, g 38 (.load true 1 (t 37)) 36 true, g 39 (.mv (t 2)) 36 true, g 40 (.mv (t 3)) 36 true, g 41 (.call 54 [(t 38), (t 39), (t 40)]) 36 true, g 42 (.bin .eql (t 41) (.con (.int .i64 0))) 36 true, o 43 (.pick (t 36) (t 42) (.con (.bool false))), o 8 (.mv (t 43))] [])
.ret))), [.tmp 8], true, none, false⟩
/-- cotterel/cotterelref41.ask -/
def f42 : AFun := ⟨24, (.seq (.region [o 4 (.box (t 0)), o 8 (.alloc [(.imm true 0 []), (.imm true 0 [])]), o 9 (.mv (.con (.bool false)))] [])
(.seq (.region [o 11 (.load false 2 (t 4)), o 12 (.mv (t 1)), o 13 (.mv (t 2)), o 14 (.mv (t 3)), o 15 (.call 55 [(t 11), (t 12), (t 13), (t 14)]), o 10 (.alloc [(.int .i64 0), (.int .u32 0)]), n (.store 2 (t 10) (t 15))] [])
(.seq (.seq (.region [o 16 (.faddr (t 10) 0), o 17 (.load true 1 (t 16)), o 18 (.bin .eql (t 17) (.con (.int .i64 0)))] [])
 (.cond (t 18)
 (.seq (.region [o 19 (.load false 2 (t 4)), n (.store 2 (t 8) (t 19)), o 9 (.mv (.con (.bool true)))] [])
 .ret)
 .skip))
(.seq (.region [o 20 (.load false 2 (t 4)), o 21 (.mv (t 1)), o 22 (.load false 2 (t 10)), o 23 (.call 56 [(t 20), (t 21), (t 22)]), n (.store 2 (t 8) (t 23)), o 9 (.mv (.con (.bool false)))] [])
.ret)))), [.cell 8 false 2, .tmp 9], true, none, false⟩
/-- cotterel/cotterelref39.Write -/
def f43 : AFun := ⟨91, (.seq (.region [o 4 (.box (t 0)), o 8 (.alloc [(.imm true 0 [])]), o 9 (.mv (.con (.bool false)))] [])
(.seq (.region [o 16 (.load false 1 (t 4)), o 17 (.mv (t 1)), o 18 (.bin .quo (t 17) (.con (.int .u32 16))), o 19 (.call 57 [(t 16), (t 18)]), o 15 (.mv (t 19)), o 20 (.extract (t 15) 0), o 21 (.extract (t 15) 1), o 22 (.extract (t 15) 2), o 10 (.mv (t 20)), o 11 (.mv (t 21)), o 12 (.mv (t 22))] [])
(.seq (.seq (.region [o 23 (.mv (t 12)), o 24 (.un .not (t 23)), o 25 (.mv (t 24)), g 26 (.mv (t 1)) 25 false, g 27 (.mv (t 2)) 25 false, g 28 (.call 58 [(t 26), (t 27)]) 25 false, g 29 (.un .not (t 28)) 25 false, o 30 (.pick (t 25) (.con (.bool true)) (t 29)), o 31 (.mv (t 30)), g 32 (.faddr (t 4) 0) 31 false, g 33 (.load true 1 (t 32)) 31 false, g 34 (.mv (t 10)) 31 false, g 35 (.isl 1 (t 33) (t 34)) 31 false, g 36 (.load true 1 (t 35)) 31 false, g 37 (.mv (t 11)) 31 false, g 38 (.isl 19 (t 36) (t 37)) 31 false, g 39 (.faddr (t 38) 0) 31 false, g 40 (.load true 1 (t 39)) 31 false, g 41 (.bin .neq (t 40) (.con (.int .i64 2))) 31 false, g 42 (.mv (t 41)) 31 false, g 43 (.faddr (t 4) 0) 42 true, g 44 (.load true 1 (t 43)) 42 true, g 45 (.mv (t 10)) 42 true, g 46 (.isl 1 (t 44) (t 45)) 42 true, g 47 (.load true 1 (t 46)) 42 true, g 48 (.mv (t 11)) 42 true, g 49 (.isl 19 (t 47) (t 48)) 42 true, g 50 (.faddr (t 49) 0) 42 true, g 51 (.load true 1 (t 50)) 42 true, g 52 (.bin .neq (t 51) (.con (.int .i64 3))) 42 true, g 53 (.pick (t 42) (t 52) (.con (.bool false))) 31 false, o 54 (.pick (t 31) (.con (.bool true)) (t 53))] [])
 (.cond (t 54)
 (.seq (.region [o 55 (.build [(.imm true 0 [])] []), n (.store 1 (t 8) (t 55)), o 9 (.mv (.con (.bool false)))] [])
 .ret)
 .skip))
(.seq (.region [o 56 (.load false 1 (t 4)), o 57 (.call 59 [(t 56)]), o 13 (.alloc [(.imm true 0 [])]), n (.store 1 (t 13) (t 57))] [])
(.seq (.seq (.region [o 14 (.mv (.con (.int .i64 0)))] [])
 (.block 0 (.loop (.seq (.seq (.region [o 58 (.mv (t 14)), o 59 (.mv (t 2)), o 60 (.bin .lss (t 58) (t 59))] [])
 (.cond (t 60)
 .skip
 (.exit 0)))
 (.seq (.block 1 (.seq (.region [o 63 (.faddr (t 13) 0), o 64 (.load true 1 (t 63)), o 65 (.mv (t 10)), o 66 (.isl 1 (t 64) (t 65)), o 67 (.load true 1 (t 66)), o 68 (.mv (t 11)), o 69 (.mv (t 1)), o 70 (.bin .rem (t 69) (.con (.int .u32 16))), o 71 (.conv .i64 (t 70)), o 72 (.mv (t 14)), o 73 (.bin .add (t 71) (t 72)), o 74 (.mv (t 3)), o 75 (.bin .rem (t 74) (.con (.int .u32 256))), o 76 (.conv .u8 (t 75)), o 77 (.isl 19 (t 67) (t 68)), o 78 (.faddr (t 77) 2), o 79 (.iarr 16 1 (t 78) (t 73)), n (.store 1 (t 79) (t 76))] [])
 (.region [o 80 (.mv (t 3)), o 81 (.bin .quo (t 80) (.con (.int .u32 256))), o 3 (.mv (t 81))] [])))
 (.region [o 61 (.mv (t 14)), o 62 (.bin .add (t 61) (.con (.int .i64 1))), o 14 (.mv (t 62))] []))))))
(.seq (.region [o 82 (.faddr (t 13) 0), o 83 (.load true 1 (t 82)), o 84 (.mv (t 10)), o 85 (.isl 1 (t 83) (t 84)), o 86 (.load true 1 (t 85)), o 87 (.mv (t 11)), o 88 (.isl 19 (t 86) (t 87)), o 89 (.faddr (t 88) 0), n (.store 1 (t 89) (.con (.int .i64 3)))] [])
(.seq (.region [o 90 (.load false 1 (t 13)), n (.store 1 (t 8) (t 90)), o 9 (.mv (.con (.bool true)))] [])
.ret))))))), [.cell 8 false 1, .tmp 9], true, none, false⟩
/-- cotterel/cotterelref41.with -/
def f44 : AFun := ⟨20, (.seq (.region [o 3 (.box (t 0)), o 5 (.box (t 2)), o 6 (.alloc [(.imm true 0 []), (.imm true 0 [])])] [])
(.seq (.region [o 8 (.bsl [] 0 1 []), o 9 (.faddr (t 3) 1), o 10 (.load true 1 (t 9)), o 11 (.append 1 24 (t 8) (t 10)), o 7 (.mv (t 11))] [])
(.seq (.region [o 12 (.mv (t 7)), o 13 (.mv (t 1)), o 14 (.load false 1 (t 5)), o 15 (.isl 1 (t 12) (t 13)), n (.store 1 (t 15) (t 14))] [])
(.seq (.region [o 16 (.faddr (t 3) 0), o 17 (.load true 1 (t 16)), o 18 (.mv (t 7)), o 19 (.build [(.imm true 0 []), (.imm true 0 [])] [(0, 1, (t 17)), (1, 1, (t 18))]), n (.store 2 (t 6) (t 19))] [])
.ret)))), [.cell 6 false 2], true, none, false⟩
/-- cotterel/cotterelref41.touched -/
def f45 : AFun := ⟨35, (.seq (.region [o 3 (.box (t 0)), o 6 (.alloc [(.imm true 0 []), (.imm true 0 [])])] [])
(.seq (.region [o 11 (.faddr (t 3) 1), o 12 (.load true 1 (t 11)), o 13 (.mv (t 1)), o 14 (.isl 1 (t 12) (t 13)), o 15 (.load false 1 (t 14)), o 16 (.mv (t 2)), o 17 (.call 57 [(t 15), (t 16)]), o 10 (.mv (t 17)), o 18 (.extract (t 10) 0), o 19 (.extract (t 10) 1), o 20 (.extract (t 10) 2), o 7 (.mv (t 18)), o 8 (.mv (t 19)), o 9 (.mv (t 20))] [])
(.seq (.seq (.region [o 21 (.mv (t 9)), o 22 (.un .not (t 21))] [])
 (.cond (t 22)
 (.seq (.region [o 23 (.load false 2 (t 3)), n (.store 2 (t 6) (t 23))] [])
 .ret)
 .skip))
(.seq (.region [o 24 (.load false 2 (t 3)), o 25 (.mv (t 1)), o 26 (.faddr (t 3) 1), o 27 (.load true 1 (t 26)), o 28 (.mv (t 1)), o 29 (.isl 1 (t 27) (t 28)), o 30 (.load false 1 (t 29)), o 31 (.mv (t 7)), o 32 (.mv (t 8)), o 33 (.call 60 [(t 30), (t 31), (t 32)]), o 34 (.call 44 [(t 24), (t 25), (t 33)]), n (.store 2 (t 6) (t 34))] [(0, 9)])
.ret)))), [.cell 6 false 2], true, none, false⟩
/-- cotterel/cotterelsame.Btbs -/
def f46 : AFun := ⟨32, (.seq (.region [o 4 (.mv (.con (.bool false)))] [])
(.seq (.seq (.region [o 6 (.mv (t 0)), o 7 (.len (t 6)), o 8 (.mv (t 1)), o 9 (.len (t 8)), o 10 (.bin .neq (t 7) (t 9))] [])
 (.cond (t 10)
 (.seq (.region [o 4 (.mv (.con (.bool false)))] [])
 .ret)
 .skip))
(.seq (.seq (.region [o 5 (.mv (.con (.int .i64 0)))] [])
 (.block 0 (.loop (.seq (.seq (.region [o 11 (.mv (t 5)), o 12 (.mv (t 0)), o 13 (.len (t 12)), o 14 (.bin .lss (t 11) (t 13)), o 15 (.mv (t 14)), g 16 (.mv (t 5)) 15 true, g 17 (.mv (t 1)) 15 true, g 18 (.len (t 17)) 15 true, g 19 (.bin .lss (t 16) (t 18)) 15 true, o 20 (.pick (t 15) (t 19) (.con (.bool false)))] [])
 (.cond (t 20)
 .skip
 (.exit 0)))
 (.seq (.block 1 (.seq (.region [o 23 (.mv (t 0)), o 24 (.mv (t 5)), o 25 (.isl 3 (t 23) (t 24)), o 26 (.load false 3 (t 25)), o 27 (.mv (t 1)), o 28 (.mv (t 5)), o 29 (.isl 3 (t 27) (t 28)), o 30 (.load false 3 (t 29)), o 31 (.aeq true [some .u32, some .u32, some .i64] (t 26) (t 30))] [])
 (.cond (t 31)
 (.seq (.region [o 4 (.mv (.con (.bool false)))] [])
 .ret)
 .skip)))
 (.region [o 21 (.mv (t 5)), o 22 (.bin .add (t 21) (.con (.int .i64 1))), o 5 (.mv (t 22))] []))))))
(.seq (.region [o 4 (.mv (.con (.bool true)))] [])
.ret)))), [.tmp 4], true, none, false⟩
/-- cotterel/cotterelsame.Free -/
def f47 : AFun := ⟨24, (.seq (.region [o 2 (.box (t 0)), o 3 (.box (t 1)), o 4 (.mv (.con (.bool false)))] [])
(.seq (.region [o 5 (.faddr (t 2) 1), o 6 (.load true 1 (t 5)), o 7 (.faddr (t 3) 1), o 8 (.load true 1 (t 7)), o 9 (.bin .eql (t 6) (t 8)), o 10 (.mv (t 9)), g 11 (.faddr (t 2) 2) 10 true, g 12 (.load true 1 (t 11)) 10 true, g 13 (.faddr (t 3) 2) 10 true, g 14 (.load true 1 (t 13)) 10 true, g 15 (.bin .eql (t 12) (t 14)) 10 true, o 16 (.pick (t 10) (t 15) (.con (.bool false))), o 17 (.mv (t 16)), g 18 (.faddr (t 2) 0) 17 true, g 19 (.load true 1 (t 18)) 17 true, g 20 (.faddr (t 3) 0) 17 true, g 21 (.load true 1 (t 20)) 17 true, g 22 (.call 61 [(t 19), (t 21)]) 17 true, o 23 (.pick (t 17) (t 22) (.con (.bool false))), o 4 (.mv (t 23))] [])
.ret)), [.tmp 4], true, none, false⟩
/-- cotterel/cotterelsame.Bools -/
def f48 : AFun := ⟨32, (.seq (.region [o 4 (.mv (.con (.bool false)))] [])
(.seq (.seq (.region [o 6 (.mv (t 0)), o 7 (.len (t 6)), o 8 (.mv (t 1)), o 9 (.len (t 8)), o 10 (.bin .neq (t 7) (t 9))] [])
 (.cond (t 10)
 (.seq (.region [o 4 (.mv (.con (.bool false)))] [])
 .ret)
 .skip))
(.seq (.seq (.region [o 5 (.mv (.con (.int .i64 0)))] [])
 (.block 0 (.loop (.seq (.seq (.region [o 11 (.mv (t 5)), o 12 (.mv (t 0)), o 13 (.len (t 12)), o 14 (.bin .lss (t 11) (t 13)), o 15 (.mv (t 14)), g 16 (.mv (t 5)) 15 true, g 17 (.mv (t 1)) 15 true, g 18 (.len (t 17)) 15 true, g 19 (.bin .lss (t 16) (t 18)) 15 true, o 20 (.pick (t 15) (t 19) (.con (.bool false)))] [])
 (.cond (t 20)
 .skip
 (.exit 0)))
 (.seq (.block 1 (.seq (.region [o 23 (.mv (t 0)), o 24 (.mv (t 5)), o 25 (.isl 1 (t 23) (t 24)), o 26 (.load true 1 (t 25)), o 27 (.mv (t 1)), o 28 (.mv (t 5)), o 29 (.isl 1 (t 27) (t 28)), o 30 (.load true 1 (t 29)), o 31 (.beq true (t 26) (t 30))] [])
 (.cond (t 31)
 (.seq (.region [o 4 (.mv (.con (.bool false)))] [])
 .ret)
 .skip)))
 (.region [o 21 (.mv (t 5)), o 22 (.bin .add (t 21) (.con (.int .i64 1))), o 5 (.mv (t 22))] []))))))
(.seq (.region [o 4 (.mv (.con (.bool true)))] [])
.ret)))), [.tmp 4], true, none, false⟩
/-- cotterel/coh.reached -/
def f49 : AFun := ⟨44, (.seq (.region [o 4 (.box (t 0)), o 8 (.mv (.con (.bool false)))] [])
(.seq (.seq (.region [o 9 (.mv (t 1)), o 10 (.bin .lss (t 9) (.con (.int .i64 0))), o 11 (.mv (t 10)), g 12 (.mv (t 1)) 11 false, g 13 (.faddr (t 4) 1) 11 false, g 14 (.load true 1 (t 13)) 11 false, g 15 (.len (t 14)) 11 false, g 16 (.bin .geq (t 12) (t 15)) 11 false, o 17 (.pick (t 11) (.con (.bool true)) (t 16)), o 18 (.mv (t 17)), g 19 (.mv (t 3)) 18 false, g 20 (.bin .neq (t 19) (.con (.int .i64 1))) 18 false, g 21 (.mv (t 20)) 18 false, g 22 (.mv (t 3)) 21 true, g 23 (.bin .neq (t 22) (.con (.int .i64 2))) 21 true, g 24 (.pick (t 21) (t 23) (.con (.bool false))) 18 false, g 25 (.mv (t 24)) 18 false, g 26 (.mv (t 3)) 25 true, g 27 (.bin .neq (t 26) (.con (.int .i64 4))) 25 true, g 28 (.pick (t 25) (t 27) (.con (.bool false))) 18 false, o 29 (.pick (t 18) (.con (.bool true)) (t 28))] [])
 (.cond (t 29)
 (.seq (.region [o 8 (.mv (.con (.bool false)))] [])
 .ret)
 .skip))
(.seq (.region [o 30 (.mv (t 2)), o 31 (.bin .rem (t 30) (.con (.int .u32 16))), o 32 (.conv .i64 (t 31)), o 33 (.mv (t 3)), o 34 (.bin .add (t 32) (t 33)), o 35 (.bin .leq (t 34) (.con (.int .i64 16))), o 36 (.mv (t 35)), g 37 (.faddr (t 4) 0) 36 true, g 38 (.load true 1 (t 37)) 36 true, g 39 (.mv (t 2)) 36 true, g 40 (.mv (t 3)) 36 true, g 41 (.call 62 [(t 38), (t 39), (t 40)]) 36 true, g 42 (.bin .eql (t 41) (.con (.int .i64 0))) 36 true, o 43 (.pick (t 36) (t 42) (.con (.bool false))), o 8 (.mv (t 43))] [])
.ret))), [.tmp 8], true, none, false⟩
/-- cotterel/coh.got -/
def f50 : AFun := ⟨24, (.seq (.region [o 4 (.box (t 0)), o 8 (.alloc [(.imm true 0 []), (.imm true 0 [])]), o 9 (.mv (.con (.bool false)))] [])
(.seq (.region [o 11 (.load false 2 (t 4)), o 12 (.mv (t 1)), o 13 (.mv (t 2)), o 14 (.mv (t 3)), o 15 (.call 63 [(t 11), (t 12), (t 13), (t 14)]), o 10 (.alloc [(.int .i64 0), (.int .u32 0)]), n (.store 2 (t 10) (t 15))] [])
(.seq (.seq (.region [o 16 (.faddr (t 10) 0), o 17 (.load true 1 (t 16)), o 18 (.bin .eql (t 17) (.con (.int .i64 0)))] [])
 (.cond (t 18)
 (.seq (.region [o 19 (.load false 2 (t 4)), n (.store 2 (t 8) (t 19)), o 9 (.mv (.con (.bool true)))] [])
 .ret)
 .skip))
(.seq (.region [o 20 (.load false 2 (t 4)), o 21 (.mv (t 1)), o 22 (.load false 2 (t 10)), o 23 (.call 64 [(t 20), (t 21), (t 22)]), n (.store 2 (t 8) (t 23)), o 9 (.mv (.con (.bool false)))] [])
.ret)))), [.cell 8 false 2, .tmp 9], true, none, false⟩
/-- cotterel/cache.Write -/
def f51 : AFun := ⟨75, (.seq (.region [o 4 (.box (t 0)), o 8 (.alloc [(.imm true 0 [])]), o 9 (.mv (.con (.bool false)))] [])
(.seq (.region [o 17 (.load false 1 (t 4)), o 18 (.mv (t 1)), o 19 (.mv (t 2)), o 20 (.call 65 [(t 17), (t 18), (t 19)]), o 16 (.mv (t 20)), o 21 (.extract (t 16) 0), o 22 (.extract (t 16) 1), o 23 (.extract (t 16) 2), o 24 (.extract (t 16) 3), o 10 (.mv (t 21)), o 11 (.mv (t 22)), o 12 (.mv (t 23)), o 13 (.mv (t 24))] [])
(.seq (.seq (.region [o 25 (.mv (t 13)), o 26 (.un .not (t 25)), o 27 (.mv (t 26)), g 28 (.faddr (t 4) 0) 27 false, g 29 (.load true 1 (t 28)) 27 false, g 30 (.mv (t 10)) 27 false, g 31 (.isl 1 (t 29) (t 30)) 27 false, g 32 (.load true 1 (t 31)) 27 false, g 33 (.mv (t 11)) 27 false, g 34 (.isl 19 (t 32) (t 33)) 27 false, g 35 (.faddr (t 34) 0) 27 false, g 36 (.load true 1 (t 35)) 27 false, g 37 (.bin .neq (t 36) (.con (.int .i64 2))) 27 false, g 38 (.mv (t 37)) 27 false, g 39 (.faddr (t 4) 0) 38 true, g 40 (.load true 1 (t 39)) 38 true, g 41 (.mv (t 10)) 38 true, g 42 (.isl 1 (t 40) (t 41)) 38 true, g 43 (.load true 1 (t 42)) 38 true, g 44 (.mv (t 11)) 38 true, g 45 (.isl 19 (t 43) (t 44)) 38 true, g 46 (.faddr (t 45) 0) 38 true, g 47 (.load true 1 (t 46)) 38 true, g 48 (.bin .neq (t 47) (.con (.int .i64 3))) 38 true, g 49 (.pick (t 38) (t 48) (.con (.bool false))) 27 false, o 50 (.pick (t 27) (.con (.bool true)) (t 49))] [])
 (.cond (t 50)
 (.seq (.region [o 51 (.build [(.imm true 0 [])] []), n (.store 1 (t 8) (t 51)), o 9 (.mv (.con (.bool false)))] [])
 .ret)
 .skip))
(.seq (.region [o 52 (.load false 1 (t 4)), o 53 (.mv (t 10)), o 54 (.call 66 [(t 52), (t 53)]), o 14 (.alloc [(.imm true 0 [])]), n (.store 1 (t 14) (t 54))] [])
(.seq (.region [o 55 (.faddr (t 14) 0), o 56 (.load true 1 (t 55)), o 57 (.mv (t 10)), o 58 (.isl 1 (t 56) (t 57)), o 59 (.load true 1 (t 58)), o 60 (.mv (t 11)), o 61 (.isl 19 (t 59) (t 60)), o 15 (.mv (t 61))] [])
(.seq (.region [o 62 (.mv (t 15)), o 63 (.nilchk (t 62)), o 64 (.faddr (t 63) 2), o 65 (.mv (t 12)), o 66 (.slArr 16 1 (t 64) (some (t 65)) none none), o 67 (.mv (t 3)), o 68 (.mv (t 2)), o 69 (.call 67 [(t 67), (t 68)]), o 70 (.copy 1 (t 66) (t 69))] [(4, 7)])
(.seq (.region [o 71 (.mv (t 15)), o 72 (.nilchk (t 71)), o 73 (.faddr (t 72) 0), n (.store 1 (t 73) (.con (.int .i64 3)))] [])
(.seq (.region [o 74 (.load false 1 (t 14)), n (.store 1 (t 8) (t 74)), o 9 (.mv (.con (.bool true)))] [])
.ret)))))))), [.cell 8 false 1, .tmp 9], true, none, false⟩
/-- cotterel/coh.with -/
def f52 : AFun := ⟨17, (.seq (.region [o 3 (.box (t 0)), o 5 (.box (t 2)), o 6 (.alloc [(.imm true 0 []), (.imm true 0 [])])] [])
(.seq (.region [o 7 (.faddr (t 3) 1), o 8 (.load true 1 (t 7)), o 9 (.call 68 [(t 8)]), o 10 (.faddr (t 3) 1), n (.store 1 (t 10) (t 9))] [])
(.seq (.region [o 11 (.faddr (t 3) 1), o 12 (.load true 1 (t 11)), o 13 (.mv (t 1)), o 14 (.load false 1 (t 5)), o 15 (.isl 1 (t 12) (t 13)), n (.store 1 (t 15) (t 14))] [])
(.seq (.region [o 16 (.load false 2 (t 3)), n (.store 2 (t 6) (t 16))] [])
.ret)))), [.cell 6 false 2], true, none, false⟩
/-- cotterel/coh.touched -/
def f53 : AFun := ⟨33, (.seq (.region [o 3 (.box (t 0)), o 6 (.alloc [(.imm true 0 []), (.imm true 0 [])])] [])
(.seq (.region [o 11 (.faddr (t 3) 1), o 12 (.load true 1 (t 11)), o 13 (.mv (t 1)), o 14 (.isl 1 (t 12) (t 13)), o 15 (.load false 1 (t 14)), o 7 (.alloc [(.imm true 0 [])]), n (.store 1 (t 7) (t 15))] [])
(.seq (.region [o 17 (.load false 1 (t 7)), o 18 (.mv (t 2)), o 19 (.call 69 [(t 17), (t 18)]), o 16 (.mv (t 19)), o 20 (.extract (t 16) 0), o 21 (.extract (t 16) 1), o 22 (.extract (t 16) 2), o 8 (.mv (t 20)), o 9 (.mv (t 21)), o 10 (.mv (t 22))] [])
(.seq (.seq (.region [o 23 (.mv (t 10)), o 24 (.un .not (t 23))] [])
 (.cond (t 24)
 (.seq (.region [o 25 (.load false 2 (t 3)), n (.store 2 (t 6) (t 25))] [])
 .ret)
 .skip))
(.seq (.region [o 26 (.load false 2 (t 3)), o 27 (.mv (t 1)), o 28 (.load false 1 (t 7)), o 29 (.mv (t 8)), o 30 (.mv (t 9)), o 31 (.call 70 [(t 28), (t 29), (t 30)]), o 32 (.call 52 [(t 26), (t 27), (t 31)]), n (.store 2 (t 6) (t 32))] [(0, 5)])
.ret))))), [.cell 6 false 2], true, none, false⟩
/-- cotterel/cotterelref10.Check -/
def f54 : AFun := ⟨26, (.seq (.region [o 6 (.mv (.con (.int .i64 0)))] [])
(.seq (.seq (.region [o 7 (.mv (t 2)), o 8 (.bin .eql (t 7) (.con (.int .i64 1))), o 9 (.mv (t 8)), g 10 (.mv (t 2)) 9 false, g 11 (.bin .eql (t 10) (.con (.int .i64 2))) 9 false, o 12 (.pick (t 9) (.con (.bool true)) (t 11)), o 13 (.mv (t 12)), g 14 (.mv (t 2)) 13 false, g 15 (.bin .eql (t 14) (.con (.int .i64 4))) 13 false, o 16 (.pick (t 13) (.con (.bool true)) (t 15)), o 17 (.mv (t 16)), g 18 (.mv (t 1)) 17 true, g 19 (.conv .i64 (t 18)) 17 true, g 20 (.mv (t 2)) 17 true, g 21 (.bin .add (t 19) (t 20)) 17 true, g 22 (.mv (t 0)) 17 true, g 23 (.len (t 22)) 17 true, g 24 (.bin .leq (t 21) (t 23)) 17 true, o 25 (.pick (t 17) (t 24) (.con (.bool false)))] [])
 (.cond (t 25)
 (.seq (.region [o 6 (.mv (.con (.int .i64 0)))] [])
 .ret)
 .skip))
(.seq (.region [o 6 (.mv (.con (.int .i64 9)))] [])
.ret))), [.tmp 6], true, none, false⟩
/-- cotterel/cotterelref40.Want -/
def f55 : AFun := ⟨22, (.seq (.region [o 4 (.box (t 0)), o 8 (.alloc [(.int .i64 0), (.int .u32 0)])] [])
(.seq (.seq (.region [o 9 (.load false 2 (t 4)), o 10 (.mv (t 1)), o 11 (.call 71 [(t 9), (t 10)]), o 12 (.un .not (t 11))] [])
 (.cond (t 12)
 (.seq (.region [o 13 (.build [(.int .i64 0), (.int .u32 0)] []), n (.store 2 (t 8) (t 13))] [])
 .ret)
 .skip))
(.seq (.region [o 14 (.load false 2 (t 4)), o 15 (.mv (t 1)), o 16 (.mv (t 2)), o 17 (.call 73 [(t 14), (t 15), (t 16)]), o 18 (.mv (t 3)), o 19 (.call 72 [(t 17), (t 18)]), o 20 (.mv (t 2)), o 21 (.build [(.int .i64 0), (.int .u32 0)] [(0, 1, (t 19)), (1, 1, (t 20))]), n (.store 2 (t 8) (t 21))] [])
.ret))), [.cell 8 false 2], true, none, false⟩
/-- cotterel/cotterelref40.Do -/
def f56 : AFun := ⟨152, (.seq (.region [o 3 (.box (t 0)), o 5 (.box (t 2)), o 6 (.alloc [(.imm true 0 []), (.imm true 0 [])])] [])
(.seq (.seq (.region [o 14 (.load false 2 (t 3)), o 15 (.mv (t 1)), o 16 (.call 71 [(t 14), (t 15)]), o 17 (.un .not (t 16)), o 18 (.mv (t 17)), g 19 (.faddr (t 5) 0) 18 false, g 20 (.load true 1 (t 19)) 18 false, g 21 (.bin .neq (t 20) (.con (.int .i64 1))) 18 false, g 22 (.mv (t 21)) 18 false, g 23 (.faddr (t 5) 0) 22 true, g 24 (.load true 1 (t 23)) 22 true, g 25 (.bin .neq (t 24) (.con (.int .i64 2))) 22 true, g 26 (.pick (t 22) (t 25) (.con (.bool false))) 18 false, g 27 (.mv (t 26)) 18 false, g 28 (.faddr (t 5) 0) 27 true, g 29 (.load true 1 (t 28)) 27 true, g 30 (.bin .neq (t 29) (.con (.int .i64 3))) 27 true, g 31 (.pick (t 27) (t 30) (.con (.bool false))) 18 false, o 32 (.pick (t 18) (.con (.bool true)) (t 31)), o 33 (.mv (t 32)), g 34 (.load false 2 (t 3)) 33 false, g 35 (.faddr (t 5) 1) 33 false, g 36 (.load true 1 (t 35)) 33 false, g 37 (.call 74 [(t 34), (t 36)]) 33 false, g 38 (.un .not (t 37)) 33 false, o 39 (.pick (t 33) (.con (.bool true)) (t 38))] [])
 (.cond (t 39)
 (.seq (.region [o 40 (.load false 2 (t 3)), n (.store 2 (t 6) (t 40))] [])
 .ret)
 .skip))
(.seq (.region [o 41 (.load false 2 (t 3)), o 42 (.call 75 [(t 41)]), n (.store 2 (t 3) (t 42))] [])
(.seq (.seq (.region [o 7 (.mv (.con (.int .i64 0)))] [])
 (.block 0 (.loop (.seq (.seq (.region [o 43 (.mv (t 7)), o 44 (.faddr (t 3) 1), o 45 (.load true 1 (t 44)), o 46 (.len (t 45)), o 47 (.bin .lss (t 43) (t 46))] [])
 (.cond (t 47)
 .skip
 (.exit 0)))
 (.seq (.block 1 (.seq (.region [o 50 (.faddr (t 3) 1), o 51 (.load true 1 (t 50)), o 52 (.mv (t 7)), o 53 (.isl 1 (t 51) (t 52)), o 54 (.load false 1 (t 53)), o 55 (.faddr (t 5) 1), o 56 (.load true 1 (t 55)), o 57 (.call 76 [(t 54), (t 56)]), o 8 (.alloc [(.int .i64 0), (.int .u32 0), (.int .u8 0), (.int .u8 0), (.int .u8 0), (.int .u8 0), (.int .u8 0), (.int .u8 0), (.int .u8 0), (.int .u8 0), (.int .u8 0), (.int .u8 0), (.int .u8 0), (.int .u8 0), (.int .u8 0), (.int .u8 0), (.int .u8 0), (.int .u8 0), (.int .i64 0)]), n (.store 19 (t 8) (t 57))] [(1, 8), (4, 8), (6, 8), (7, 8)])
 (.seq (.seq (.region [o 58 (.mv (t 7)), o 59 (.mv (t 1)), o 60 (.bin .eql (t 58) (t 59)), o 61 (.mv (t 60)), g 62 (.faddr (t 8) 0) 61 false, g 63 (.load true 1 (t 62)) 61 false, g 64 (.bin .eql (t 63) (.con (.int .i64 0))) 61 false, o 65 (.pick (t 61) (.con (.bool true)) (t 64))] [])
 (.cond (t 65)
 (.exit 1)
 .skip))
 (.seq (.region [o 67 (.faddr (t 8) 0), o 68 (.load true 1 (t 67)), o 69 (.faddr (t 5) 0), o 70 (.load true 1 (t 69)), o 71 (.call 77 [(t 68), (t 70)]), o 66 (.mv (t 71)), o 72 (.extract (t 66) 0), o 73 (.extract (t 66) 1), o 9 (.mv (t 72)), o 10 (.mv (t 73))] [])
 (.seq (.seq (.region [o 74 (.mv (t 10))] [])
 (.cond (t 74)
 (.region [o 75 (.load false 2 (t 3)), o 76 (.faddr (t 5) 1), o 77 (.load true 1 (t 76)), o 78 (.faddr (t 8) 2), o 79 (.load false 16 (t 78)), o 80 (.call 78 [(t 75), (t 77), (t 79)]), n (.store 2 (t 3) (t 80))] [])
 .skip))
 (.region [o 81 (.faddr (t 3) 1), o 82 (.load true 1 (t 81)), o 83 (.mv (t 7)), o 84 (.faddr (t 3) 1), o 85 (.load true 1 (t 84)), o 86 (.mv (t 7)), o 87 (.isl 1 (t 85) (t 86)), o 88 (.load false 1 (t 87)), o 89 (.faddr (t 5) 1), o 90 (.load true 1 (t 89)), o 91 (.mv (t 9)), o 92 (.call 79 [(t 88), (t 90), (t 91)]), o 93 (.isl 1 (t 82) (t 83)), n (.store 1 (t 93) (t 92))] [(1, 11)]))))))
 (.region [o 48 (.mv (t 7)), o 49 (.bin .add (t 48) (.con (.int .i64 1))), o 7 (.mv (t 49))] []))))))
(.seq (.region [o 94 (.faddr (t 5) 0), o 95 (.load true 1 (t 94)), o 96 (.load false 2 (t 3)), o 97 (.mv (t 1)), o 98 (.faddr (t 5) 1), o 99 (.load true 1 (t 98)), o 100 (.call 81 [(t 96), (t 97), (t 99)]), o 101 (.call 80 [(t 95), (t 100)]), o 11 (.mv (t 101))] [(1, 6)])
(.seq (.seq (.region [o 102 (.faddr (t 5) 0), o 103 (.load true 1 (t 102)), o 104 (.bin .eql (t 103) (.con (.int .i64 3))), o 105 (.mv (t 104)), g 106 (.load false 2 (t 3)) 105 true, g 107 (.mv (t 1)) 105 true, g 108 (.faddr (t 5) 1) 105 true, g 109 (.load true 1 (t 108)) 105 true, g 110 (.call 73 [(t 106), (t 107), (t 109)]) 105 true, g 111 (.bin .neq (t 110) (.con (.int .i64 0))) 105 true, o 112 (.pick (t 105) (t 111) (.con (.bool false)))] [])
 (.cond (t 112)
 (.seq (.region [o 113 (.faddr (t 3) 1), o 114 (.load true 1 (t 113)), o 115 (.mv (t 1)), o 116 (.faddr (t 3) 1), o 117 (.load true 1 (t 116)), o 118 (.mv (t 1)), o 119 (.isl 1 (t 117) (t 118)), o 120 (.load false 1 (t 119)), o 121 (.faddr (t 5) 1), o 122 (.load true 1 (t 121)), o 123 (.mv (t 11)), o 124 (.call 79 [(t 120), (t 122), (t 123)]), o 125 (.isl 1 (t 114) (t 115)), n (.store 1 (t 125) (t 124))] [(1, 11)])
 (.seq (.region [o 126 (.load false 2 (t 3)), n (.store 2 (t 6) (t 126))] [])
 .ret))
 .skip))
(.seq (.region [o 128 (.faddr (t 3) 1), o 129 (.load true 1 (t 128)), o 130 (.mv (t 1)), o 131 (.isl 1 (t 129) (t 130)), o 132 (.load false 1 (t 131)), o 133 (.faddr (t 5) 1), o 134 (.load true 1 (t 133)), o 135 (.mv (t 11)), o 136 (.load false 2 (t 3)), o 137 (.faddr (t 5) 1), o 138 (.load true 1 (t 137)), o 139 (.call 83 [(t 136), (t 138)]), o 140 (.call 82 [(t 132), (t 134), (t 135), (t 139)]), o 127 (.mv (t 140)), o 141 (.extract (t 127) 0), o 142 (.extract (t 127) 1), o 12 (.alloc [(.imm true 0 [])]), o 13 (.alloc [(.int .i64 0), (.int .u32 0), (.int .u8 0), (.int .u8 0), (.int .u8 0), (.int .u8 0), (.int .u8 0), (.int .u8 0), (.int .u8 0), (.int .u8 0), (.int .u8 0), (.int .u8 0), (.int .u8 0), (.int .u8 0), (.int .u8 0), (.int .u8 0), (.int .u8 0), (.int .u8 0), (.int .i64 0)]), n (.store 1 (t 12) (t 141)), n (.store 19 (t 13) (t 142))] [(1, 11), (4, 11), (6, 11), (1, 16), (4, 16), (6, 16), (8, 16), (10, 16), (11, 16), (12, 16), (1, 17), (4, 17), (6, 17), (8, 17), (10, 17), (11, 17), (12, 17), (16, 17)])
(.seq (.region [o 143 (.faddr (t 3) 1), o 144 (.load true 1 (t 143)), o 145 (.mv (t 1)), o 146 (.load false 1 (t 12)), o 147 (.isl 1 (t 144) (t 145)), n (.store 1 (t 147) (t 146))] [])
(.seq (.region [o 148 (.load false 2 (t 3)), o 149 (.mv (t 1)), o 150 (.load false 19 (t 13)), o 151 (.call 84 [(t 148), (t 149), (t 150)]), n (.store 2 (t 6) (t 151))] [])
.ret))))))))), [.cell 6 false 2], true, none, false⟩
/-- cotterel/cotterelref39.Find -/
def f57 : AFun := ⟨49, (.seq (.region [o 2 (.box (t 0)), o 4 (.mv (.con (.int .i64 0))), o 5 (.mv (.con (.int .i64 0))), o 6 (.mv (.con (.bool false)))] [])
(.seq (.region [o 9 (.load false 1 (t 2)), o 10 (.mv (t 1)), o 11 (.call 85 [(t 9), (t 10)]), o 7 (.mv (t 11))] [])
(.seq (.seq (.region [o 12 (.mv (t 7)), o 13 (.bin .lss (t 12) (.con (.int .i64 0)))] [])
 (.cond (t 13)
 (.seq (.region [o 4 (.mv (.con (.int .i64 0))), o 5 (.mv (.con (.int .i64 0))), o 6 (.mv (.con (.bool false)))] [])
 .ret)
 .skip))
(.seq (.seq (.region [o 8 (.mv (.con (.int .i64 0)))] [])
 (.block 0 (.loop (.seq (.seq (.region [o 14 (.mv (t 8)), o 15 (.faddr (t 2) 0), o 16 (.load true 1 (t 15)), o 17 (.mv (t 7)), o 18 (.isl 1 (t 16) (t 17)), o 19 (.load true 1 (t 18)), o 20 (.len (t 19)), o 21 (.bin .lss (t 14) (t 20))] [])
 (.cond (t 21)
 .skip
 (.exit 0)))
 (.seq (.block 1 (.seq (.region [o 24 (.faddr (t 2) 0), o 25 (.load true 1 (t 24)), o 26 (.mv (t 7)), o 27 (.isl 1 (t 25) (t 26)), o 28 (.load true 1 (t 27)), o 29 (.mv (t 8)), o 30 (.isl 19 (t 28) (t 29)), o 31 (.faddr (t 30) 1), o 32 (.load true 1 (t 31)), o 33 (.mv (t 1)), o 34 (.bin .eql (t 32) (t 33)), o 35 (.mv (t 34)), g 36 (.faddr (t 2) 0) 35 true, g 37 (.load true 1 (t 36)) 35 true, g 38 (.mv (t 7)) 35 true, g 39 (.isl 1 (t 37) (t 38)) 35 true, g 40 (.load true 1 (t 39)) 35 true, g 41 (.mv (t 8)) 35 true, g 42 (.isl 19 (t 40) (t 41)) 35 true, g 43 (.faddr (t 42) 0) 35 true, g 44 (.load true 1 (t 43)) 35 true, g 45 (.bin .neq (t 44) (.con (.int .i64 0))) 35 true, o 46 (.pick (t 35) (t 45) (.con (.bool false)))] [])
 (.cond (t 46)
 (.seq (.region [o 47 (.mv (t 7)), o 48 (.mv (t 8)), o 4 (.mv (t 47)), o 5 (.mv (t 48)), o 6 (.mv (.con (.bool true)))] [])
 .ret)
 .skip)))
 (.region [o 22 (.mv (t 8)), o 23 (.bin .add (t 22) (.con (.int .i64 1))), o 8 (.mv (t 23))] []))))))
(.seq (.region [o 4 (.mv (.con (.int .i64 0))), o 5 (.mv (.con (.int .i64 0))), o 6 (.mv (.con (.bool false)))] [])
.ret))))), [.tmp 4, .tmp 5, .tmp 6], true, none, false⟩
/-- cotterel/cotterelref39.within -/
def f58 : AFun := ⟨23, (.seq (.region [o 4 (.mv (.con (.bool false)))] [])
(.seq (.region [o 5 (.mv (t 1)), o 6 (.bin .eql (t 5) (.con (.int .i64 1))), o 7 (.mv (t 6)), g 8 (.mv (t 1)) 7 false, g 9 (.bin .eql (t 8) (.con (.int .i64 2))) 7 false, o 10 (.pick (t 7) (.con (.bool true)) (t 9)), o 11 (.mv (t 10)), g 12 (.mv (t 1)) 11 false, g 13 (.bin .eql (t 12) (.con (.int .i64 4))) 11 false, o 14 (.pick (t 11) (.con (.bool true)) (t 13)), o 15 (.mv (t 14)), g 16 (.mv (t 0)) 15 true, g 17 (.bin .rem (t 16) (.con (.int .u32 16))) 15 true, g 18 (.conv .i64 (t 17)) 15 true, g 19 (.mv (t 1)) 15 true, g 20 (.bin .add (t 18) (t 19)) 15 true, g 21 (.bin .leq (t 20) (.con (.int .i64 16))) 15 true, o 22 (.pick (t 15) (t 21) (.con (.bool false))), o 4 (.mv (t 22))] [])
.ret)), [.tmp 4], true, none, false⟩
/-- cotterel/cotterelref39.copied -/
def f59 : AFun := ⟨25, (.seq (.region [o 1 (.box (t 0)), o 2 (.alloc [(.imm true 0 [])])] [])
(.seq (.region [o 3 (.alloc [(.imm true 0 [])])] [])
(.seq (.seq (.region [o 4 (.mv (.con (.int .i64 0)))] [])
 (.block 0 (.loop (.seq (.seq (.region [o 5 (.mv (t 4)), o 6 (.faddr (t 1) 0), o 7 (.load true 1 (t 6)), o 8 (.len (t 7)), o 9 (.bin .lss (t 5) (t 8))] [])
 (.cond (t 9)
 .skip
 (.exit 0)))
 (.seq (.block 1 (.region [o 12 (.faddr (t 3) 0), o 13 (.load true 1 (t 12)), o 14 (.bsl [] 0 19 []), o 15 (.faddr (t 1) 0), o 16 (.load true 1 (t 15)), o 17 (.mv (t 4)), o 18 (.isl 1 (t 16) (t 17)), o 19 (.load true 1 (t 18)), o 20 (.append 19 40 (t 14) (t 19)), o 21 (.bsl [(.imm true 0 [])] 1 1 [(0, 1, (t 20))]), o 22 (.append 1 24 (t 13) (t 21)), o 23 (.faddr (t 3) 0), n (.store 1 (t 23) (t 22))] [(1, 2), (2, 4), (2, 7), (1, 8), (1, 9)]))
 (.region [o 10 (.mv (t 4)), o 11 (.bin .add (t 10) (.con (.int .i64 1))), o 4 (.mv (t 11))] []))))))
(.seq (.region [o 24 (.load false 1 (t 3)), n (.store 1 (t 2) (t 24))] [])
.ret)))), [.cell 2 false 1], false, none, false⟩
/-- cotterel/cotterelref39.Touch -/
def f60 : AFun := ⟨73, (.seq (.region [o 3 (.box (t 0)), o 6 (.alloc [(.imm true 0 [])])] [])
(.seq (.region [o 9 (.load false 1 (t 3)), o 10 (.call 59 [(t 9)]), o 7 (.alloc [(.imm true 0 [])]), n (.store 1 (t 7) (t 10))] [])
(.seq (.seq (.region [o 11 (.load false 1 (t 3)), o 12 (.mv (t 1)), o 13 (.mv (t 2)), o 14 (.call 86 [(t 11), (t 12), (t 13)]), o 15 (.un .not (t 14))] [])
 (.cond (t 15)
 (.seq (.region [o 16 (.load false 1 (t 7)), n (.store 1 (t 6) (t 16))] [])
 .ret)
 .skip))
(.seq (.seq (.region [o 8 (.mv (.con (.int .i64 0)))] [])
 (.block 0 (.loop (.seq (.seq (.region [o 17 (.mv (t 8)), o 18 (.faddr (t 7) 0), o 19 (.load true 1 (t 18)), o 20 (.mv (t 1)), o 21 (.isl 1 (t 19) (t 20)), o 22 (.load true 1 (t 21)), o 23 (.len (t 22)), o 24 (.bin .lss (t 17) (t 23))] [])
 (.cond (t 24)
 .skip
 (.exit 0)))
 (.seq (.block 1 (.seq (.region [o 27 (.faddr (t 3) 0), o 28 (.load true 1 (t 27)), o 29 (.mv (t 1)), o 30 (.isl 1 (t 28) (t 29)), o 31 (.load true 1 (t 30)), o 32 (.mv (t 8)), o 33 (.isl 19 (t 31) (t 32)), o 34 (.faddr (t 33) 18), o 35 (.load true 1 (t 34)), o 36 (.faddr (t 3) 0), o 37 (.load true 1 (t 36)), o 38 (.mv (t 1)), o 39 (.isl 1 (t 37) (t 38)), o 40 (.load true 1 (t 39)), o 41 (.mv (t 2)), o 42 (.isl 19 (t 40) (t 41)), o 43 (.faddr (t 42) 18), o 44 (.load true 1 (t 43)), o 45 (.bin .lss (t 35) (t 44))] [])
 (.cond (t 45)
 (.region [o 46 (.faddr (t 7) 0), o 47 (.load true 1 (t 46)), o 48 (.mv (t 1)), o 49 (.isl 1 (t 47) (t 48)), o 50 (.load true 1 (t 49)), o 51 (.mv (t 8)), o 52 (.faddr (t 3) 0), o 53 (.load true 1 (t 52)), o 54 (.mv (t 1)), o 55 (.isl 1 (t 53) (t 54)), o 56 (.load true 1 (t 55)), o 57 (.mv (t 8)), o 58 (.isl 19 (t 56) (t 57)), o 59 (.faddr (t 58) 18), o 60 (.load true 1 (t 59)), o 61 (.bin .add (t 60) (.con (.int .i64 1))), o 62 (.isl 19 (t 50) (t 51)), o 63 (.faddr (t 62) 18), n (.store 1 (t 63) (t 61))] [])
 .skip)))
 (.region [o 25 (.mv (t 8)), o 26 (.bin .add (t 25) (.con (.int .i64 1))), o 8 (.mv (t 26))] []))))))
(.seq (.region [o 64 (.faddr (t 7) 0), o 65 (.load true 1 (t 64)), o 66 (.mv (t 1)), o 67 (.isl 1 (t 65) (t 66)), o 68 (.load true 1 (t 67)), o 69 (.mv (t 2)), o 70 (.isl 19 (t 68) (t 69)), o 71 (.faddr (t 70) 18), n (.store 1 (t 71) (.con (.int .i64 0)))] [])
(.seq (.region [o 72 (.load false 1 (t 7)), n (.store 1 (t 6) (t 72))] [])
.ret)))))), [.cell 6 false 1], true, none, false⟩
/-- cotterel/cotterelsame.Ints -/
def f61 : AFun := ⟨32, (.seq (.region [o 4 (.mv (.con (.bool false)))] [])
(.seq (.seq (.region [o 6 (.mv (t 0)), o 7 (.len (t 6)), o 8 (.mv (t 1)), o 9 (.len (t 8)), o 10 (.bin .neq (t 7) (t 9))] [])
 (.cond (t 10)
 (.seq (.region [o 4 (.mv (.con (.bool false)))] [])
 .ret)
 .skip))
(.seq (.seq (.region [o 5 (.mv (.con (.int .i64 0)))] [])
 (.block 0 (.loop (.seq (.seq (.region [o 11 (.mv (t 5)), o 12 (.mv (t 0)), o 13 (.len (t 12)), o 14 (.bin .lss (t 11) (t 13)), o 15 (.mv (t 14)), g 16 (.mv (t 5)) 15 true, g 17 (.mv (t 1)) 15 true, g 18 (.len (t 17)) 15 true, g 19 (.bin .lss (t 16) (t 18)) 15 true, o 20 (.pick (t 15) (t 19) (.con (.bool false)))] [])
 (.cond (t 20)
 .skip
 (.exit 0)))
 (.seq (.block 1 (.seq (.region [o 23 (.mv (t 0)), o 24 (.mv (t 5)), o 25 (.isl 1 (t 23) (t 24)), o 26 (.load true 1 (t 25)), o 27 (.mv (t 1)), o 28 (.mv (t 5)), o 29 (.isl 1 (t 27) (t 28)), o 30 (.load true 1 (t 29)), o 31 (.bin .neq (t 26) (t 30))] [])
 (.cond (t 31)
 (.seq (.region [o 4 (.mv (.con (.bool false)))] [])
 .ret)
 .skip)))
 (.region [o 21 (.mv (t 5)), o 22 (.bin .add (t 21) (.con (.int .i64 1))), o 5 (.mv (t 22))] []))))))
(.seq (.region [o 4 (.mv (.con (.bool true)))] [])
.ret)))), [.tmp 4], true, none, false⟩
/-- cotterel/mem.Check -/
def f62 : AFun := ⟨28, (.seq (.region [o 6 (.mv (.con (.int .i64 0)))] [])
(.seq (.seq (.region [o 7 (.mv (t 2)), o 8 (.bin .neq (t 7) (.con (.int .i64 1))), o 9 (.mv (t 8)), g 10 (.mv (t 2)) 9 true, g 11 (.bin .neq (t 10) (.con (.int .i64 2))) 9 true, o 12 (.pick (t 9) (t 11) (.con (.bool false))), o 13 (.mv (t 12)), g 14 (.mv (t 2)) 13 true, g 15 (.bin .neq (t 14) (.con (.int .i64 4))) 13 true, o 16 (.pick (t 13) (t 15) (.con (.bool false))), o 17 (.mv (t 16)), g 18 (.mv (t 1)) 17 false, g 19 (.conv .u64 (t 18)) 17 false, g 20 (.mv (t 2)) 17 false, g 21 (.conv .u64 (t 20)) 17 false, g 22 (.bin .add (t 19) (t 21)) 17 false, g 23 (.mv (t 0)) 17 false, g 24 (.len (t 23)) 17 false, g 25 (.conv .u64 (t 24)) 17 false, g 26 (.bin .gtr (t 22) (t 25)) 17 false, o 27 (.pick (t 17) (.con (.bool true)) (t 26))] [])
 (.cond (t 27)
 (.seq (.region [o 6 (.mv (.con (.int .i64 9)))] [])
 .ret)
 .skip))
(.seq (.region [o 6 (.mv (.con (.int .i64 0)))] [])
.ret))), [.tmp 6], true, none, false⟩
/-- cotterel/bus.Want -/
def f63 : AFun := ⟨29, (.seq (.region [o 4 (.box (t 0)), o 8 (.alloc [(.int .i64 0), (.int .u32 0)])] [])
(.seq (.seq (.region [o 9 (.mv (t 1)), o 10 (.bin .lss (t 9) (.con (.int .i64 0))), o 11 (.mv (t 10)), g 12 (.mv (t 1)) 11 false, g 13 (.faddr (t 4) 1) 11 false, g 14 (.load true 1 (t 13)) 11 false, g 15 (.len (t 14)) 11 false, g 16 (.bin .geq (t 12) (t 15)) 11 false, o 17 (.pick (t 11) (.con (.bool true)) (t 16))] [])
 (.cond (t 17)
 (.seq (.region [o 18 (.build [(.int .i64 0), (.int .u32 0)] []), n (.store 2 (t 8) (t 18))] [])
 .ret)
 .skip))
(.seq (.region [o 19 (.load false 2 (t 4)), o 20 (.mv (t 2)), o 21 (.build [(.imm true 0 []), (.imm true 0 []), (.int .u32 0)] [(0, 2, (t 19)), (2, 1, (t 20))]), o 22 (.mv (t 1)), o 23 (.call 88 [(t 21), (t 22)]), o 24 (.field true 0 1 (t 23)), o 25 (.mv (t 3)), o 26 (.call 87 [(t 24), (t 25)]), o 27 (.mv (t 2)), o 28 (.build [(.int .i64 0), (.int .u32 0)] [(0, 1, (t 26)), (1, 1, (t 27))]), n (.store 2 (t 8) (t 28))] [])
.ret))), [.cell 8 false 2], true, none, false⟩
/-- cotterel/bus.Do -/
def f64 : AFun := ⟨163, (.seq (.region [o 3 (.box (t 0)), o 5 (.box (t 2)), o 6 (.alloc [(.imm true 0 []), (.imm true 0 [])])] [])
(.seq (.seq (.region [o 15 (.mv (t 1)), o 16 (.bin .lss (t 15) (.con (.int .i64 0))), o 17 (.mv (t 16)), g 18 (.mv (t 1)) 17 false, g 19 (.faddr (t 3) 1) 17 false, g 20 (.load true 1 (t 19)) 17 false, g 21 (.len (t 20)) 17 false, g 22 (.bin .geq (t 18) (t 21)) 17 false, o 23 (.pick (t 17) (.con (.bool true)) (t 22)), o 24 (.mv (t 23)), g 25 (.faddr (t 5) 0) 24 false, g 26 (.load true 1 (t 25)) 24 false, g 27 (.bin .lss (t 26) (.con (.int .i64 1))) 24 false, o 28 (.pick (t 24) (.con (.bool true)) (t 27)), o 29 (.mv (t 28)), g 30 (.faddr (t 5) 0) 29 false, g 31 (.load true 1 (t 30)) 29 false, g 32 (.bin .gtr (t 31) (.con (.int .i64 3))) 29 false, o 33 (.pick (t 29) (.con (.bool true)) (t 32)), o 34 (.mv (t 33)), g 35 (.load false 2 (t 3)) 34 false, g 36 (.faddr (t 5) 1) 34 false, g 37 (.load true 1 (t 36)) 34 false, g 38 (.call 89 [(t 35), (t 37)]) 34 false, g 39 (.un .not (t 38)) 34 false, o 40 (.pick (t 34) (.con (.bool true)) (t 39))] [])
 (.cond (t 40)
 (.seq (.region [o 41 (.load false 2 (t 3)), n (.store 2 (t 6) (t 41))] [])
 .ret)
 .skip))
(.seq (.region [o 42 (.faddr (t 3) 1), o 43 (.load true 1 (t 42)), o 44 (.append 1 24 (.con (.imm true 0 [])) (t 43)), o 45 (.faddr (t 3) 1), n (.store 1 (t 45) (t 44))] [])
(.seq (.seq (.region [o 46 (.faddr (t 3) 1), o 47 (.load true 1 (t 46)), o 48 (.len (t 47)), o 49 (.mv (.con (.int .i64 0)))] [])
 (.block 0 (.loop (.seq (.region [o 50 (.bin .lss (t 49) (t 48))] [])
 (.seq (.cond (t 50)
 .skip
 (.exit 0))
 (.seq (.block 1 (.seq (.region [o 51 (.mv (t 49)), o 7 (.mv (t 51))] [])
 (.seq (.region [o 52 (.load false 2 (t 3)), o 53 (.faddr (t 5) 1), o 54 (.load true 1 (t 53)), o 55 (.build [(.imm true 0 []), (.imm true 0 []), (.int .u32 0)] [(0, 2, (t 52)), (2, 1, (t 54))]), o 56 (.mv (t 7)), o 57 (.call 88 [(t 55), (t 56)]), o 8 (.alloc [(.int .i64 0), (.int .u32 0), (.int .u8 0), (.int .u8 0), (.int .u8 0), (.int .u8 0), (.int .u8 0), (.int .u8 0), (.int .u8 0), (.int .u8 0), (.int .u8 0), (.int .u8 0), (.int .u8 0), (.int .u8 0), (.int .u8 0), (.int .u8 0), (.int .u8 0), (.int .u8 0), (.int .i64 0)]), n (.store 19 (t 8) (t 57))] [])
 (.seq (.seq (.region [o 58 (.mv (t 7)), o 59 (.mv (t 1)), o 60 (.bin .eql (t 58) (t 59)), o 61 (.mv (t 60)), g 62 (.faddr (t 8) 0) 61 false, g 63 (.load true 1 (t 62)) 61 false, g 64 (.bin .eql (t 63) (.con (.int .i64 0))) 61 false, o 65 (.pick (t 61) (.con (.bool true)) (t 64))] [])
 (.cond (t 65)
 (.exit 1)
 .skip))
 (.seq (.region [o 67 (.faddr (t 8) 0), o 68 (.load true 1 (t 67)), o 69 (.faddr (t 5) 0), o 70 (.load true 1 (t 69)), o 71 (.call 90 [(t 68), (t 70)]), o 66 (.mv (t 71)), o 72 (.extract (t 66) 0), o 73 (.extract (t 66) 1), o 9 (.mv (t 72)), o 10 (.mv (t 73))] [])
 (.seq (.seq (.region [o 74 (.mv (t 10))] [])
 (.cond (t 74)
 (.seq (.region [o 75 (.faddr (t 5) 1), o 76 (.load true 1 (t 75)), o 77 (.faddr (t 8) 0), n (.store 1 (t 77) (.con (.int .i64 3))), o 78 (.faddr (t 8) 1), n (.store 1 (t 78) (t 76))] [(1, 3)])
 (.region [o 79 (.load false 2 (t 3)), o 80 (.mv (t 1)), o 81 (.load false 19 (t 8)), o 82 (.call 91 [(t 79), (t 80), (t 81)]), n (.store 2 (t 3) (t 82))] []))
 .skip))
 (.region [o 83 (.faddr (t 3) 1), o 84 (.load true 1 (t 83)), o 85 (.mv (t 7)), o 86 (.faddr (t 3) 1), o 87 (.load true 1 (t 86)), o 88 (.mv (t 7)), o 89 (.isl 1 (t 87) (t 88)), o 90 (.load false 1 (t 89)), o 91 (.faddr (t 5) 1), o 92 (.load true 1 (t 91)), o 93 (.mv (t 9)), o 94 (.call 92 [(t 90), (t 92), (t 93)]), o 95 (.isl 1 (t 84) (t 85)), n (.store 1 (t 95) (t 94))] [(1, 11)])))))))
 (.region [o 96 (.bin .add (t 49) (.con (.int .i64 1))), o 49 (.mv (t 96))] [])))))))
(.seq (.region [o 97 (.faddr (t 5) 0), o 98 (.load true 1 (t 97)), o 99 (.load false 2 (t 3)), o 100 (.mv (t 1)), o 101 (.faddr (t 5) 1), o 102 (.load true 1 (t 101)), o 103 (.call 94 [(t 99), (t 100), (t 102)]), o 104 (.call 93 [(t 98), (t 103)]), o 11 (.mv (t 104))] [(1, 6)])
(.seq (.seq (.region [o 105 (.faddr (t 5) 0), o 106 (.load true 1 (t 105)), o 107 (.bin .eql (t 106) (.con (.int .i64 3))), o 108 (.mv (t 107)), g 109 (.load false 2 (t 3)) 108 true, g 110 (.faddr (t 5) 1) 108 true, g 111 (.load true 1 (t 110)) 108 true, g 112 (.build [(.imm true 0 []), (.imm true 0 []), (.int .u32 0)] [(0, 2, (t 109)), (2, 1, (t 111))]) 108 true, g 113 (.mv (t 1)) 108 true, g 114 (.call 88 [(t 112), (t 113)]) 108 true, g 115 (.field true 0 1 (t 114)) 108 true, g 116 (.bin .neq (t 115) (.con (.int .i64 0))) 108 true, o 117 (.pick (t 108) (t 116) (.con (.bool false)))] [])
 (.cond (t 117)
 (.seq (.region [o 118 (.faddr (t 3) 1), o 119 (.load true 1 (t 118)), o 120 (.mv (t 1)), o 121 (.faddr (t 3) 1), o 122 (.load true 1 (t 121)), o 123 (.mv (t 1)), o 124 (.isl 1 (t 122) (t 123)), o 125 (.load false 1 (t 124)), o 126 (.faddr (t 5) 1), o 127 (.load true 1 (t 126)), o 128 (.mv (t 11)), o 129 (.call 92 [(t 125), (t 127), (t 128)]), o 130 (.isl 1 (t 119) (t 120)), n (.store 1 (t 130) (t 129))] [(1, 11)])
 (.seq (.region [o 131 (.load false 2 (t 3)), n (.store 2 (t 6) (t 131))] [])
 .ret))
 .skip))
(.seq (.region [o 12 (.alloc (List.replicate 16 (.int .u8 0)))] [])
(.seq (.region [o 132 (.slArr 16 1 (t 12) none none none), o 133 (.faddr (t 3) 0), o 134 (.load true 1 (t 133)), o 135 (.faddr (t 5) 1), o 136 (.load true 1 (t 135)), o 137 (.conv .i64 (t 136)), o 138 (.bin .mul (t 137) (.con (.int .i64 16))), o 139 (.slSl 1 (t 134) (some (t 138)) none none), o 140 (.copy 1 (t 132) (t 139))] [])
(.seq (.region [o 142 (.faddr (t 3) 1), o 143 (.load true 1 (t 142)), o 144 (.mv (t 1)), o 145 (.isl 1 (t 143) (t 144)), o 146 (.load false 1 (t 145)), o 147 (.faddr (t 5) 1), o 148 (.load true 1 (t 147)), o 149 (.mv (t 11)), o 150 (.load false 16 (t 12)), o 151 (.call 95 [(t 146), (t 148), (t 149), (t 150)]), o 141 (.mv (t 151)), o 152 (.extract (t 141) 0), o 153 (.extract (t 141) 1), o 13 (.alloc [(.imm true 0 [])]), o 14 (.alloc [(.int .i64 0), (.int .u32 0), (.int .u8 0), (.int .u8 0), (.int .u8 0), (.int .u8 0), (.int .u8 0), (.int .u8 0), (.int .u8 0), (.int .u8 0), (.int .u8 0), (.int .u8 0), (.int .u8 0), (.int .u8 0), (.int .u8 0), (.int .u8 0), (.int .u8 0), (.int .u8 0), (.int .i64 0)]), n (.store 1 (t 13) (t 152)), n (.store 19 (t 14) (t 153))] [(1, 13), (4, 13), (6, 13), (8, 13), (9, 13), (1, 14), (4, 14), (6, 14), (8, 14), (9, 14), (13, 14)])
(.seq (.region [o 154 (.faddr (t 3) 1), o 155 (.load true 1 (t 154)), o 156 (.mv (t 1)), o 157 (.load false 1 (t 13)), o 158 (.isl 1 (t 155) (t 156)), n (.store 1 (t 158) (t 157))] [])
(.seq (.region [o 159 (.load false 2 (t 3)), o 160 (.mv (t 1)), o 161 (.load false 19 (t 14)), o 162 (.call 91 [(t 159), (t 160), (t 161)]), n (.store 2 (t 6) (t 162))] [])
.ret))))))))))), [.cell 6 false 2], true, none, false⟩
/-- cotterel/cache.place -/
def f65 : AFun := ⟨45, (.seq (.region [o 3 (.box (t 0)), o 6 (.mv (.con (.int .i64 0))), o 7 (.mv (.con (.int .i64 0))), o 8 (.mv (.con (.int .i64 0))), o 9 (.mv (.con (.bool false)))] [])
(.seq (.region [o 14 (.mv (t 1)), o 15 (.bin .rem (t 14) (.con (.int .u32 16))), o 16 (.conv .i64 (t 15)), o 10 (.mv (t 16))] [])
(.seq (.seq (.region [o 17 (.mv (t 2)), o 18 (.bin .neq (t 17) (.con (.int .i64 1))), o 19 (.mv (t 18)), g 20 (.mv (t 2)) 19 true, g 21 (.bin .neq (t 20) (.con (.int .i64 2))) 19 true, o 22 (.pick (t 19) (t 21) (.con (.bool false))), o 23 (.mv (t 22)), g 24 (.mv (t 2)) 23 true, g 25 (.bin .neq (t 24) (.con (.int .i64 4))) 23 true, o 26 (.pick (t 23) (t 25) (.con (.bool false))), o 27 (.mv (t 26)), g 28 (.mv (t 10)) 27 false, g 29 (.mv (t 2)) 27 false, g 30 (.bin .add (t 28) (t 29)) 27 false, g 31 (.bin .gtr (t 30) (.con (.int .i64 16))) 27 false, o 32 (.pick (t 27) (.con (.bool true)) (t 31))] [])
 (.cond (t 32)
 (.seq (.region [o 6 (.mv (.con (.int .i64 0))), o 7 (.mv (.con (.int .i64 0))), o 8 (.mv (.con (.int .i64 0))), o 9 (.mv (.con (.bool false)))] [])
 .ret)
 .skip))
(.seq (.region [o 34 (.load false 1 (t 3)), o 35 (.mv (t 1)), o 36 (.call 40 [(t 35)]), o 37 (.call 69 [(t 34), (t 36)]), o 33 (.mv (t 37)), o 38 (.extract (t 33) 0), o 39 (.extract (t 33) 1), o 40 (.extract (t 33) 2), o 11 (.mv (t 38)), o 12 (.mv (t 39)), o 13 (.mv (t 40))] [(0, 2)])
(.seq (.region [o 41 (.mv (t 11)), o 42 (.mv (t 12)), o 43 (.mv (t 10)), o 44 (.mv (t 13)), o 6 (.mv (t 41)), o 7 (.mv (t 42)), o 8 (.mv (t 43)), o 9 (.mv (t 44))] [])
.ret))))), [.tmp 6, .tmp 7, .tmp 8, .tmp 9], true, none, false⟩
/-- cotterel/cache.with -/
def f66 : AFun := ⟨21, (.seq (.region [o 2 (.box (t 0)), o 4 (.alloc [(.imm true 0 [])])] [])
(.seq (.region [o 6 (.faddr (t 2) 0), o 7 (.load true 1 (t 6)), o 8 (.call 96 [(t 7)]), o 9 (.build [(.imm true 0 [])] [(0, 1, (t 8))]), o 5 (.alloc [(.imm true 0 [])]), n (.store 1 (t 5) (t 9))] [])
(.seq (.region [o 10 (.faddr (t 5) 0), o 11 (.load true 1 (t 10)), o 12 (.mv (t 1)), o 13 (.faddr (t 2) 0), o 14 (.load true 1 (t 13)), o 15 (.mv (t 1)), o 16 (.isl 1 (t 14) (t 15)), o 17 (.load true 1 (t 16)), o 18 (.call 97 [(t 17)]), o 19 (.isl 1 (t 11) (t 12)), n (.store 1 (t 19) (t 18))] [(1, 8)])
(.seq (.region [o 20 (.load false 1 (t 5)), n (.store 1 (t 4) (t 20))] [])
.ret)))), [.cell 4 false 1], false, none, false⟩
/-- cotterel/bits.Bytes -/
def f67 : AFun := ⟨25, (.seq (.region [o 4 (.mv (.con (.imm true 0 [])))] [])
(.seq (.region [o 7 (.mv (t 1)), o 8 (.call 98 [(t 7), (.con (.int .i64 0)), (.con (.int .i64 4))]), o 9 (.mksl [(.int .u8 0)] 1 1 (t 8) (t 8)), o 5 (.mv (t 9))] [])
(.seq (.seq (.region [o 10 (.mv (t 5)), o 11 (.len (t 10)), o 12 (.mv (.con (.int .i64 0)))] [])
 (.block 0 (.loop (.seq (.region [o 13 (.bin .lss (t 12) (t 11))] [])
 (.seq (.cond (t 13)
 .skip
 (.exit 0))
 (.seq (.block 1 (.seq (.region [o 14 (.mv (t 12)), o 6 (.mv (t 14))] [])
 (.region [o 15 (.mv (t 5)), o 16 (.mv (t 6)), o 17 (.mv (t 0)), o 18 (.mv (t 6)), o 19 (.bin .mul (.con (.int .i64 8)) (t 18)), o 20 (.bin .shr (t 17) (t 19)), o 21 (.conv .u8 (t 20)), o 22 (.isl 1 (t 15) (t 16)), n (.store 1 (t 22) (t 21))] [])))
 (.region [o 23 (.bin .add (t 12) (.con (.int .i64 1))), o 12 (.mv (t 23))] [])))))))
(.seq (.region [o 24 (.mv (t 5)), o 4 (.mv (t 24))] [])
.ret)))), [.tmp 4], true, none, false⟩
/-- cotterel/cache.Find -/
def f69 : AFun := ⟨19, (.seq (.region [o 2 (.box (t 0)), o 3 (.box (t 1)), o 4 (.mv (.con (.int .i64 0))), o 5 (.mv (.con (.int .i64 0))), o 6 (.mv (.con (.bool false)))] [])
(.seq (.region [o 8 (.load false 1 (t 2)), o 9 (.load true 1 (t 3)), o 10 (.call 100 [(t 8), (t 9)]), o 11 (.mkfn 101 [] [(t 3)]), o 12 (.call 99 [(t 10), (t 11)]), o 7 (.mv (t 12))] [])
(.seq (.seq (.region [o 13 (.mv (t 7)), o 14 (.bin .lss (t 13) (.con (.int .i64 0)))] [])
 (.cond (t 14)
 (.seq (.region [o 4 (.mv (.con (.int .i64 0))), o 5 (.mv (.con (.int .i64 0))), o 6 (.mv (.con (.bool false)))] [])
 .ret)
 .skip))
(.seq (.region [o 15 (.load false 1 (t 2)), o 16 (.load true 1 (t 3)), o 17 (.call 102 [(t 15), (t 16)]), o 18 (.mv (t 7)), o 4 (.mv (t 17)), o 5 (.mv (t 18)), o 6 (.mv (.con (.bool true)))] [])
.ret)))), [.tmp 4, .tmp 5, .tmp 6], true, none, false⟩
/-- cotterel/cache.Touch -/
def f70 : AFun := ⟨86, (.seq (.region [o 3 (.box (t 0)), o 6 (.alloc [(.imm true 0 [])])] [])
(.seq (.seq (.region [o 11 (.mv (t 1)), o 12 (.bin .lss (t 11) (.con (.int .i64 0))), o 13 (.mv (t 12)), g 14 (.mv (t 1)) 13 false, g 15 (.faddr (t 3) 0) 13 false, g 16 (.load true 1 (t 15)) 13 false, g 17 (.len (t 16)) 13 false, g 18 (.bin .geq (t 14) (t 17)) 13 false, o 19 (.pick (t 13) (.con (.bool true)) (t 18)), o 20 (.mv (t 19)), g 21 (.mv (t 2)) 20 false, g 22 (.bin .lss (t 21) (.con (.int .i64 0))) 20 false, o 23 (.pick (t 20) (.con (.bool true)) (t 22)), o 24 (.mv (t 23)), g 25 (.mv (t 2)) 24 false, g 26 (.faddr (t 3) 0) 24 false, g 27 (.load true 1 (t 26)) 24 false, g 28 (.mv (t 1)) 24 false, g 29 (.isl 1 (t 27) (t 28)) 24 false, g 30 (.load true 1 (t 29)) 24 false, g 31 (.len (t 30)) 24 false, g 32 (.bin .geq (t 25) (t 31)) 24 false, o 33 (.pick (t 24) (.con (.bool true)) (t 32))] [])
 (.cond (t 33)
 (.seq (.region [o 34 (.load false 1 (t 3)), n (.store 1 (t 6) (t 34))] [])
 .ret)
 .skip))
(.seq (.region [o 35 (.load false 1 (t 3)), o 36 (.mv (t 1)), o 37 (.call 66 [(t 35), (t 36)]), o 7 (.alloc [(.imm true 0 [])]), n (.store 1 (t 7) (t 37))] [])
(.seq (.region [o 38 (.faddr (t 7) 0), o 39 (.load true 1 (t 38)), o 40 (.mv (t 1)), o 41 (.isl 1 (t 39) (t 40)), o 42 (.load true 1 (t 41)), o 43 (.mv (t 2)), o 44 (.isl 19 (t 42) (t 43)), o 45 (.faddr (t 44) 18), o 46 (.load true 1 (t 45)), o 8 (.mv (t 46))] [])
(.seq (.seq (.region [o 47 (.faddr (t 7) 0), o 48 (.load true 1 (t 47)), o 49 (.mv (t 1)), o 50 (.isl 1 (t 48) (t 49)), o 51 (.load true 1 (t 50)), o 52 (.len (t 51)), o 53 (.mv (.con (.int .i64 0)))] [])
 (.block 0 (.loop (.seq (.region [o 54 (.bin .lss (t 53) (t 52))] [])
 (.seq (.cond (t 54)
 .skip
 (.exit 0))
 (.seq (.block 1 (.seq (.region [o 55 (.mv (t 53)), o 9 (.mv (t 55))] [])
 (.seq (.region [o 56 (.faddr (t 7) 0), o 57 (.load true 1 (t 56)), o 58 (.mv (t 1)), o 59 (.isl 1 (t 57) (t 58)), o 60 (.load true 1 (t 59)), o 61 (.mv (t 9)), o 62 (.isl 19 (t 60) (t 61)), o 10 (.mv (t 62))] [])
 (.seq (.region [o 63 (.mv (t 10)), o 64 (.nilchk (t 63)), o 65 (.faddr (t 64) 18), o 66 (.load true 1 (t 65)), o 67 (.mv (t 8)), o 68 (.bin .lss (t 66) (t 67))] [])
 (.cond (t 68)
 (.region [o 69 (.mv (t 10)), o 70 (.nilchk (t 69)), o 71 (.faddr (t 70) 18), o 72 (.load true 1 (t 71)), o 73 (.bin .add (t 72) (.con (.int .i64 1))), o 74 (.nilchk (t 69)), o 75 (.faddr (t 74) 18), n (.store 1 (t 75) (t 73))] [])
 .skip)))))
 (.region [o 76 (.bin .add (t 53) (.con (.int .i64 1))), o 53 (.mv (t 76))] [])))))))
(.seq (.region [o 77 (.faddr (t 7) 0), o 78 (.load true 1 (t 77)), o 79 (.mv (t 1)), o 80 (.isl 1 (t 78) (t 79)), o 81 (.load true 1 (t 80)), o 82 (.mv (t 2)), o 83 (.isl 19 (t 81) (t 82)), o 84 (.faddr (t 83) 18), n (.store 1 (t 84) (.con (.int .i64 0)))] [])
(.seq (.region [o 85 (.load false 1 (t 7)), n (.store 1 (t 6) (t 85))] [])
.ret))))))), [.cell 6 false 1], true, none, false⟩
/-- cotterel/cotterelref40.Has -/
def f71 : AFun := ⟨14, (.seq (.region [o 2 (.box (t 0)), o 4 (.mv (.con (.bool false)))] [])
(.seq (.region [o 5 (.mv (t 1)), o 6 (.bin .geq (t 5) (.con (.int .i64 0))), o 7 (.mv (t 6)), g 8 (.mv (t 1)) 7 true, g 9 (.faddr (t 2) 1) 7 true, g 10 (.load true 1 (t 9)) 7 true, g 11 (.len (t 10)) 7 true, g 12 (.bin .lss (t 8) (t 11)) 7 true, o 13 (.pick (t 7) (t 12) (.con (.bool false))), o 4 (.mv (t 13))] [])
.ret)), [.tmp 4], true, none, false⟩
/-- cotterel/cotterelref38.Ask -/
def f72 : AFun := ⟨26, (.seq (.region [o 4 (.mv (.con (.int .i64 0)))] [])
(.seq (.seq (.region [o 5 (.mv (t 1)), o 6 (.bin .eql (t 5) (.con (.int .i64 1))), o 7 (.mv (t 6)), g 8 (.mv (t 0)) 7 true, g 9 (.call 103 [(t 8)]) 7 true, g 10 (.bin .eql (t 9) (.con (.int .i64 0))) 7 true, o 11 (.pick (t 7) (t 10) (.con (.bool false)))] [])
 (.cond (t 11)
 (.seq (.region [o 4 (.mv (.con (.int .i64 1)))] [])
 .ret)
 .skip))
(.seq (.seq (.region [o 12 (.mv (t 1)), o 13 (.bin .eql (t 12) (.con (.int .i64 2))), o 14 (.mv (t 13)), g 15 (.mv (t 0)) 14 true, g 16 (.call 103 [(t 15)]) 14 true, g 17 (.bin .eql (t 16) (.con (.int .i64 0))) 14 true, o 18 (.pick (t 14) (t 17) (.con (.bool false)))] [])
 (.cond (t 18)
 (.seq (.region [o 4 (.mv (.con (.int .i64 2)))] [])
 .ret)
 .skip))
(.seq (.seq (.region [o 19 (.mv (t 1)), o 20 (.bin .eql (t 19) (.con (.int .i64 2))), o 21 (.mv (t 20)), g 22 (.mv (t 0)) 21 true, g 23 (.call 103 [(t 22)]) 21 true, g 24 (.bin .eql (t 23) (.con (.int .i64 1))) 21 true, o 25 (.pick (t 21) (t 24) (.con (.bool false)))] [])
 (.cond (t 25)
 (.seq (.region [o 4 (.mv (.con (.int .i64 3)))] [])
 .ret)
 .skip))
(.seq (.region [o 4 (.mv (.con (.int .i64 0)))] [])
.ret))))), [.tmp 4], true, none, false⟩
/-- cotterel/cotterelref40.State -/
def f73 : AFun := ⟨19, (.seq (.region [o 3 (.box (t 0)), o 6 (.mv (.con (.int .i64 0)))] [])
(.seq (.seq (.region [o 7 (.load false 2 (t 3)), o 8 (.mv (t 1)), o 9 (.call 71 [(t 7), (t 8)]), o 10 (.un .not (t 9))] [])
 (.cond (t 10)
 (.seq (.region [o 6 (.mv (.con (.int .i64 0)))] [])
 .ret)
 .skip))
(.seq (.region [o 11 (.faddr (t 3) 1), o 12 (.load true 1 (t 11)), o 13 (.mv (t 1)), o 14 (.isl 1 (t 12) (t 13)), o 15 (.load false 1 (t 14)), o 16 (.mv (t 2)), o 17 (.call 76 [(t 15), (t 16)]), o 18 (.field true 0 1 (t 17)), o 6 (.mv (t 18))] [])
.ret))), [.tmp 6], true, none, false⟩
/-- cotterel/cotterelref40.Lies -/
def f74 : AFun := ⟨14, (.seq (.region [o 2 (.box (t 0)), o 4 (.mv (.con (.bool false)))] [])
(.seq (.region [o 5 (.mv (t 1)), o 6 (.conv .u64 (t 5)), o 7 (.bin .mul (t 6) (.con (.int .u64 16))), o 8 (.bin .add (t 7) (.con (.int .u64 16))), o 9 (.faddr (t 2) 0), o 10 (.load true 1 (t 9)), o 11 (.len (t 10)), o 12 (.conv .u64 (t 11)), o 13 (.bin .leq (t 8) (t 12)), o 4 (.mv (t 13))] [])
.ret)), [.tmp 4], true, none, false⟩
/-- cotterel/cotterelref40.copied -/
def f75 : AFun := ⟨24, (.seq (.region [o 1 (.box (t 0)), o 2 (.alloc [(.imm true 0 []), (.imm true 0 [])])] [])
(.seq (.region [o 4 (.faddr (t 1) 0), o 5 (.load true 1 (t 4)), o 6 (.len (t 5)), o 7 (.mksl [(.int .u8 0)] 1 1 (t 6) (t 6)), o 8 (.faddr (t 1) 1), o 9 (.load true 1 (t 8)), o 10 (.len (t 9)), o 11 (.mksl [(.imm true 0 [])] 1 24 (t 10) (t 10)), o 12 (.build [(.imm true 0 []), (.imm true 0 [])] [(0, 1, (t 7)), (1, 1, (t 11))]), o 3 (.alloc [(.imm true 0 []), (.imm true 0 [])]), n (.store 2 (t 3) (t 12))] [(3, 5), (1, 7), (3, 7), (1, 9), (3, 9), (5, 9), (7, 9)])
(.seq (.region [o 13 (.faddr (t 3) 0), o 14 (.load true 1 (t 13)), o 15 (.faddr (t 1) 0), o 16 (.load true 1 (t 15)), o 17 (.copy 1 (t 14) (t 16))] [])
(.seq (.region [o 18 (.faddr (t 3) 1), o 19 (.load true 1 (t 18)), o 20 (.faddr (t 1) 1), o 21 (.load true 1 (t 20)), o 22 (.copy 1 (t 19) (t 21))] [])
(.seq (.region [o 23 (.load false 2 (t 3)), n (.store 2 (t 2) (t 23))] [])
.ret))))), [.cell 2 false 2], false, none, false⟩
/-- cotterel/cotterelref40.way -/
def f76 : AFun := ⟨26, (.seq (.region [o 2 (.box (t 0)), o 4 (.alloc [(.int .i64 0), (.int .u32 0), (.int .u8 0), (.int .u8 0), (.int .u8 0), (.int .u8 0), (.int .u8 0), (.int .u8 0), (.int .u8 0), (.int .u8 0), (.int .u8 0), (.int .u8 0), (.int .u8 0), (.int .u8 0), (.int .u8 0), (.int .u8 0), (.int .u8 0), (.int .u8 0), (.int .i64 0)])] [])
(.seq (.region [o 9 (.load false 1 (t 2)), o 10 (.mv (t 1)), o 11 (.call 57 [(t 9), (t 10)]), o 8 (.mv (t 11)), o 12 (.extract (t 8) 0), o 13 (.extract (t 8) 1), o 14 (.extract (t 8) 2), o 5 (.mv (t 12)), o 6 (.mv (t 13)), o 7 (.mv (t 14))] [])
(.seq (.seq (.region [o 15 (.mv (t 7)), o 16 (.un .not (t 15))] [])
 (.cond (t 16)
 (.seq (.region [o 17 (.build [(.int .i64 0), (.int .u32 0), (.int .u8 0), (.int .u8 0), (.int .u8 0), (.int .u8 0), (.int .u8 0), (.int .u8 0), (.int .u8 0), (.int .u8 0), (.int .u8 0), (.int .u8 0), (.int .u8 0), (.int .u8 0), (.int .u8 0), (.int .u8 0), (.int .u8 0), (.int .u8 0), (.int .i64 0)] []), n (.store 19 (t 4) (t 17))] [])
 .ret)
 .skip))
(.seq (.region [o 18 (.faddr (t 2) 0), o 19 (.load true 1 (t 18)), o 20 (.mv (t 5)), o 21 (.isl 1 (t 19) (t 20)), o 22 (.load true 1 (t 21)), o 23 (.mv (t 6)), o 24 (.isl 19 (t 22) (t 23)), o 25 (.load false 19 (t 24)), n (.store 19 (t 4) (t 25))] [])
.ret)))), [.cell 4 false 19], true, none, false⟩
/-- cotterel/cotterelref38.Snoop -/
def f77 : AFun := ⟨27, (.seq (.region [o 4 (.mv (.con (.int .i64 0))), o 5 (.mv (.con (.bool false)))] [])
(.seq (.region [o 7 (.mv (t 0)), o 8 (.call 103 [(t 7)]), o 9 (.bin .eql (t 8) (.con (.int .i64 3))), o 6 (.mv (t 9))] [])
(.seq (.seq (.region [o 10 (.mv (t 1)), o 11 (.bin .eql (t 10) (.con (.int .i64 2))), o 12 (.mv (t 11)), g 13 (.mv (t 1)) 12 false, g 14 (.bin .eql (t 13) (.con (.int .i64 3))) 12 false, o 15 (.pick (t 12) (.con (.bool true)) (t 14))] [])
 (.cond (t 15)
 (.seq (.region [o 16 (.mv (t 6)), o 4 (.mv (.con (.int .i64 0))), o 5 (.mv (t 16))] [])
 .ret)
 .skip))
(.seq (.seq (.region [o 17 (.mv (t 1)), o 18 (.bin .eql (t 17) (.con (.int .i64 1))), o 19 (.mv (t 18)), g 20 (.mv (t 0)) 19 true, g 21 (.call 103 [(t 20)]) 19 true, g 22 (.bin .gtr (t 21) (.con (.int .i64 0))) 19 true, o 23 (.pick (t 19) (t 22) (.con (.bool false)))] [])
 (.cond (t 23)
 (.seq (.region [o 24 (.mv (t 6)), o 4 (.mv (.con (.int .i64 1))), o 5 (.mv (t 24))] [])
 .ret)
 .skip))
(.seq (.region [o 25 (.mv (t 0)), o 26 (.call 103 [(t 25)]), o 4 (.mv (t 26)), o 5 (.mv (.con (.bool false)))] [])
.ret))))), [.tmp 4, .tmp 5], true, none, false⟩
/-- cotterel/cotterelref40.put -/
def f78 : AFun := ⟨32, (.seq (.region [o 3 (.box (t 0)), o 5 (.box (t 2)), o 6 (.alloc [(.imm true 0 []), (.imm true 0 [])])] [])
(.seq (.seq (.region [o 9 (.load false 2 (t 3)), o 10 (.mv (t 1)), o 11 (.call 74 [(t 9), (t 10)]), o 12 (.un .not (t 11))] [])
 (.cond (t 12)
 (.seq (.region [o 13 (.load false 2 (t 3)), n (.store 2 (t 6) (t 13))] [])
 .ret)
 .skip))
(.seq (.region [o 14 (.load false 2 (t 3)), o 15 (.call 75 [(t 14)]), o 7 (.alloc [(.imm true 0 []), (.imm true 0 [])]), n (.store 2 (t 7) (t 15))] [])
(.seq (.seq (.region [o 8 (.mv (.con (.int .i64 0)))] [])
 (.block 0 (.loop (.seq (.seq (.region [o 16 (.mv (t 8)), o 17 (.bin .lss (t 16) (.con (.int .i64 16)))] [])
 (.cond (t 17)
 .skip
 (.exit 0)))
 (.seq (.block 1 (.region [o 20 (.faddr (t 7) 0), o 21 (.load true 1 (t 20)), o 22 (.mv (t 1)), o 23 (.conv .i64 (t 22)), o 24 (.bin .mul (t 23) (.con (.int .i64 16))), o 25 (.mv (t 8)), o 26 (.bin .add (t 24) (t 25)), o 27 (.mv (t 8)), o 28 (.iarr 16 1 (t 5) (t 27)), o 29 (.load true 1 (t 28)), o 30 (.isl 1 (t 21) (t 26)), n (.store 1 (t 30) (t 29))] []))
 (.region [o 18 (.mv (t 8)), o 19 (.bin .add (t 18) (.con (.int .i64 1))), o 8 (.mv (t 19))] []))))))
(.seq (.region [o 31 (.load false 2 (t 7)), n (.store 2 (t 6) (t 31))] [])
.ret))))), [.cell 6 false 2], false, none, false⟩
/-- cotterel/cotterelref39.Set -/
def f79 : AFun := ⟨60, (.seq (.region [o 3 (.box (t 0)), o 6 (.alloc [(.imm true 0 [])])] [])
(.seq (.region [o 11 (.load false 1 (t 3)), o 12 (.call 59 [(t 11)]), o 7 (.alloc [(.imm true 0 [])]), n (.store 1 (t 7) (t 12))] [])
(.seq (.region [o 14 (.load false 1 (t 3)), o 15 (.mv (t 1)), o 16 (.call 57 [(t 14), (t 15)]), o 13 (.mv (t 16)), o 17 (.extract (t 13) 0), o 18 (.extract (t 13) 1), o 19 (.extract (t 13) 2), o 8 (.mv (t 17)), o 9 (.mv (t 18)), o 10 (.mv (t 19))] [])
(.seq (.seq (.region [o 20 (.mv (t 10)), o 21 (.un .not (t 20)), o 22 (.mv (t 21)), g 23 (.mv (t 2)) 22 false, g 24 (.bin .lss (t 23) (.con (.int .i64 0))) 22 false, o 25 (.pick (t 22) (.con (.bool true)) (t 24)), o 26 (.mv (t 25)), g 27 (.mv (t 2)) 26 false, g 28 (.bin .gtr (t 27) (.con (.int .i64 3))) 26 false, o 29 (.pick (t 26) (.con (.bool true)) (t 28))] [])
 (.cond (t 29)
 (.seq (.region [o 30 (.load false 1 (t 7)), n (.store 1 (t 6) (t 30))] [])
 .ret)
 .skip))
(.seq (.region [o 31 (.faddr (t 7) 0), o 32 (.load true 1 (t 31)), o 33 (.mv (t 8)), o 34 (.isl 1 (t 32) (t 33)), o 35 (.load true 1 (t 34)), o 36 (.mv (t 9)), o 37 (.mv (t 2)), o 38 (.isl 19 (t 35) (t 36)), o 39 (.faddr (t 38) 0), n (.store 1 (t 39) (t 37))] [])
(.seq (.seq (.region [o 40 (.mv (t 2)), o 41 (.bin .eql (t 40) (.con (.int .i64 0)))] [])
 (.cond (t 41)
 (.region [o 42 (.faddr (t 7) 0), o 43 (.load true 1 (t 42)), o 44 (.mv (t 8)), o 45 (.isl 1 (t 43) (t 44)), o 46 (.load true 1 (t 45)), o 47 (.mv (t 9)), o 48 (.faddr (t 3) 0), o 49 (.load true 1 (t 48)), o 50 (.mv (t 8)), o 51 (.isl 1 (t 49) (t 50)), o 52 (.load true 1 (t 51)), o 53 (.mv (t 9)), o 54 (.isl 19 (t 52) (t 53)), o 55 (.faddr (t 54) 18), o 56 (.load true 1 (t 55)), o 57 (.build [(.int .i64 0), (.int .u32 0), (.int .u8 0), (.int .u8 0), (.int .u8 0), (.int .u8 0), (.int .u8 0), (.int .u8 0), (.int .u8 0), (.int .u8 0), (.int .u8 0), (.int .u8 0), (.int .u8 0), (.int .u8 0), (.int .u8 0), (.int .u8 0), (.int .u8 0), (.int .u8 0), (.int .i64 0)] [(18, 1, (t 56))]), o 58 (.isl 19 (t 46) (t 47)), n (.store 19 (t 58) (t 57))] [])
 .skip))
(.seq (.region [o 59 (.load false 1 (t 7)), n (.store 1 (t 6) (t 59))] [])
.ret))))))), [.cell 6 false 1], true, none, false⟩
/-- cotterel/cotterelref38.Got -/
def f80 : AFun := ⟨18, (.seq (.region [o 4 (.mv (.con (.int .i64 0)))] [])
(.seq (.seq (.region [o 5 (.mv (t 0)), o 6 (.bin .eql (t 5) (.con (.int .i64 1))), o 7 (.mv (t 6)), g 8 (.mv (t 1)) 7 true, o 9 (.pick (t 7) (t 8) (.con (.bool false)))] [])
 (.cond (t 9)
 (.seq (.region [o 4 (.mv (.con (.int .i64 1)))] [])
 .ret)
 .skip))
(.seq (.seq (.region [o 10 (.mv (t 0)), o 11 (.bin .eql (t 10) (.con (.int .i64 1)))] [])
 (.cond (t 11)
 (.seq (.region [o 4 (.mv (.con (.int .i64 2)))] [])
 .ret)
 .skip))
(.seq (.seq (.region [o 12 (.mv (t 0)), o 13 (.bin .eql (t 12) (.con (.int .i64 2))), o 14 (.mv (t 13)), g 15 (.mv (t 0)) 14 false, g 16 (.bin .eql (t 15) (.con (.int .i64 3))) 14 false, o 17 (.pick (t 14) (.con (.bool true)) (t 16))] [])
 (.cond (t 17)
 (.seq (.region [o 4 (.mv (.con (.int .i64 3)))] [])
 .ret)
 .skip))
(.seq (.region [o 4 (.mv (.con (.int .i64 0)))] [])
.ret))))), [.tmp 4], true, none, false⟩
/-- cotterel/cotterelref40.Shared -/
def f81 : AFun := ⟨25, (.seq (.region [o 3 (.box (t 0)), o 6 (.mv (.con (.bool false)))] [])
(.seq (.seq (.region [o 7 (.mv (.con (.int .i64 0)))] [])
 (.block 0 (.loop (.seq (.seq (.region [o 8 (.mv (t 7)), o 9 (.faddr (t 3) 1), o 10 (.load true 1 (t 9)), o 11 (.len (t 10)), o 12 (.bin .lss (t 8) (t 11))] [])
 (.cond (t 12)
 .skip
 (.exit 0)))
 (.seq (.block 1 (.seq (.region [o 15 (.mv (t 7)), o 16 (.mv (t 1)), o 17 (.bin .neq (t 15) (t 16)), o 18 (.mv (t 17)), g 19 (.load false 2 (t 3)) 18 true, g 20 (.mv (t 7)) 18 true, g 21 (.mv (t 2)) 18 true, g 22 (.call 73 [(t 19), (t 20), (t 21)]) 18 true, g 23 (.bin .neq (t 22) (.con (.int .i64 0))) 18 true, o 24 (.pick (t 18) (t 23) (.con (.bool false)))] [])
 (.cond (t 24)
 (.seq (.region [o 6 (.mv (.con (.bool true)))] [])
 .ret)
 .skip)))
 (.region [o 13 (.mv (t 7)), o 14 (.bin .add (t 13) (.con (.int .i64 1))), o 7 (.mv (t 14))] []))))))
(.seq (.region [o 6 (.mv (.con (.bool false)))] [])
.ret))), [.tmp 6], true, none, false⟩
/-- cotterel/cotterelref39.Fill -/
def f82 : AFun := ⟨74, (.seq (.region [o 4 (.box (t 0)), o 7 (.box (t 3)), o 8 (.alloc [(.imm true 0 [])]), o 9 (.alloc [(.int .i64 0), (.int .u32 0), (.int .u8 0), (.int .u8 0), (.int .u8 0), (.int .u8 0), (.int .u8 0), (.int .u8 0), (.int .u8 0), (.int .u8 0), (.int .u8 0), (.int .u8 0), (.int .u8 0), (.int .u8 0), (.int .u8 0), (.int .u8 0), (.int .u8 0), (.int .u8 0), (.int .i64 0)])] [])
(.seq (.region [o 15 (.load false 1 (t 4)), o 16 (.mv (t 1)), o 17 (.call 104 [(t 15), (t 16)]), o 14 (.mv (t 17)), o 18 (.extract (t 14) 0), o 19 (.extract (t 14) 1), o 10 (.mv (t 18)), o 11 (.mv (t 19))] [])
(.seq (.seq (.region [o 20 (.mv (t 2)), o 21 (.bin .lss (t 20) (.con (.int .i64 1))), o 22 (.mv (t 21)), g 23 (.mv (t 2)) 22 false, g 24 (.bin .gtr (t 23) (.con (.int .i64 3))) 22 false, o 25 (.pick (t 22) (.con (.bool true)) (t 24)), o 26 (.mv (t 25)), g 27 (.load false 1 (t 4)) 26 false, g 28 (.mv (t 10)) 26 false, g 29 (.mv (t 11)) 26 false, g 30 (.call 86 [(t 27), (t 28), (t 29)]) 26 false, g 31 (.un .not (t 30)) 26 false, o 32 (.pick (t 26) (.con (.bool true)) (t 31))] [])
 (.cond (t 32)
 (.seq (.region [o 33 (.load false 1 (t 4)), o 34 (.call 59 [(t 33)]), o 35 (.build [(.int .i64 0), (.int .u32 0), (.int .u8 0), (.int .u8 0), (.int .u8 0), (.int .u8 0), (.int .u8 0), (.int .u8 0), (.int .u8 0), (.int .u8 0), (.int .u8 0), (.int .u8 0), (.int .u8 0), (.int .u8 0), (.int .u8 0), (.int .u8 0), (.int .u8 0), (.int .u8 0), (.int .i64 0)] []), n (.store 1 (t 8) (t 34)), n (.store 19 (t 9) (t 35))] [])
 .ret)
 .skip))
(.seq (.region [o 36 (.faddr (t 4) 0), o 37 (.load true 1 (t 36)), o 38 (.mv (t 10)), o 39 (.isl 1 (t 37) (t 38)), o 40 (.load true 1 (t 39)), o 41 (.mv (t 11)), o 42 (.isl 19 (t 40) (t 41)), o 43 (.load false 19 (t 42)), o 12 (.alloc [(.int .i64 0), (.int .u32 0), (.int .u8 0), (.int .u8 0), (.int .u8 0), (.int .u8 0), (.int .u8 0), (.int .u8 0), (.int .u8 0), (.int .u8 0), (.int .u8 0), (.int .u8 0), (.int .u8 0), (.int .u8 0), (.int .u8 0), (.int .u8 0), (.int .u8 0), (.int .u8 0), (.int .i64 0)]), n (.store 19 (t 12) (t 43))] [])
(.seq (.region [o 44 (.load false 1 (t 4)), o 45 (.call 59 [(t 44)]), o 13 (.alloc [(.imm true 0 [])]), n (.store 1 (t 13) (t 45))] [])
(.seq (.region [o 46 (.faddr (t 13) 0), o 47 (.load true 1 (t 46)), o 48 (.mv (t 10)), o 49 (.isl 1 (t 47) (t 48)), o 50 (.load true 1 (t 49)), o 51 (.mv (t 11)), o 52 (.mv (t 2)), o 53 (.mv (t 1)), o 54 (.load false 16 (t 7)), o 55 (.faddr (t 12) 18), o 56 (.load true 1 (t 55)), o 57 (.build [(.int .i64 0), (.int .u32 0), (.int .u8 0), (.int .u8 0), (.int .u8 0), (.int .u8 0), (.int .u8 0), (.int .u8 0), (.int .u8 0), (.int .u8 0), (.int .u8 0), (.int .u8 0), (.int .u8 0), (.int .u8 0), (.int .u8 0), (.int .u8 0), (.int .u8 0), (.int .u8 0), (.int .i64 0)] [(0, 1, (t 52)), (1, 1, (t 53)), (2, 16, (t 54)), (18, 1, (t 56))]), o 58 (.isl 19 (t 50) (t 51)), n (.store 19 (t 58) (t 57))] [])
(.seq (.seq (.region [o 59 (.faddr (t 12) 0), o 60 (.load true 1 (t 59)), o 61 (.bin .eql (t 60) (.con (.int .i64 0))), o 62 (.mv (t 61)), g 63 (.faddr (t 12) 1) 62 false, g 64 (.load true 1 (t 63)) 62 false, g 65 (.mv (t 1)) 62 false, g 66 (.bin .eql (t 64) (t 65)) 62 false, o 67 (.pick (t 62) (.con (.bool true)) (t 66))] [])
 (.cond (t 67)
 (.region [o 68 (.build [(.int .i64 0), (.int .u32 0), (.int .u8 0), (.int .u8 0), (.int .u8 0), (.int .u8 0), (.int .u8 0), (.int .u8 0), (.int .u8 0), (.int .u8 0), (.int .u8 0), (.int .u8 0), (.int .u8 0), (.int .u8 0), (.int .u8 0), (.int .u8 0), (.int .u8 0), (.int .u8 0), (.int .i64 0)] []), n (.store 19 (t 12) (t 68))] [])
 .skip))
(.seq (.region [o 69 (.load false 1 (t 13)), o 70 (.mv (t 10)), o 71 (.mv (t 11)), o 72 (.call 60 [(t 69), (t 70), (t 71)]), o 73 (.load false 19 (t 12)), n (.store 1 (t 8) (t 72)), n (.store 19 (t 9) (t 73))] [(3, 4), (4, 5)])
.ret)))))))), [.cell 8 false 1, .cell 9 false 19], true, none, false⟩
/-- cotterel/cotterelref40.bytes -/
def f83 : AFun := ⟨24, (.seq (.region [o 2 (.box (t 0)), o 4 (.alloc (List.replicate 16 (.int .u8 0)))] [])
(.seq (.region [o 7 (.build (List.replicate 16 (.int .u8 0)) []), o 5 (.alloc (List.replicate 16 (.int .u8 0))), n (.store 16 (t 5) (t 7))] [])
(.seq (.seq (.region [o 6 (.mv (.con (.int .i64 0)))] [])
 (.block 0 (.loop (.seq (.seq (.region [o 8 (.mv (t 6)), o 9 (.bin .lss (t 8) (.con (.int .i64 16)))] [])
 (.cond (t 9)
 .skip
 (.exit 0)))
 (.seq (.block 1 (.region [o 12 (.mv (t 6)), o 13 (.faddr (t 2) 0), o 14 (.load true 1 (t 13)), o 15 (.mv (t 1)), o 16 (.conv .i64 (t 15)), o 17 (.bin .mul (t 16) (.con (.int .i64 16))), o 18 (.mv (t 6)), o 19 (.bin .add (t 17) (t 18)), o 20 (.isl 1 (t 14) (t 19)), o 21 (.load true 1 (t 20)), o 22 (.iarr 16 1 (t 5) (t 12)), n (.store 1 (t 22) (t 21))] []))
 (.region [o 10 (.mv (t 6)), o 11 (.bin .add (t 10) (.con (.int .i64 1))), o 6 (.mv (t 11))] []))))))
(.seq (.region [o 23 (.load false 16 (t 5)), n (.store 16 (t 4) (t 23))] [])
.ret)))), [.cell 4 false 16], true, none, false⟩
/-- cotterel/cotterelref40.Back -/
def f84 : AFun := ⟨17, (.seq (.region [o 3 (.box (t 0)), o 5 (.box (t 2)), o 6 (.alloc [(.imm true 0 []), (.imm true 0 [])])] [])
(.seq (.seq (.region [o 7 (.faddr (t 5) 0), o 8 (.load true 1 (t 7)), o 9 (.bin .neq (t 8) (.con (.int .i64 3)))] [])
 (.cond (t 9)
 (.seq (.region [o 10 (.load false 2 (t 3)), n (.store 2 (t 6) (t 10))] [])
 .ret)
 .skip))
(.seq (.region [o 11 (.load false 2 (t 3)), o 12 (.faddr (t 5) 1), o 13 (.load true 1 (t 12)), o 14 (.faddr (t 5) 2), o 15 (.load false 16 (t 14)), o 16 (.call 78 [(t 11), (t 13), (t 15)]), n (.store 2 (t 6) (t 16))] [])
.ret))), [.cell 6 false 2], true, none, false⟩
/-- cotterel/cotterelref39.set -/
def f85 : AFun := ⟨15, (.seq (.region [o 2 (.box (t 0)), o 4 (.mv (.con (.int .i64 0)))] [])
(.seq (.seq (.region [o 5 (.faddr (t 2) 0), o 6 (.load true 1 (t 5)), o 7 (.len (t 6)), o 8 (.bin .eql (t 7) (.con (.int .i64 0)))] [])
 (.cond (t 8)
 (.seq (.region [o 4 (.mv (.con (.int .i64 (-1))))] [])
 .ret)
 .skip))
(.seq (.region [o 9 (.mv (t 1)), o 10 (.conv .i64 (t 9)), o 11 (.faddr (t 2) 0), o 12 (.load true 1 (t 11)), o 13 (.len (t 12)), o 14 (.bin .rem (t 10) (t 13)), o 4 (.mv (t 14))] [])
.ret))), [.tmp 4], true, none, false⟩
/-- cotterel/cotterelref39.is -/
def f86 : AFun := ⟨30, (.seq (.region [o 3 (.box (t 0)), o 6 (.mv (.con (.bool false)))] [])
(.seq (.region [o 7 (.mv (t 1)), o 8 (.bin .geq (t 7) (.con (.int .i64 0))), o 9 (.mv (t 8)), g 10 (.mv (t 1)) 9 true, g 11 (.faddr (t 3) 0) 9 true, g 12 (.load true 1 (t 11)) 9 true, g 13 (.len (t 12)) 9 true, g 14 (.bin .lss (t 10) (t 13)) 9 true, o 15 (.pick (t 9) (t 14) (.con (.bool false))), o 16 (.mv (t 15)), g 17 (.mv (t 2)) 16 true, g 18 (.bin .geq (t 17) (.con (.int .i64 0))) 16 true, o 19 (.pick (t 16) (t 18) (.con (.bool false))), o 20 (.mv (t 19)), g 21 (.mv (t 2)) 20 true, g 22 (.faddr (t 3) 0) 20 true, g 23 (.load true 1 (t 22)) 20 true, g 24 (.mv (t 1)) 20 true, g 25 (.isl 1 (t 23) (t 24)) 20 true, g 26 (.load true 1 (t 25)) 20 true, g 27 (.len (t 26)) 20 true, g 28 (.bin .lss (t 21) (t 27)) 20 true, o 29 (.pick (t 20) (t 28) (.con (.bool false))), o 6 (.mv (t 29))] [])
.ret)), [.tmp 6], true, none, false⟩
/-- cotterel/mesi.Ask -/
def f87 : AFun := ⟨28, (.seq (.region [o 4 (.mv (.con (.int .i64 0)))] [])
(.seq (.region [o 5 (.mv (t 0)), o 6 (.call 105 [(t 5)]), o 0 (.mv (t 6))] [])
(.seq (.block 0 (.seq (.region [o 8 (.mv (t 1)), o 9 (.bin .eql (t 8) (.con (.int .i64 1))), o 10 (.mv (t 9)), g 11 (.mv (t 0)) 10 true, g 12 (.bin .eql (t 11) (.con (.int .i64 0))) 10 true, o 13 (.pick (t 10) (t 12) (.con (.bool false))), o 7 (.mv (t 13))] [])
 (.cond (t 7)
 (.seq (.region [o 4 (.mv (.con (.int .i64 1)))] [])
 .ret)
 (.seq (.region [o 15 (.mv (t 1)), o 16 (.bin .eql (t 15) (.con (.int .i64 2))), o 17 (.mv (t 16)), g 18 (.mv (t 0)) 17 true, g 19 (.bin .eql (t 18) (.con (.int .i64 0))) 17 true, o 20 (.pick (t 17) (t 19) (.con (.bool false))), o 14 (.mv (t 20))] [])
 (.cond (t 14)
 (.seq (.region [o 4 (.mv (.con (.int .i64 2)))] [])
 .ret)
 (.seq (.region [o 22 (.mv (t 1)), o 23 (.bin .eql (t 22) (.con (.int .i64 2))), o 24 (.mv (t 23)), g 25 (.mv (t 0)) 24 true, g 26 (.bin .eql (t 25) (.con (.int .i64 1))) 24 true, o 27 (.pick (t 24) (t 26) (.con (.bool false))), o 21 (.mv (t 27))] [])
 (.cond (t 21)
 (.seq (.region [o 4 (.mv (.con (.int .i64 3)))] [])
 .ret)
 .skip)))))))
(.seq (.region [o 4 (.mv (.con (.int .i64 0)))] [])
.ret)))), [.tmp 4], true, none, false⟩
/-- (cotterel/bus.lines).way -/
def f88 : AFun := ⟨48, (.seq (.region [o 2 (.box (t 0)), o 4 (.alloc [(.int .i64 0), (.int .u32 0), (.int .u8 0), (.int .u8 0), (.int .u8 0), (.int .u8 0), (.int .u8 0), (.int .u8 0), (.int .u8 0), (.int .u8 0), (.int .u8 0), (.int .u8 0), (.int .u8 0), (.int .u8 0), (.int .u8 0), (.int .u8 0), (.int .u8 0), (.int .u8 0), (.int .i64 0)])] [])
(.seq (.seq (.region [o 8 (.mv (t 1)), o 9 (.bin .lss (t 8) (.con (.int .i64 0))), o 10 (.mv (t 9)), g 11 (.mv (t 1)) 10 false, g 12 (.faddr (t 2) 0) 10 false, g 13 (.faddr (t 12) 1) 10 false, g 14 (.load true 1 (t 13)) 10 false, g 15 (.len (t 14)) 10 false, g 16 (.bin .geq (t 11) (t 15)) 10 false, o 17 (.pick (t 10) (.con (.bool true)) (t 16))] [])
 (.cond (t 17)
 (.seq (.region [o 18 (.build [(.int .i64 0), (.int .u32 0), (.int .u8 0), (.int .u8 0), (.int .u8 0), (.int .u8 0), (.int .u8 0), (.int .u8 0), (.int .u8 0), (.int .u8 0), (.int .u8 0), (.int .u8 0), (.int .u8 0), (.int .u8 0), (.int .u8 0), (.int .u8 0), (.int .u8 0), (.int .u8 0), (.int .i64 0)] []), n (.store 19 (t 4) (t 18))] [])
 .ret)
 .skip))
(.seq (.region [o 20 (.faddr (t 2) 0), o 21 (.faddr (t 20) 1), o 22 (.load true 1 (t 21)), o 23 (.mv (t 1)), o 24 (.isl 1 (t 22) (t 23)), o 25 (.load false 1 (t 24)), o 26 (.faddr (t 2) 2), o 27 (.load true 1 (t 26)), o 28 (.call 69 [(t 25), (t 27)]), o 19 (.mv (t 28)), o 29 (.extract (t 19) 0), o 30 (.extract (t 19) 1), o 31 (.extract (t 19) 2), o 5 (.mv (t 29)), o 6 (.mv (t 30)), o 7 (.mv (t 31))] [])
(.seq (.seq (.region [o 32 (.mv (t 7)), o 33 (.un .not (t 32))] [])
 (.cond (t 33)
 (.seq (.region [o 34 (.build [(.int .i64 0), (.int .u32 0), (.int .u8 0), (.int .u8 0), (.int .u8 0), (.int .u8 0), (.int .u8 0), (.int .u8 0), (.int .u8 0), (.int .u8 0), (.int .u8 0), (.int .u8 0), (.int .u8 0), (.int .u8 0), (.int .u8 0), (.int .u8 0), (.int .u8 0), (.int .u8 0), (.int .i64 0)] []), n (.store 19 (t 4) (t 34))] [])
 .ret)
 .skip))
(.seq (.region [o 35 (.faddr (t 2) 0), o 36 (.faddr (t 35) 1), o 37 (.load true 1 (t 36)), o 38 (.mv (t 1)), o 39 (.isl 1 (t 37) (t 38)), o 40 (.faddr (t 39) 0), o 41 (.load true 1 (t 40)), o 42 (.mv (t 5)), o 43 (.isl 1 (t 41) (t 42)), o 44 (.load true 1 (t 43)), o 45 (.mv (t 6)), o 46 (.isl 19 (t 44) (t 45)), o 47 (.load false 19 (t 46)), n (.store 19 (t 4) (t 47))] [])
.ret))))), [.cell 4 false 19], true, none, false⟩
/-- cotterel/bus.lies -/
def f89 : AFun := ⟨14, (.seq (.region [o 2 (.box (t 0)), o 4 (.mv (.con (.bool false)))] [])
(.seq (.region [o 5 (.mv (t 1)), o 6 (.conv .u64 (t 5)), o 7 (.bin .add (t 6) (.con (.int .u64 1))), o 8 (.bin .mul (t 7) (.con (.int .u64 16))), o 9 (.faddr (t 2) 0), o 10 (.load true 1 (t 9)), o 11 (.len (t 10)), o 12 (.conv .u64 (t 11)), o 13 (.bin .leq (t 8) (t 12)), o 4 (.mv (t 13))] [])
.ret)), [.tmp 4], true, none, false⟩
/-- cotterel/mesi.Snoop -/
def f90 : AFun := ⟨22, (.seq (.region [o 4 (.mv (.con (.int .i64 0))), o 5 (.mv (.con (.bool false)))] [])
(.seq (.region [o 7 (.mv (t 0)), o 8 (.call 105 [(t 7)]), o 0 (.mv (t 8))] [])
(.seq (.region [o 9 (.mv (t 0)), o 10 (.bin .eql (t 9) (.con (.int .i64 3))), o 6 (.mv (t 10))] [])
(.seq (.seq (.region [o 11 (.mv (t 1))] [])
 (.block 0 (.seq (.region [o 13 (.bin .eql (t 11) (.con (.int .i64 1))), o 12 (.mv (t 13))] [])
 (.cond (t 12)
 (.seq (.region [o 14 (.mv (t 0)), o 15 (.mn [(t 14), (.con (.int .i64 1))]), o 16 (.mv (t 6)), o 4 (.mv (t 15)), o 5 (.mv (t 16))] [])
 .ret)
 (.seq (.seq (.region [o 18 (.bin .eql (t 11) (.con (.int .i64 2))), o 17 (.mv (t 18))] [])
 (.cond (t 17)
 .skip
 (.region [o 19 (.bin .eql (t 11) (.con (.int .i64 3))), o 17 (.mv (t 19))] [])))
 (.cond (t 17)
 (.seq (.region [o 20 (.mv (t 6)), o 4 (.mv (.con (.int .i64 0))), o 5 (.mv (t 20))] [])
 .ret)
 .skip))))))
(.seq (.region [o 21 (.mv (t 0)), o 4 (.mv (t 21)), o 5 (.mv (.con (.bool false)))] [])
.ret))))), [.tmp 4, .tmp 5], true, none, false⟩
/-- cotterel/bus.Back -/
def f91 : AFun := ⟨33, (.seq (.region [o 3 (.box (t 0)), o 5 (.box (t 2)), o 6 (.alloc [(.imm true 0 []), (.imm true 0 [])])] [])
(.seq (.seq (.region [o 7 (.faddr (t 5) 0), o 8 (.load true 1 (t 7)), o 9 (.bin .neq (t 8) (.con (.int .i64 3))), o 10 (.mv (t 9)), g 11 (.load false 2 (t 3)) 10 false, g 12 (.faddr (t 5) 1) 10 false, g 13 (.load true 1 (t 12)) 10 false, g 14 (.call 89 [(t 11), (t 13)]) 10 false, g 15 (.un .not (t 14)) 10 false, o 16 (.pick (t 10) (.con (.bool true)) (t 15))] [])
 (.cond (t 16)
 (.seq (.region [o 17 (.load false 2 (t 3)), n (.store 2 (t 6) (t 17))] [])
 .ret)
 .skip))
(.seq (.region [o 18 (.faddr (t 3) 0), o 19 (.load true 1 (t 18)), o 20 (.append 1 1 (.con (.imm true 0 [])) (t 19)), o 21 (.faddr (t 3) 0), n (.store 1 (t 21) (t 20))] [])
(.seq (.region [o 22 (.faddr (t 3) 0), o 23 (.load true 1 (t 22)), o 24 (.faddr (t 5) 1), o 25 (.load true 1 (t 24)), o 26 (.conv .i64 (t 25)), o 27 (.bin .mul (t 26) (.con (.int .i64 16))), o 28 (.slSl 1 (t 23) (some (t 27)) none none), o 29 (.faddr (t 5) 2), o 30 (.slArr 16 1 (t 29) none none none), o 31 (.copy 1 (t 28) (t 30))] [])
(.seq (.region [o 32 (.load false 2 (t 3)), n (.store 2 (t 6) (t 32))] [])
.ret))))), [.cell 6 false 2], false, none, true⟩
/-- cotterel/cache.Set -/
def f92 : AFun := ⟨54, (.seq (.region [o 3 (.box (t 0)), o 6 (.alloc [(.imm true 0 [])])] [])
(.seq (.region [o 13 (.load false 1 (t 3)), o 14 (.mv (t 1)), o 15 (.call 69 [(t 13), (t 14)]), o 12 (.mv (t 15)), o 16 (.extract (t 12) 0), o 17 (.extract (t 12) 1), o 18 (.extract (t 12) 2), o 7 (.mv (t 16)), o 8 (.mv (t 17)), o 9 (.mv (t 18))] [])
(.seq (.seq (.region [o 19 (.mv (t 9)), o 20 (.un .not (t 19)), o 21 (.mv (t 20)), g 22 (.mv (t 2)) 21 false, g 23 (.bin .lss (t 22) (.con (.int .i64 0))) 21 false, o 24 (.pick (t 21) (.con (.bool true)) (t 23)), o 25 (.mv (t 24)), g 26 (.mv (t 2)) 25 false, g 27 (.bin .gtr (t 26) (.con (.int .i64 3))) 25 false, o 28 (.pick (t 25) (.con (.bool true)) (t 27))] [])
 (.cond (t 28)
 (.seq (.region [o 29 (.load false 1 (t 3)), n (.store 1 (t 6) (t 29))] [])
 .ret)
 .skip))
(.seq (.region [o 30 (.load false 1 (t 3)), o 31 (.mv (t 7)), o 32 (.call 66 [(t 30), (t 31)]), o 10 (.alloc [(.imm true 0 [])]), n (.store 1 (t 10) (t 32))] [])
(.seq (.region [o 33 (.faddr (t 10) 0), o 34 (.load true 1 (t 33)), o 35 (.mv (t 7)), o 36 (.isl 1 (t 34) (t 35)), o 37 (.load true 1 (t 36)), o 38 (.mv (t 8)), o 39 (.isl 19 (t 37) (t 38)), o 11 (.mv (t 39))] [])
(.seq (.region [o 40 (.mv (t 11)), o 41 (.mv (t 2)), o 42 (.nilchk (t 40)), o 43 (.faddr (t 42) 0), n (.store 1 (t 43) (t 41))] [])
(.seq (.seq (.region [o 44 (.mv (t 2)), o 45 (.bin .eql (t 44) (.con (.int .i64 0)))] [])
 (.cond (t 45)
 (.region [o 46 (.mv (t 11)), o 47 (.mv (t 11)), o 48 (.nilchk (t 47)), o 49 (.faddr (t 48) 18), o 50 (.load true 1 (t 49)), o 51 (.build [(.int .i64 0), (.int .u32 0), (.int .u8 0), (.int .u8 0), (.int .u8 0), (.int .u8 0), (.int .u8 0), (.int .u8 0), (.int .u8 0), (.int .u8 0), (.int .u8 0), (.int .u8 0), (.int .u8 0), (.int .u8 0), (.int .u8 0), (.int .u8 0), (.int .u8 0), (.int .u8 0), (.int .i64 0)] [(18, 1, (t 50))]), o 52 (.nilchk (t 46)), n (.store 19 (t 52) (t 51))] [])
 .skip))
(.seq (.region [o 53 (.load false 1 (t 10)), n (.store 1 (t 6) (t 53))] [])
.ret)))))))), [.cell 6 false 1], true, none, false⟩
/-- cotterel/mesi.Got -/
def f93 : AFun := ⟨17, (.seq (.region [o 4 (.mv (.con (.int .i64 0)))] [])
(.seq (.block 0 (.seq (.region [o 6 (.mv (t 0)), o 7 (.bin .eql (t 6) (.con (.int .i64 2))), o 8 (.mv (t 7)), g 9 (.mv (t 0)) 8 false, g 10 (.bin .eql (t 9) (.con (.int .i64 3))) 8 false, o 11 (.pick (t 8) (.con (.bool true)) (t 10)), o 5 (.mv (t 11))] [])
 (.cond (t 5)
 (.seq (.region [o 4 (.mv (.con (.int .i64 3)))] [])
 .ret)
 (.seq (.region [o 13 (.mv (t 0)), o 14 (.bin .neq (t 13) (.con (.int .i64 1))), o 12 (.mv (t 14))] [])
 (.cond (t 12)
 (.seq (.region [o 4 (.mv (.con (.int .i64 0)))] [])
 .ret)
 (.seq (.region [o 16 (.mv (t 1)), o 15 (.mv (t 16))] [])
 (.cond (t 15)
 (.seq (.region [o 4 (.mv (.con (.int .i64 1)))] [])
 .ret)
 .skip)))))))
(.seq (.region [o 4 (.mv (.con (.int .i64 2)))] [])
.ret))), [.tmp 4], true, none, false⟩
/-- cotterel/bus.Shared -/
def f94 : AFun := ⟨30, (.seq (.region [o 3 (.box (t 0)), o 6 (.mv (.con (.bool false)))] [])
(.seq (.region [o 9 (.load false 2 (t 3)), o 10 (.mv (t 2)), o 11 (.build [(.imm true 0 []), (.imm true 0 []), (.int .u32 0)] [(0, 2, (t 9)), (2, 1, (t 10))]), o 12 (.mkfn 88 [(t 11)] []), o 7 (.mv (t 12))] [])
(.seq (.seq (.region [o 13 (.faddr (t 3) 1), o 14 (.load true 1 (t 13)), o 15 (.len (t 14)), o 16 (.mv (.con (.int .i64 0)))] [])
 (.block 0 (.loop (.seq (.region [o 17 (.bin .lss (t 16) (t 15))] [])
 (.seq (.cond (t 17)
 .skip
 (.exit 0))
 (.seq (.block 1 (.seq (.region [o 18 (.mv (t 16)), o 8 (.mv (t 18))] [])
 (.seq (.region [o 19 (.mv (t 8)), o 20 (.mv (t 1)), o 21 (.bin .neq (t 19) (t 20)), o 22 (.mv (t 21)), g 23 (.mv (t 7)) 22 true, g 24 (.mv (t 8)) 22 true, g 25 (.callv (t 23) [(t 24)]) 22 true, g 26 (.field true 0 1 (t 25)) 22 true, g 27 (.bin .neq (t 26) (.con (.int .i64 0))) 22 true, o 28 (.pick (t 22) (t 27) (.con (.bool false)))] [])
 (.cond (t 28)
 (.seq (.region [o 6 (.mv (.con (.bool true)))] [])
 .ret)
 .skip))))
 (.region [o 29 (.bin .add (t 16) (.con (.int .i64 1))), o 16 (.mv (t 29))] [])))))))
(.seq (.region [o 6 (.mv (.con (.bool false)))] [])
.ret)))), [.tmp 6], true, none, false⟩
/-- cotterel/cache.Fill -/
def f95 : AFun := ⟨76, (.seq (.region [o 4 (.box (t 0)), o 7 (.box (t 3)), o 8 (.alloc [(.imm true 0 [])]), o 9 (.alloc [(.int .i64 0), (.int .u32 0), (.int .u8 0), (.int .u8 0), (.int .u8 0), (.int .u8 0), (.int .u8 0), (.int .u8 0), (.int .u8 0), (.int .u8 0), (.int .u8 0), (.int .u8 0), (.int .u8 0), (.int .u8 0), (.int .u8 0), (.int .u8 0), (.int .u8 0), (.int .u8 0), (.int .i64 0)])] [])
(.seq (.seq (.region [o 15 (.mv (t 2)), o 16 (.bin .lss (t 15) (.con (.int .i64 1))), o 17 (.mv (t 16)), g 18 (.mv (t 2)) 17 false, g 19 (.bin .gtr (t 18) (.con (.int .i64 3))) 17 false, o 20 (.pick (t 17) (.con (.bool true)) (t 19)), o 21 (.mv (t 20)), g 22 (.load false 1 (t 4)) 21 false, g 23 (.mv (t 1)) 21 false, g 24 (.call 100 [(t 22), (t 23)]) 21 false, g 25 (.len (t 24)) 21 false, g 26 (.bin .eql (t 25) (.con (.int .i64 0))) 21 false, o 27 (.pick (t 21) (.con (.bool true)) (t 26))] [])
 (.cond (t 27)
 (.seq (.region [o 28 (.load false 1 (t 4)), o 29 (.build [(.int .i64 0), (.int .u32 0), (.int .u8 0), (.int .u8 0), (.int .u8 0), (.int .u8 0), (.int .u8 0), (.int .u8 0), (.int .u8 0), (.int .u8 0), (.int .u8 0), (.int .u8 0), (.int .u8 0), (.int .u8 0), (.int .u8 0), (.int .u8 0), (.int .u8 0), (.int .u8 0), (.int .i64 0)] []), n (.store 1 (t 8) (t 28)), n (.store 19 (t 9) (t 29))] [])
 .ret)
 .skip))
(.seq (.region [o 31 (.load false 1 (t 4)), o 32 (.mv (t 1)), o 33 (.call 106 [(t 31), (t 32)]), o 30 (.mv (t 33)), o 34 (.extract (t 30) 0), o 35 (.extract (t 30) 1), o 10 (.mv (t 34)), o 11 (.mv (t 35))] [])
(.seq (.region [o 36 (.load false 1 (t 4)), o 37 (.mv (t 10)), o 38 (.call 66 [(t 36), (t 37)]), o 12 (.alloc [(.imm true 0 [])]), n (.store 1 (t 12) (t 38))] [])
(.seq (.region [o 39 (.faddr (t 12) 0), o 40 (.load true 1 (t 39)), o 41 (.mv (t 10)), o 42 (.isl 1 (t 40) (t 41)), o 43 (.load true 1 (t 42)), o 44 (.mv (t 11)), o 45 (.isl 19 (t 43) (t 44)), o 13 (.mv (t 45))] [])
(.seq (.region [o 46 (.mv (t 13)), o 47 (.nilchk (t 46)), o 48 (.load false 19 (t 47)), o 14 (.alloc [(.int .i64 0), (.int .u32 0), (.int .u8 0), (.int .u8 0), (.int .u8 0), (.int .u8 0), (.int .u8 0), (.int .u8 0), (.int .u8 0), (.int .u8 0), (.int .u8 0), (.int .u8 0), (.int .u8 0), (.int .u8 0), (.int .u8 0), (.int .u8 0), (.int .u8 0), (.int .u8 0), (.int .i64 0)]), n (.store 19 (t 14) (t 48))] [])
(.seq (.seq (.region [o 49 (.faddr (t 14) 0), o 50 (.load true 1 (t 49)), o 51 (.bin .eql (t 50) (.con (.int .i64 0))), o 52 (.mv (t 51)), g 53 (.faddr (t 14) 1) 52 false, g 54 (.load true 1 (t 53)) 52 false, g 55 (.mv (t 1)) 52 false, g 56 (.bin .eql (t 54) (t 55)) 52 false, o 57 (.pick (t 52) (.con (.bool true)) (t 56))] [])
 (.cond (t 57)
 (.region [o 58 (.build [(.int .i64 0), (.int .u32 0), (.int .u8 0), (.int .u8 0), (.int .u8 0), (.int .u8 0), (.int .u8 0), (.int .u8 0), (.int .u8 0), (.int .u8 0), (.int .u8 0), (.int .u8 0), (.int .u8 0), (.int .u8 0), (.int .u8 0), (.int .u8 0), (.int .u8 0), (.int .u8 0), (.int .i64 0)] []), n (.store 19 (t 14) (t 58))] [])
 .skip))
(.seq (.region [o 59 (.mv (t 13)), o 60 (.mv (t 13)), o 61 (.mv (t 13)), o 62 (.mv (t 2)), o 63 (.mv (t 1)), o 64 (.load false 16 (t 7)), o 65 (.nilchk (t 59)), o 66 (.faddr (t 65) 0), n (.store 1 (t 66) (t 62)), o 67 (.nilchk (t 60)), o 68 (.faddr (t 67) 1), n (.store 1 (t 68) (t 63)), o 69 (.nilchk (t 61)), o 70 (.faddr (t 69) 2), n (.store 16 (t 70) (t 64))] [(5, 8), (5, 11)])
(.seq (.region [o 71 (.load false 1 (t 12)), o 72 (.mv (t 10)), o 73 (.mv (t 11)), o 74 (.call 70 [(t 71), (t 72), (t 73)]), o 75 (.load false 19 (t 14)), n (.store 1 (t 8) (t 74)), n (.store 19 (t 9) (t 75))] [(3, 4), (4, 5)])
.ret))))))))), [.cell 8 false 1, .cell 9 false 19], true, none, false⟩
/-- cotterel/bits.clamp -/
def f98 : AFun := ⟨12, (.seq (.region [o 6 (.mv (.con (.int .i64 0)))] [])
(.seq (.region [o 7 (.mv (t 0)), o 8 (.mv (t 1)), o 9 (.mx [(t 7), (t 8)]), o 10 (.mv (t 2)), o 11 (.mn [(t 9), (t 10)]), o 6 (.mv (t 11))] [])
.ret)), [.tmp 6], true, none, false⟩
/-- slices.IndexFunc[[]cotterel/api.Way,cotterel/api.Way] -/
def f99 : AFun := ⟨19, (.seq (.region [o 4 (.mv (.con (.int .i64 0)))] [])
(.seq (.seq (.region [o 6 (.mv (t 0)), o 7 (.len (t 6)), o 8 (.mv (.con (.int .i64 0)))] [])
 (.block 0 (.loop (.seq (.region [o 9 (.bin .lss (t 8) (t 7))] [])
 (.seq (.cond (t 9)
 .skip
 (.exit 0))
 (.seq (.block 1 (.seq (.region [o 10 (.mv (t 8)), o 5 (.mv (t 10))] [])
 (.seq (.region [o 11 (.mv (t 1)), o 12 (.mv (t 0)), o 13 (.mv (t 5)), o 14 (.isl 19 (t 12) (t 13)), o 15 (.load false 19 (t 14)), o 16 (.callv (t 11) [(t 15)])] [])
 (.cond (t 16)
 (.seq (.region [o 17 (.mv (t 5)), o 4 (.mv (t 17))] [])
 .ret)
 .skip))))
 (.region [o 18 (.bin .add (t 8) (.con (.int .i64 1))), o 8 (.mv (t 18))] [])))))))
(.seq (.region [o 4 (.mv (.con (.int .i64 (-1))))] [])
.ret))), [.tmp 4], false, none, false⟩
/-- cotterel/cache.ways -/
def f100 : AFun := ⟨16, (.seq (.region [o 2 (.box (t 0)), o 4 (.mv (.con (.imm true 0 [])))] [])
(.seq (.seq (.region [o 5 (.faddr (t 2) 0), o 6 (.load true 1 (t 5)), o 7 (.len (t 6)), o 8 (.bin .eql (t 7) (.con (.int .i64 0)))] [])
 (.cond (t 8)
 (.seq (.region [o 4 (.mv (.con (.imm true 0 [])))] [])
 .ret)
 .skip))
(.seq (.region [o 9 (.faddr (t 2) 0), o 10 (.load true 1 (t 9)), o 11 (.load false 1 (t 2)), o 12 (.mv (t 1)), o 13 (.call 102 [(t 11), (t 12)]), o 14 (.isl 1 (t 10) (t 13)), o 15 (.load true 1 (t 14)), o 4 (.mv (t 15))] [(1, 4)])
.ret))), [.tmp 4], true, none, false⟩
/-- cotterel/cache.Find$1 -/
def f101 : AFun := ⟨13, (.seq (.region [o 2 (.box (t 0)), o 3 (.mv (.con (.bool false)))] [])
(.seq (.region [o 4 (.faddr (t 2) 1), o 5 (.load true 1 (t 4)), o 6 (.load true 1 (t 1)), o 7 (.bin .eql (t 5) (t 6)), o 8 (.mv (t 7)), g 9 (.faddr (t 2) 0) 8 true, g 10 (.load true 1 (t 9)) 8 true, g 11 (.bin .neq (t 10) (.con (.int .i64 0))) 8 true, o 12 (.pick (t 8) (t 11) (.con (.bool false))), o 3 (.mv (t 12))] [])
.ret)), [.tmp 3], false, none, false⟩
/-- cotterel/cache.setOf -/
def f102 : AFun := ⟨17, (.seq (.region [o 2 (.box (t 0)), o 4 (.mv (.con (.int .i64 0)))] [])
(.seq (.seq (.region [o 5 (.faddr (t 2) 0), o 6 (.load true 1 (t 5)), o 7 (.len (t 6)), o 8 (.bin .eql (t 7) (.con (.int .i64 0)))] [])
 (.cond (t 8)
 (.seq (.region [o 4 (.mv (.con (.int .i64 0)))] [])
 .ret)
 .skip))
(.seq (.region [o 9 (.mv (t 1)), o 10 (.conv .u64 (t 9)), o 11 (.faddr (t 2) 0), o 12 (.load true 1 (t 11)), o 13 (.len (t 12)), o 14 (.conv .u64 (t 13)), o 15 (.bin .rem (t 10) (t 14)), o 16 (.conv .i64 (t 15)), o 4 (.mv (t 16))] [])
.ret))), [.tmp 4], true, none, false⟩
/-- cotterel/cotterelref38.state -/
def f103 : AFun := ⟨10, (.seq (.region [o 2 (.mv (.con (.int .i64 0)))] [])
(.seq (.seq (.region [o 3 (.mv (t 0)), o 4 (.bin .lss (t 3) (.con (.int .i64 0))), o 5 (.mv (t 4)), g 6 (.mv (t 0)) 5 false, g 7 (.bin .gtr (t 6) (.con (.int .i64 3))) 5 false, o 8 (.pick (t 5) (.con (.bool true)) (t 7))] [])
 (.cond (t 8)
 (.seq (.region [o 2 (.mv (.con (.int .i64 0)))] [])
 .ret)
 .skip))
(.seq (.region [o 9 (.mv (t 0)), o 2 (.mv (t 9))] [])
.ret))), [.tmp 2], true, none, false⟩
/-- cotterel/cotterelref39.Victim -/
def f104 : AFun := ⟨70, (.seq (.region [o 2 (.box (t 0)), o 4 (.mv (.con (.int .i64 0))), o 5 (.mv (.con (.int .i64 0)))] [])
(.seq (.region [o 12 (.load false 1 (t 2)), o 13 (.mv (t 1)), o 14 (.call 57 [(t 12), (t 13)]), o 11 (.mv (t 14)), o 15 (.extract (t 11) 0), o 16 (.extract (t 11) 1), o 17 (.extract (t 11) 2), o 6 (.mv (t 15)), o 7 (.mv (t 16)), o 8 (.mv (t 17))] [])
(.seq (.seq (.region [o 18 (.mv (t 8))] [])
 (.cond (t 18)
 (.seq (.region [o 19 (.mv (t 6)), o 20 (.mv (t 7)), o 4 (.mv (t 19)), o 5 (.mv (t 20))] [])
 .ret)
 .skip))
(.seq (.region [o 21 (.load false 1 (t 2)), o 22 (.mv (t 1)), o 23 (.call 85 [(t 21), (t 22)]), o 6 (.mv (t 23))] [])
(.seq (.seq (.region [o 24 (.mv (t 6)), o 25 (.bin .lss (t 24) (.con (.int .i64 0)))] [])
 (.cond (t 25)
 (.seq (.region [o 4 (.mv (.con (.int .i64 0))), o 5 (.mv (.con (.int .i64 0)))] [])
 .ret)
 .skip))
(.seq (.region [o 9 (.mv (.con (.int .i64 0)))] [])
(.seq (.seq (.region [o 10 (.mv (.con (.int .i64 0)))] [])
 (.block 0 (.loop (.seq (.seq (.region [o 26 (.mv (t 10)), o 27 (.faddr (t 2) 0), o 28 (.load true 1 (t 27)), o 29 (.mv (t 6)), o 30 (.isl 1 (t 28) (t 29)), o 31 (.load true 1 (t 30)), o 32 (.len (t 31)), o 33 (.bin .lss (t 26) (t 32))] [])
 (.cond (t 33)
 .skip
 (.exit 0)))
 (.seq (.block 1 (.seq (.seq (.region [o 36 (.faddr (t 2) 0), o 37 (.load true 1 (t 36)), o 38 (.mv (t 6)), o 39 (.isl 1 (t 37) (t 38)), o 40 (.load true 1 (t 39)), o 41 (.mv (t 10)), o 42 (.isl 19 (t 40) (t 41)), o 43 (.faddr (t 42) 0), o 44 (.load true 1 (t 43)), o 45 (.bin .eql (t 44) (.con (.int .i64 0)))] [])
 (.cond (t 45)
 (.seq (.region [o 46 (.mv (t 6)), o 47 (.mv (t 10)), o 4 (.mv (t 46)), o 5 (.mv (t 47))] [])
 .ret)
 .skip))
 (.seq (.region [o 48 (.faddr (t 2) 0), o 49 (.load true 1 (t 48)), o 50 (.mv (t 6)), o 51 (.isl 1 (t 49) (t 50)), o 52 (.load true 1 (t 51)), o 53 (.mv (t 10)), o 54 (.isl 19 (t 52) (t 53)), o 55 (.faddr (t 54) 18), o 56 (.load true 1 (t 55)), o 57 (.faddr (t 2) 0), o 58 (.load true 1 (t 57)), o 59 (.mv (t 6)), o 60 (.isl 1 (t 58) (t 59)), o 61 (.load true 1 (t 60)), o 62 (.mv (t 9)), o 63 (.isl 19 (t 61) (t 62)), o 64 (.faddr (t 63) 18), o 65 (.load true 1 (t 64)), o 66 (.bin .gtr (t 56) (t 65))] [])
 (.cond (t 66)
 (.region [o 67 (.mv (t 10)), o 9 (.mv (t 67))] [])
 .skip))))
 (.region [o 34 (.mv (t 10)), o 35 (.bin .add (t 34) (.con (.int .i64 1))), o 10 (.mv (t 35))] []))))))
(.seq (.region [o 68 (.mv (t 6)), o 69 (.mv (t 9)), o 4 (.mv (t 68)), o 5 (.mv (t 69))] [])
.ret)))))))), [.tmp 4, .tmp 5], true, none, false⟩
/-- cotterel/mesi.of -/
def f105 : AFun := ⟨7, (.seq (.region [o 2 (.mv (.con (.int .i64 0)))] [])
(.seq (.seq (.region [o 3 (.mv (t 0)), o 4 (.call 107 [(t 3)]), o 5 (.un .not (t 4))] [])
 (.cond (t 5)
 (.seq (.region [o 2 (.mv (.con (.int .i64 0)))] [])
 .ret)
 .skip))
(.seq (.region [o 6 (.mv (t 0)), o 2 (.mv (t 6))] [])
.ret))), [.tmp 2], true, none, false⟩
/-- cotterel/cache.Victim -/
def f106 : AFun := ⟨56, (.seq (.region [o 2 (.box (t 0)), o 4 (.mv (.con (.int .i64 0))), o 5 (.mv (.con (.int .i64 0)))] [])
(.seq (.region [o 14 (.load false 1 (t 2)), o 15 (.mv (t 1)), o 16 (.call 100 [(t 14), (t 15)]), o 6 (.mv (t 16))] [])
(.seq (.seq (.region [o 18 (.load false 1 (t 2)), o 19 (.mv (t 1)), o 20 (.call 69 [(t 18), (t 19)]), o 17 (.mv (t 20)), o 21 (.extract (t 17) 0), o 22 (.extract (t 17) 1), o 23 (.extract (t 17) 2), o 7 (.mv (t 21)), o 8 (.mv (t 22)), o 9 (.mv (t 23))] [])
 (.seq (.region [o 24 (.mv (t 9))] [])
 (.cond (t 24)
 (.seq (.region [o 25 (.mv (t 7)), o 26 (.mv (t 8)), o 4 (.mv (t 25)), o 5 (.mv (t 26))] [])
 .ret)
 .skip)))
(.seq (.seq (.region [o 27 (.mv (t 6)), o 28 (.call 99 [(t 27), (.con (.fn 108 [] []))]), o 10 (.mv (t 28))] [])
 (.seq (.region [o 29 (.mv (t 10)), o 30 (.bin .geq (t 29) (.con (.int .i64 0)))] [])
 (.cond (t 30)
 (.seq (.region [o 31 (.load false 1 (t 2)), o 32 (.mv (t 1)), o 33 (.call 102 [(t 31), (t 32)]), o 34 (.mv (t 10)), o 4 (.mv (t 33)), o 5 (.mv (t 34))] [])
 .ret)
 .skip)))
(.seq (.region [o 11 (.mv (.con (.int .i64 0)))] [])
(.seq (.seq (.region [o 35 (.mv (t 6)), o 36 (.len (t 35)), o 37 (.mv (.con (.int .i64 0)))] [])
 (.block 0 (.loop (.seq (.region [o 38 (.bin .lss (t 37) (t 36))] [])
 (.seq (.cond (t 38)
 .skip
 (.exit 0))
 (.seq (.block 1 (.seq (.region [o 39 (.mv (t 37)), o 40 (.isl 19 (t 35) (t 37)), o 41 (.load false 19 (t 40)), o 13 (.alloc [(.int .i64 0), (.int .u32 0), (.int .u8 0), (.int .u8 0), (.int .u8 0), (.int .u8 0), (.int .u8 0), (.int .u8 0), (.int .u8 0), (.int .u8 0), (.int .u8 0), (.int .u8 0), (.int .u8 0), (.int .u8 0), (.int .u8 0), (.int .u8 0), (.int .u8 0), (.int .u8 0), (.int .i64 0)]), o 12 (.mv (t 39)), n (.store 19 (t 13) (t 41))] [])
 (.seq (.region [o 42 (.faddr (t 13) 18), o 43 (.load true 1 (t 42)), o 44 (.mv (t 6)), o 45 (.mv (t 11)), o 46 (.isl 19 (t 44) (t 45)), o 47 (.faddr (t 46) 18), o 48 (.load true 1 (t 47)), o 49 (.bin .gtr (t 43) (t 48))] [])
 (.cond (t 49)
 (.region [o 50 (.mv (t 12)), o 11 (.mv (t 50))] [])
 .skip))))
 (.region [o 51 (.bin .add (t 37) (.con (.int .i64 1))), o 37 (.mv (t 51))] [])))))))
(.seq (.region [o 52 (.load false 1 (t 2)), o 53 (.mv (t 1)), o 54 (.call 102 [(t 52), (t 53)]), o 55 (.mv (t 11)), o 4 (.mv (t 54)), o 5 (.mv (t 55))] [])
.ret))))))), [.tmp 4, .tmp 5], true, none, false⟩
/-- cotterel/mesi.known -/
def f107 : AFun := ⟨9, (.seq (.region [o 2 (.mv (.con (.bool false)))] [])
(.seq (.region [o 3 (.mv (t 0)), o 4 (.bin .geq (t 3) (.con (.int .i64 0))), o 5 (.mv (t 4)), g 6 (.mv (t 0)) 5 true, g 7 (.bin .leq (t 6) (.con (.int .i64 3))) 5 true, o 8 (.pick (t 5) (t 7) (.con (.bool false))), o 2 (.mv (t 8))] [])
.ret)), [.tmp 2], true, none, false⟩
/-- cotterel/cache.Victim$1 -/
def f108 : AFun := ⟨6, (.seq (.region [o 1 (.box (t 0)), o 2 (.mv (.con (.bool false)))] [])
(.seq (.region [o 3 (.faddr (t 1) 0), o 4 (.load true 1 (t 3)), o 5 (.bin .eql (t 4) (.con (.int .i64 0))), o 2 (.mv (t 5))] [])
.ret)), [.tmp 2], false, none, false⟩
-- CLONE 34 29
-- CLONE 68 55
-- CLONE 96 71
-- CLONE 97 74
/-- slices.Clone[[]byte,byte] -/
def f34 : AFun := ⟨0, .skip, [], true, some (1, 1), false⟩
/-- slices.Clone[[]cotterel/api.Cache,cotterel/api.Cache] -/
def f68 : AFun := ⟨0, .skip, [], true, some (1, 24), false⟩
/-- slices.Clone[[][]cotterel/api.Way,[]cotterel/api.Way] -/
def f96 : AFun := ⟨0, .skip, [], true, some (1, 24), false⟩
/-- slices.Clone[[]cotterel/api.Way,cotterel/api.Way] -/
def f97 : AFun := ⟨0, .skip, [], true, some (19, 40), false⟩
end Fn
open Fn
theorem autos : True ∧ f7.auto = true ∧ f16.auto = true ∧ f35.auto = false ∧ f36.auto = false ∧ f38.auto = true ∧ f59.auto = false ∧ f66.auto = false ∧ f75.auto = false ∧ f78.auto = false ∧ f91.auto = true ∧ f99.auto = false ∧ f101.auto = false ∧ f108.auto = false := ⟨trivial, rfl, rfl, rfl, rfl, rfl, rfl, rfl, rfl, rfl, rfl, rfl, rfl, rfl⟩
def ap : AProg
  | 3 => some f3
  | 4 => some f4
  | 5 => some f5
  | 6 => some f6
  | 7 => some f7
  | 8 => some f8
  | 9 => some f9
  | 10 => some f10
  | 11 => some f11
  | 12 => some f12
  | 13 => some f13
  | 14 => some f14
  | 15 => some f15
  | 16 => some f16
  | 17 => some f17
  | 18 => some f18
  | 19 => some f19
  | 20 => some f20
  | 21 => some f21
  | 22 => some f22
  | 23 => some f23
  | 24 => some f24
  | 25 => some f25
  | 26 => some f26
  | 27 => some f27
  | 28 => some f28
  | 29 => some f29
  | 30 => some f30
  | 31 => some f31
  | 32 => some f32
  | 33 => some f33
  | 34 => some f34
  | 35 => some f35
  | 36 => some f36
  | 37 => some f37
  | 38 => some f38
  | 39 => some f39
  | 40 => some f40
  | 41 => some f41
  | 42 => some f42
  | 43 => some f43
  | 44 => some f44
  | 45 => some f45
  | 46 => some f46
  | 47 => some f47
  | 48 => some f48
  | 49 => some f49
  | 50 => some f50
  | 51 => some f51
  | 52 => some f52
  | 53 => some f53
  | 54 => some f54
  | 55 => some f55
  | 56 => some f56
  | 57 => some f57
  | 58 => some f58
  | 59 => some f59
  | 60 => some f60
  | 61 => some f61
  | 62 => some f62
  | 63 => some f63
  | 64 => some f64
  | 65 => some f65
  | 66 => some f66
  | 67 => some f67
  | 68 => some f68
  | 69 => some f69
  | 70 => some f70
  | 71 => some f71
  | 72 => some f72
  | 73 => some f73
  | 74 => some f74
  | 75 => some f75
  | 76 => some f76
  | 77 => some f77
  | 78 => some f78
  | 79 => some f79
  | 80 => some f80
  | 81 => some f81
  | 82 => some f82
  | 83 => some f83
  | 84 => some f84
  | 85 => some f85
  | 86 => some f86
  | 87 => some f87
  | 88 => some f88
  | 89 => some f89
  | 90 => some f90
  | 91 => some f91
  | 92 => some f92
  | 93 => some f93
  | 94 => some f94
  | 95 => some f95
  | 96 => some f96
  | 97 => some f97
  | 98 => some f98
  | 99 => some f99
  | 100 => some f100
  | 101 => some f101
  | 102 => some f102
  | 103 => some f103
  | 104 => some f104
  | 105 => some f105
  | 106 => some f106
  | 107 => some f107
  | 108 => some f108
  | _ => none
theorem ok3 : FnOk Tryz.prog 3 f3 := fnOk_of (fn := Tryz.f3) Tryz.func3 (by kernel_rfl) rfl (by kernel_rfl) rfl (by kernel_rfl) rfl
theorem ok4 : FnOk Tryz.prog 4 f4 := fnOk_of (fn := Tryz.f4) Tryz.func4 (by kernel_rfl) rfl (by kernel_rfl) rfl (by kernel_rfl) rfl
theorem ok5 : FnOk Tryz.prog 5 f5 := fnOk_of (fn := Tryz.f5) Tryz.func5 (by kernel_rfl) rfl (by kernel_rfl) rfl (by kernel_rfl) rfl
theorem ok6 : FnOk Tryz.prog 6 f6 := fnOk_of (fn := Tryz.f6) Tryz.func6 (by kernel_rfl) rfl (by kernel_rfl) rfl (by kernel_rfl) rfl
theorem ok7 : FnOk Tryz.prog 7 f7 := fnOk_of (fn := Tryz.f7) Tryz.func7 (by kernel_rfl) rfl (by kernel_rfl) rfl (by kernel_rfl) rfl
theorem ok8 : FnOk Tryz.prog 8 f8 := fnOk_of (fn := Tryz.f8) Tryz.func8 (by kernel_rfl) rfl (by kernel_rfl) rfl (by kernel_rfl) rfl
theorem ok9 : FnOk Tryz.prog 9 f9 := fnOk_of (fn := Tryz.f9) Tryz.func9 (by kernel_rfl) rfl (by kernel_rfl) rfl (by kernel_rfl) rfl
theorem ok10 : FnOk Tryz.prog 10 f10 := fnOk_of (fn := Tryz.f10) Tryz.func10 (by kernel_rfl) rfl (by kernel_rfl) rfl (by kernel_rfl) rfl
theorem ok11 : FnOk Tryz.prog 11 f11 := fnOk_of (fn := Tryz.f11) Tryz.func11 (by kernel_rfl) rfl (by kernel_rfl) rfl (by kernel_rfl) rfl
theorem ok12 : FnOk Tryz.prog 12 f12 := fnOk_of (fn := Tryz.f12) Tryz.func12 (by kernel_rfl) rfl (by kernel_rfl) rfl (by kernel_rfl) rfl
theorem ok13 : FnOk Tryz.prog 13 f13 := fnOk_of (fn := Tryz.f13) Tryz.func13 (by kernel_rfl) rfl (by kernel_rfl) rfl (by kernel_rfl) rfl
theorem ok14 : FnOk Tryz.prog 14 f14 := fnOk_of (fn := Tryz.f14) Tryz.func14 (by kernel_rfl) rfl (by kernel_rfl) rfl (by kernel_rfl) rfl
theorem ok15 : FnOk Tryz.prog 15 f15 := fnOk_of (fn := Tryz.f15) Tryz.func15 (by kernel_rfl) rfl (by kernel_rfl) rfl (by kernel_rfl) rfl
theorem ok16 : FnOk Tryz.prog 16 f16 := fnOk_of (fn := Tryz.f16) Tryz.func16 (by kernel_rfl) rfl (by kernel_rfl) rfl (by kernel_rfl) rfl
theorem ok17 : FnOk Tryz.prog 17 f17 := fnOk_of (fn := Tryz.f17) Tryz.func17 (by kernel_rfl) rfl (by kernel_rfl) rfl (by kernel_rfl) rfl
theorem ok18 : FnOk Tryz.prog 18 f18 := fnOk_of (fn := Tryz.f18) Tryz.func18 (by kernel_rfl) rfl (by kernel_rfl) rfl (by kernel_rfl) rfl
theorem ok19 : FnOk Tryz.prog 19 f19 := fnOk_of (fn := Tryz.f19) Tryz.func19 (by kernel_rfl) rfl (by kernel_rfl) rfl (by kernel_rfl) rfl
theorem ok20 : FnOk Tryz.prog 20 f20 := fnOk_of (fn := Tryz.f20) Tryz.func20 (by kernel_rfl) rfl (by kernel_rfl) rfl (by kernel_rfl) rfl
theorem ok21 : FnOk Tryz.prog 21 f21 := fnOk_of (fn := Tryz.f21) Tryz.func21 (by kernel_rfl) rfl (by kernel_rfl) rfl (by kernel_rfl) rfl
theorem ok22 : FnOk Tryz.prog 22 f22 := fnOk_of (fn := Tryz.f22) Tryz.func22 (by kernel_rfl) rfl (by kernel_rfl) rfl (by kernel_rfl) rfl
theorem ok23 : FnOk Tryz.prog 23 f23 := fnOk_of (fn := Tryz.f23) Tryz.func23 (by kernel_rfl) rfl (by kernel_rfl) rfl (by kernel_rfl) rfl
theorem ok24 : FnOk Tryz.prog 24 f24 := fnOk_of (fn := Tryz.f24) Tryz.func24 (by kernel_rfl) rfl (by kernel_rfl) rfl (by kernel_rfl) rfl
theorem ok25 : FnOk Tryz.prog 25 f25 := fnOk_of (fn := Tryz.f25) Tryz.func25 (by kernel_rfl) rfl (by kernel_rfl) rfl (by kernel_rfl) rfl
theorem ok26 : FnOk Tryz.prog 26 f26 := fnOk_of (fn := Tryz.f26) Tryz.func26 (by kernel_rfl) rfl (by kernel_rfl) rfl (by kernel_rfl) rfl
theorem ok27 : FnOk Tryz.prog 27 f27 := fnOk_of (fn := Tryz.f27) Tryz.func27 (by kernel_rfl) rfl (by kernel_rfl) rfl (by kernel_rfl) rfl
theorem ok28 : FnOk Tryz.prog 28 f28 := fnOk_of (fn := Tryz.f28) Tryz.func28 (by kernel_rfl) rfl (by kernel_rfl) rfl (by kernel_rfl) rfl
theorem ok29 : FnOk Tryz.prog 29 f29 := fnOk_of (fn := Tryz.f29) Tryz.func29 (by kernel_rfl) rfl (by kernel_rfl) rfl (by kernel_rfl) rfl
theorem ok30 : FnOk Tryz.prog 30 f30 := fnOk_of (fn := Tryz.f30) Tryz.func30 (by kernel_rfl) rfl (by kernel_rfl) rfl (by kernel_rfl) rfl
theorem ok31 : FnOk Tryz.prog 31 f31 := fnOk_of (fn := Tryz.f31) Tryz.func31 (by kernel_rfl) rfl (by kernel_rfl) rfl (by kernel_rfl) rfl
theorem ok32 : FnOk Tryz.prog 32 f32 := fnOk_of (fn := Tryz.f32) Tryz.func32 (by kernel_rfl) rfl (by kernel_rfl) rfl (by kernel_rfl) rfl
theorem ok33 : FnOk Tryz.prog 33 f33 := fnOk_of (fn := Tryz.f33) Tryz.func33 (by kernel_rfl) rfl (by kernel_rfl) rfl (by kernel_rfl) rfl
theorem ok34 : FnOk Tryz.prog 34 f34 := .inl ⟨_, _, rfl, rfl, clone_ok2 Tryz.func34 rfl ⟨rfl, rfl, rfl⟩ ⟨rfl, rfl, rfl⟩ ⟨rfl, rfl, rfl⟩ ⟨rfl, rfl, rfl⟩ ⟨rfl, rfl, rfl⟩ ⟨rfl, rfl, rfl⟩ ⟨rfl, rfl, rfl⟩ ⟨rfl, rfl, rfl⟩ rfl rfl Tryz.underlying29 (by kernel_rfl) (by kernel_rfl), Tryz.f34, Tryz.func34, by kernel_rfl, rfl⟩
theorem ok35 : FnOk Tryz.prog 35 f35 := fnOk_of (fn := Tryz.f35) Tryz.func35 (by kernel_rfl) rfl (by kernel_rfl) rfl (by kernel_rfl) rfl
theorem ok36 : FnOk Tryz.prog 36 f36 := fnOk_of (fn := Tryz.f36) Tryz.func36 (by kernel_rfl) rfl (by kernel_rfl) rfl (by kernel_rfl) rfl
theorem ok37 : FnOk Tryz.prog 37 f37 := fnOk_of (fn := Tryz.f37) Tryz.func37 (by kernel_rfl) rfl (by kernel_rfl) rfl (by kernel_rfl) rfl
theorem ok38 : FnOk Tryz.prog 38 f38 := fnOk_of (fn := Tryz.f38) Tryz.func38 (by kernel_rfl) rfl (by kernel_rfl) rfl (by kernel_rfl) rfl
theorem ok39 : FnOk Tryz.prog 39 f39 := fnOk_of (fn := Tryz.f39) Tryz.func39 (by kernel_rfl) rfl (by kernel_rfl) rfl (by kernel_rfl) rfl
theorem ok40 : FnOk Tryz.prog 40 f40 := fnOk_of (fn := Tryz.f40) Tryz.func40 (by kernel_rfl) rfl (by kernel_rfl) rfl (by kernel_rfl) rfl
theorem ok41 : FnOk Tryz.prog 41 f41 := fnOk_of (fn := Tryz.f41) Tryz.func41 (by kernel_rfl) rfl (by kernel_rfl) rfl (by kernel_rfl) rfl
theorem ok42 : FnOk Tryz.prog 42 f42 := fnOk_of (fn := Tryz.f42) Tryz.func42 (by kernel_rfl) rfl (by kernel_rfl) rfl (by kernel_rfl) rfl
theorem ok43 : FnOk Tryz.prog 43 f43 := fnOk_of (fn := Tryz.f43) Tryz.func43 (by kernel_rfl) rfl (by kernel_rfl) rfl (by kernel_rfl) rfl
theorem ok44 : FnOk Tryz.prog 44 f44 := fnOk_of (fn := Tryz.f44) Tryz.func44 (by kernel_rfl) rfl (by kernel_rfl) rfl (by kernel_rfl) rfl
theorem ok45 : FnOk Tryz.prog 45 f45 := fnOk_of (fn := Tryz.f45) Tryz.func45 (by kernel_rfl) rfl (by kernel_rfl) rfl (by kernel_rfl) rfl
theorem ok46 : FnOk Tryz.prog 46 f46 := fnOk_of (fn := Tryz.f46) Tryz.func46 (by kernel_rfl) rfl (by kernel_rfl) rfl (by kernel_rfl) rfl
theorem ok47 : FnOk Tryz.prog 47 f47 := fnOk_of (fn := Tryz.f47) Tryz.func47 (by kernel_rfl) rfl (by kernel_rfl) rfl (by kernel_rfl) rfl
theorem ok48 : FnOk Tryz.prog 48 f48 := fnOk_of (fn := Tryz.f48) Tryz.func48 (by kernel_rfl) rfl (by kernel_rfl) rfl (by kernel_rfl) rfl
theorem ok49 : FnOk Tryz.prog 49 f49 := fnOk_of (fn := Tryz.f49) Tryz.func49 (by kernel_rfl) rfl (by kernel_rfl) rfl (by kernel_rfl) rfl
theorem ok50 : FnOk Tryz.prog 50 f50 := fnOk_of (fn := Tryz.f50) Tryz.func50 (by kernel_rfl) rfl (by kernel_rfl) rfl (by kernel_rfl) rfl
theorem ok51 : FnOk Tryz.prog 51 f51 := fnOk_of (fn := Tryz.f51) Tryz.func51 (by kernel_rfl) rfl (by kernel_rfl) rfl (by kernel_rfl) rfl
theorem ok52 : FnOk Tryz.prog 52 f52 := fnOk_of (fn := Tryz.f52) Tryz.func52 (by kernel_rfl) rfl (by kernel_rfl) rfl (by kernel_rfl) rfl
theorem ok53 : FnOk Tryz.prog 53 f53 := fnOk_of (fn := Tryz.f53) Tryz.func53 (by kernel_rfl) rfl (by kernel_rfl) rfl (by kernel_rfl) rfl
theorem ok54 : FnOk Tryz.prog 54 f54 := fnOk_of (fn := Tryz.f54) Tryz.func54 (by kernel_rfl) rfl (by kernel_rfl) rfl (by kernel_rfl) rfl
theorem ok55 : FnOk Tryz.prog 55 f55 := fnOk_of (fn := Tryz.f55) Tryz.func55 (by kernel_rfl) rfl (by kernel_rfl) rfl (by kernel_rfl) rfl
theorem ok56 : FnOk Tryz.prog 56 f56 := fnOk_of (fn := Tryz.f56) Tryz.func56 (by kernel_rfl) rfl (by kernel_rfl) rfl (by kernel_rfl) rfl
theorem ok57 : FnOk Tryz.prog 57 f57 := fnOk_of (fn := Tryz.f57) Tryz.func57 (by kernel_rfl) rfl (by kernel_rfl) rfl (by kernel_rfl) rfl
theorem ok58 : FnOk Tryz.prog 58 f58 := fnOk_of (fn := Tryz.f58) Tryz.func58 (by kernel_rfl) rfl (by kernel_rfl) rfl (by kernel_rfl) rfl
theorem ok59 : FnOk Tryz.prog 59 f59 := fnOk_of (fn := Tryz.f59) Tryz.func59 (by kernel_rfl) rfl (by kernel_rfl) rfl (by kernel_rfl) rfl
theorem ok60 : FnOk Tryz.prog 60 f60 := fnOk_of (fn := Tryz.f60) Tryz.func60 (by kernel_rfl) rfl (by kernel_rfl) rfl (by kernel_rfl) rfl
theorem ok61 : FnOk Tryz.prog 61 f61 := fnOk_of (fn := Tryz.f61) Tryz.func61 (by kernel_rfl) rfl (by kernel_rfl) rfl (by kernel_rfl) rfl
theorem ok62 : FnOk Tryz.prog 62 f62 := fnOk_of (fn := Tryz.f62) Tryz.func62 (by kernel_rfl) rfl (by kernel_rfl) rfl (by kernel_rfl) rfl
theorem ok63 : FnOk Tryz.prog 63 f63 := fnOk_of (fn := Tryz.f63) Tryz.func63 (by kernel_rfl) rfl (by kernel_rfl) rfl (by kernel_rfl) rfl
theorem ok64 : FnOk Tryz.prog 64 f64 := fnOk_of (fn := Tryz.f64) Tryz.func64 (by kernel_rfl) rfl (by kernel_rfl) rfl (by kernel_rfl) rfl
theorem ok65 : FnOk Tryz.prog 65 f65 := fnOk_of (fn := Tryz.f65) Tryz.func65 (by kernel_rfl) rfl (by kernel_rfl) rfl (by kernel_rfl) rfl
theorem ok66 : FnOk Tryz.prog 66 f66 := fnOk_of (fn := Tryz.f66) Tryz.func66 (by kernel_rfl) rfl (by kernel_rfl) rfl (by kernel_rfl) rfl
theorem ok67 : FnOk Tryz.prog 67 f67 := fnOk_of (fn := Tryz.f67) Tryz.func67 (by kernel_rfl) rfl (by kernel_rfl) rfl (by kernel_rfl) rfl
theorem ok68 : FnOk Tryz.prog 68 f68 := .inl ⟨_, _, rfl, rfl, clone_ok2 Tryz.func68 rfl ⟨rfl, rfl, rfl⟩ ⟨rfl, rfl, rfl⟩ ⟨rfl, rfl, rfl⟩ ⟨rfl, rfl, rfl⟩ ⟨rfl, rfl, rfl⟩ ⟨rfl, rfl, rfl⟩ ⟨rfl, rfl, rfl⟩ ⟨rfl, rfl, rfl⟩ rfl rfl Tryz.underlying55 (by kernel_rfl) (by kernel_rfl), Tryz.f68, Tryz.func68, by kernel_rfl, rfl⟩
theorem ok69 : FnOk Tryz.prog 69 f69 := fnOk_of (fn := Tryz.f69) Tryz.func69 (by kernel_rfl) rfl (by kernel_rfl) rfl (by kernel_rfl) rfl
theorem ok70 : FnOk Tryz.prog 70 f70 := fnOk_of (fn := Tryz.f70) Tryz.func70 (by kernel_rfl) rfl (by kernel_rfl) rfl (by kernel_rfl) rfl
theorem ok71 : FnOk Tryz.prog 71 f71 := fnOk_of (fn := Tryz.f71) Tryz.func71 (by kernel_rfl) rfl (by kernel_rfl) rfl (by kernel_rfl) rfl
theorem ok72 : FnOk Tryz.prog 72 f72 := fnOk_of (fn := Tryz.f72) Tryz.func72 (by kernel_rfl) rfl (by kernel_rfl) rfl (by kernel_rfl) rfl
theorem ok73 : FnOk Tryz.prog 73 f73 := fnOk_of (fn := Tryz.f73) Tryz.func73 (by kernel_rfl) rfl (by kernel_rfl) rfl (by kernel_rfl) rfl
theorem ok74 : FnOk Tryz.prog 74 f74 := fnOk_of (fn := Tryz.f74) Tryz.func74 (by kernel_rfl) rfl (by kernel_rfl) rfl (by kernel_rfl) rfl
theorem ok75 : FnOk Tryz.prog 75 f75 := fnOk_of (fn := Tryz.f75) Tryz.func75 (by kernel_rfl) rfl (by kernel_rfl) rfl (by kernel_rfl) rfl
theorem ok76 : FnOk Tryz.prog 76 f76 := fnOk_of (fn := Tryz.f76) Tryz.func76 (by kernel_rfl) rfl (by kernel_rfl) rfl (by kernel_rfl) rfl
theorem ok77 : FnOk Tryz.prog 77 f77 := fnOk_of (fn := Tryz.f77) Tryz.func77 (by kernel_rfl) rfl (by kernel_rfl) rfl (by kernel_rfl) rfl
theorem ok78 : FnOk Tryz.prog 78 f78 := fnOk_of (fn := Tryz.f78) Tryz.func78 (by kernel_rfl) rfl (by kernel_rfl) rfl (by kernel_rfl) rfl
theorem ok79 : FnOk Tryz.prog 79 f79 := fnOk_of (fn := Tryz.f79) Tryz.func79 (by kernel_rfl) rfl (by kernel_rfl) rfl (by kernel_rfl) rfl
theorem ok80 : FnOk Tryz.prog 80 f80 := fnOk_of (fn := Tryz.f80) Tryz.func80 (by kernel_rfl) rfl (by kernel_rfl) rfl (by kernel_rfl) rfl
theorem ok81 : FnOk Tryz.prog 81 f81 := fnOk_of (fn := Tryz.f81) Tryz.func81 (by kernel_rfl) rfl (by kernel_rfl) rfl (by kernel_rfl) rfl
theorem ok82 : FnOk Tryz.prog 82 f82 := fnOk_of (fn := Tryz.f82) Tryz.func82 (by kernel_rfl) rfl (by kernel_rfl) rfl (by kernel_rfl) rfl
theorem ok83 : FnOk Tryz.prog 83 f83 := fnOk_of (fn := Tryz.f83) Tryz.func83 (by kernel_rfl) rfl (by kernel_rfl) rfl (by kernel_rfl) rfl
theorem ok84 : FnOk Tryz.prog 84 f84 := fnOk_of (fn := Tryz.f84) Tryz.func84 (by kernel_rfl) rfl (by kernel_rfl) rfl (by kernel_rfl) rfl
theorem ok85 : FnOk Tryz.prog 85 f85 := fnOk_of (fn := Tryz.f85) Tryz.func85 (by kernel_rfl) rfl (by kernel_rfl) rfl (by kernel_rfl) rfl
theorem ok86 : FnOk Tryz.prog 86 f86 := fnOk_of (fn := Tryz.f86) Tryz.func86 (by kernel_rfl) rfl (by kernel_rfl) rfl (by kernel_rfl) rfl
theorem ok87 : FnOk Tryz.prog 87 f87 := fnOk_of (fn := Tryz.f87) Tryz.func87 (by kernel_rfl) rfl (by kernel_rfl) rfl (by kernel_rfl) rfl
theorem ok88 : FnOk Tryz.prog 88 f88 := fnOk_of (fn := Tryz.f88) Tryz.func88 (by kernel_rfl) rfl (by kernel_rfl) rfl (by kernel_rfl) rfl
theorem ok89 : FnOk Tryz.prog 89 f89 := fnOk_of (fn := Tryz.f89) Tryz.func89 (by kernel_rfl) rfl (by kernel_rfl) rfl (by kernel_rfl) rfl
theorem ok90 : FnOk Tryz.prog 90 f90 := fnOk_of (fn := Tryz.f90) Tryz.func90 (by kernel_rfl) rfl (by kernel_rfl) rfl (by kernel_rfl) rfl
theorem ok91 : FnOk Tryz.prog 91 f91 := fnOk_of (fn := Tryz.f91) Tryz.func91 (by kernel_rfl) rfl (by kernel_rfl) rfl (by kernel_rfl) rfl
theorem ok92 : FnOk Tryz.prog 92 f92 := fnOk_of (fn := Tryz.f92) Tryz.func92 (by kernel_rfl) rfl (by kernel_rfl) rfl (by kernel_rfl) rfl
theorem ok93 : FnOk Tryz.prog 93 f93 := fnOk_of (fn := Tryz.f93) Tryz.func93 (by kernel_rfl) rfl (by kernel_rfl) rfl (by kernel_rfl) rfl
theorem ok94 : FnOk Tryz.prog 94 f94 := fnOk_of (fn := Tryz.f94) Tryz.func94 (by kernel_rfl) rfl (by kernel_rfl) rfl (by kernel_rfl) rfl
theorem ok95 : FnOk Tryz.prog 95 f95 := fnOk_of (fn := Tryz.f95) Tryz.func95 (by kernel_rfl) rfl (by kernel_rfl) rfl (by kernel_rfl) rfl
theorem ok96 : FnOk Tryz.prog 96 f96 := .inl ⟨_, _, rfl, rfl, clone_ok2 Tryz.func96 rfl ⟨rfl, rfl, rfl⟩ ⟨rfl, rfl, rfl⟩ ⟨rfl, rfl, rfl⟩ ⟨rfl, rfl, rfl⟩ ⟨rfl, rfl, rfl⟩ ⟨rfl, rfl, rfl⟩ ⟨rfl, rfl, rfl⟩ ⟨rfl, rfl, rfl⟩ rfl rfl Tryz.underlying71 (by kernel_rfl) (by kernel_rfl), Tryz.f96, Tryz.func96, by kernel_rfl, rfl⟩
theorem ok97 : FnOk Tryz.prog 97 f97 := .inl ⟨_, _, rfl, rfl, clone_ok2 Tryz.func97 rfl ⟨rfl, rfl, rfl⟩ ⟨rfl, rfl, rfl⟩ ⟨rfl, rfl, rfl⟩ ⟨rfl, rfl, rfl⟩ ⟨rfl, rfl, rfl⟩ ⟨rfl, rfl, rfl⟩ ⟨rfl, rfl, rfl⟩ ⟨rfl, rfl, rfl⟩ rfl rfl Tryz.underlying74 (by kernel_rfl) (by kernel_rfl), Tryz.f97, Tryz.func97, by kernel_rfl, rfl⟩
theorem ok98 : FnOk Tryz.prog 98 f98 := fnOk_of (fn := Tryz.f98) Tryz.func98 (by kernel_rfl) rfl (by kernel_rfl) rfl (by kernel_rfl) rfl
theorem ok99 : FnOk Tryz.prog 99 f99 := fnOk_of (fn := Tryz.f99) Tryz.func99 (by kernel_rfl) rfl (by kernel_rfl) rfl (by kernel_rfl) rfl
theorem ok100 : FnOk Tryz.prog 100 f100 := fnOk_of (fn := Tryz.f100) Tryz.func100 (by kernel_rfl) rfl (by kernel_rfl) rfl (by kernel_rfl) rfl
theorem ok101 : FnOk Tryz.prog 101 f101 := fnOk_of (fn := Tryz.f101) Tryz.func101 (by kernel_rfl) rfl (by kernel_rfl) rfl (by kernel_rfl) rfl
theorem ok102 : FnOk Tryz.prog 102 f102 := fnOk_of (fn := Tryz.f102) Tryz.func102 (by kernel_rfl) rfl (by kernel_rfl) rfl (by kernel_rfl) rfl
theorem ok103 : FnOk Tryz.prog 103 f103 := fnOk_of (fn := Tryz.f103) Tryz.func103 (by kernel_rfl) rfl (by kernel_rfl) rfl (by kernel_rfl) rfl
theorem ok104 : FnOk Tryz.prog 104 f104 := fnOk_of (fn := Tryz.f104) Tryz.func104 (by kernel_rfl) rfl (by kernel_rfl) rfl (by kernel_rfl) rfl
theorem ok105 : FnOk Tryz.prog 105 f105 := fnOk_of (fn := Tryz.f105) Tryz.func105 (by kernel_rfl) rfl (by kernel_rfl) rfl (by kernel_rfl) rfl
theorem ok106 : FnOk Tryz.prog 106 f106 := fnOk_of (fn := Tryz.f106) Tryz.func106 (by kernel_rfl) rfl (by kernel_rfl) rfl (by kernel_rfl) rfl
theorem ok107 : FnOk Tryz.prog 107 f107 := fnOk_of (fn := Tryz.f107) Tryz.func107 (by kernel_rfl) rfl (by kernel_rfl) rfl (by kernel_rfl) rfl
theorem ok108 : FnOk Tryz.prog 108 f108 := fnOk_of (fn := Tryz.f108) Tryz.func108 (by kernel_rfl) rfl (by kernel_rfl) rfl (by kernel_rfl) rfl
theorem ap_ok : ∀ f F, ap f = some F → FnOk Tryz.prog f F := by
  intro f F h
  unfold ap at h
  split at h
  · obtain rfl := Option.some.inj h; exact ok3
  · obtain rfl := Option.some.inj h; exact ok4
  · obtain rfl := Option.some.inj h; exact ok5
  · obtain rfl := Option.some.inj h; exact ok6
  · obtain rfl := Option.some.inj h; exact ok7
  · obtain rfl := Option.some.inj h; exact ok8
  · obtain rfl := Option.some.inj h; exact ok9
  · obtain rfl := Option.some.inj h; exact ok10
  · obtain rfl := Option.some.inj h; exact ok11
  · obtain rfl := Option.some.inj h; exact ok12
  · obtain rfl := Option.some.inj h; exact ok13
  · obtain rfl := Option.some.inj h; exact ok14
  · obtain rfl := Option.some.inj h; exact ok15
  · obtain rfl := Option.some.inj h; exact ok16
  · obtain rfl := Option.some.inj h; exact ok17
  · obtain rfl := Option.some.inj h; exact ok18
  · obtain rfl := Option.some.inj h; exact ok19
  · obtain rfl := Option.some.inj h; exact ok20
  · obtain rfl := Option.some.inj h; exact ok21
  · obtain rfl := Option.some.inj h; exact ok22
  · obtain rfl := Option.some.inj h; exact ok23
  · obtain rfl := Option.some.inj h; exact ok24
  · obtain rfl := Option.some.inj h; exact ok25
  · obtain rfl := Option.some.inj h; exact ok26
  · obtain rfl := Option.some.inj h; exact ok27
  · obtain rfl := Option.some.inj h; exact ok28
  · obtain rfl := Option.some.inj h; exact ok29
  · obtain rfl := Option.some.inj h; exact ok30
  · obtain rfl := Option.some.inj h; exact ok31
  · obtain rfl := Option.some.inj h; exact ok32
  · obtain rfl := Option.some.inj h; exact ok33
  · obtain rfl := Option.some.inj h; exact ok34
  · obtain rfl := Option.some.inj h; exact ok35
  · obtain rfl := Option.some.inj h; exact ok36
  · obtain rfl := Option.some.inj h; exact ok37
  · obtain rfl := Option.some.inj h; exact ok38
  · obtain rfl := Option.some.inj h; exact ok39
  · obtain rfl := Option.some.inj h; exact ok40
  · obtain rfl := Option.some.inj h; exact ok41
  · obtain rfl := Option.some.inj h; exact ok42
  · obtain rfl := Option.some.inj h; exact ok43
  · obtain rfl := Option.some.inj h; exact ok44
  · obtain rfl := Option.some.inj h; exact ok45
  · obtain rfl := Option.some.inj h; exact ok46
  · obtain rfl := Option.some.inj h; exact ok47
  · obtain rfl := Option.some.inj h; exact ok48
  · obtain rfl := Option.some.inj h; exact ok49
  · obtain rfl := Option.some.inj h; exact ok50
  · obtain rfl := Option.some.inj h; exact ok51
  · obtain rfl := Option.some.inj h; exact ok52
  · obtain rfl := Option.some.inj h; exact ok53
  · obtain rfl := Option.some.inj h; exact ok54
  · obtain rfl := Option.some.inj h; exact ok55
  · obtain rfl := Option.some.inj h; exact ok56
  · obtain rfl := Option.some.inj h; exact ok57
  · obtain rfl := Option.some.inj h; exact ok58
  · obtain rfl := Option.some.inj h; exact ok59
  · obtain rfl := Option.some.inj h; exact ok60
  · obtain rfl := Option.some.inj h; exact ok61
  · obtain rfl := Option.some.inj h; exact ok62
  · obtain rfl := Option.some.inj h; exact ok63
  · obtain rfl := Option.some.inj h; exact ok64
  · obtain rfl := Option.some.inj h; exact ok65
  · obtain rfl := Option.some.inj h; exact ok66
  · obtain rfl := Option.some.inj h; exact ok67
  · obtain rfl := Option.some.inj h; exact ok68
  · obtain rfl := Option.some.inj h; exact ok69
  · obtain rfl := Option.some.inj h; exact ok70
  · obtain rfl := Option.some.inj h; exact ok71
  · obtain rfl := Option.some.inj h; exact ok72
  · obtain rfl := Option.some.inj h; exact ok73
  · obtain rfl := Option.some.inj h; exact ok74
  · obtain rfl := Option.some.inj h; exact ok75
  · obtain rfl := Option.some.inj h; exact ok76
  · obtain rfl := Option.some.inj h; exact ok77
  · obtain rfl := Option.some.inj h; exact ok78
  · obtain rfl := Option.some.inj h; exact ok79
  · obtain rfl := Option.some.inj h; exact ok80
  · obtain rfl := Option.some.inj h; exact ok81
  · obtain rfl := Option.some.inj h; exact ok82
  · obtain rfl := Option.some.inj h; exact ok83
  · obtain rfl := Option.some.inj h; exact ok84
  · obtain rfl := Option.some.inj h; exact ok85
  · obtain rfl := Option.some.inj h; exact ok86
  · obtain rfl := Option.some.inj h; exact ok87
  · obtain rfl := Option.some.inj h; exact ok88
  · obtain rfl := Option.some.inj h; exact ok89
  · obtain rfl := Option.some.inj h; exact ok90
  · obtain rfl := Option.some.inj h; exact ok91
  · obtain rfl := Option.some.inj h; exact ok92
  · obtain rfl := Option.some.inj h; exact ok93
  · obtain rfl := Option.some.inj h; exact ok94
  · obtain rfl := Option.some.inj h; exact ok95
  · obtain rfl := Option.some.inj h; exact ok96
  · obtain rfl := Option.some.inj h; exact ok97
  · obtain rfl := Option.some.inj h; exact ok98
  · obtain rfl := Option.some.inj h; exact ok99
  · obtain rfl := Option.some.inj h; exact ok100
  · obtain rfl := Option.some.inj h; exact ok101
  · obtain rfl := Option.some.inj h; exact ok102
  · obtain rfl := Option.some.inj h; exact ok103
  · obtain rfl := Option.some.inj h; exact ok104
  · obtain rfl := Option.some.inj h; exact ok105
  · obtain rfl := Option.some.inj h; exact ok106
  · obtain rfl := Option.some.inj h; exact ok107
  · obtain rfl := Option.some.inj h; exact ok108
  · cases h
end Go.Proofs.YtabfinhkoihhfaaGreat.Abs
