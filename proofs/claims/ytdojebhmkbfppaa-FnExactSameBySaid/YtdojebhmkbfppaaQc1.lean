/- Part 1 of what the last text proves: The program's Follows returns what the reference's returns, for all arguments. -/
import Derived.Test.YtdojebhmkbfppaaQb8
section
-- PRINTED by gen.py: clean texts of functions, and their tie to the program.
set_option maxRecDepth 100000
namespace Go.PS
open Go.Proofs
/-- spec.Follows -/
def an_46 : Ann := ⟨[(1, 1, 3), (1, 5, 3), (1, 10, 3), (4, 3, 3), (8, 6, 3), (8, 16, 3)], [(0, [1, 2, 3]), (1, [1, 2, 3, 22]), (2, [6]), (3, [1, 2, 3, 7]), (4, [1, 2, 3, 7, 8]), (5, [1, 2, 3, 7, 8, 9]), (6, [1, 2, 3, 7, 8, 9, 34]), (8, [1, 2, 3, 7, 8, 9, 56]), (9, [6]), (7, [1, 2, 3, 7, 8, 9]), (10, [6])], [(6, [1, 2, 3, 7, 8, 9], [])], []⟩
def lb_46_6 : AC :=
  (.seq
    (.seq
      (.region false [⟨some 31, (.mv (.t 9)), 3, none, 0⟩, ⟨some 32, (.mv (.t 8)), 23, none, 0⟩, ⟨some 33, (.len 23 (.t 32)), 3, none, 0⟩, ⟨some 34, (.bin .lss 3 (.t 31) (.t 33)), 4, none, 0⟩] (some [1, 2, 3, 7, 8, 9, 34]))
      (.cond (.t 34)
        .skip
        (.exit 0)))
    (.seq
      (.block 1
        (.seq
          (.region true (gops (seg [1, 2, 3, 7, 8, 9, 46] [⟨some 37, (.load 28 (.t 3)), 28, none, 0⟩, ⟨some 38, (.mv (.t 1)), 22, none, 0⟩, ⟨some 39, (.mv (.t 8)), 23, none, 0⟩, ⟨some 40, (.mv (.t 9)), 3, none, 0⟩, ⟨some 41, (.iaddr 23 (.t 39) (.t 40)), 0, none, 0⟩, ⟨some 42, (.load 22 (.t 41)), 22, none, 0⟩, ⟨some 43, (.call (.f 65) [(.t 37), (.t 38), (.c (.int .i64 0)), (.t 42)]), 3, none, 3⟩, ⟨some 44, (.mv (.t 7)), 3, none, 0⟩, ⟨some 45, (.bin .eql 3 (.t 43) (.t 44)), 4, none, 0⟩, ⟨some 46, (.mv (.t 45)), 4, none, 0⟩]
          [⟨some 47, (.load 28 (.t 3)), 28, some (46, true), 0⟩, ⟨some 48, (.mv (.t 2)), 22, some (46, true), 0⟩, ⟨some 49, (.mv (.t 8)), 23, some (46, true), 0⟩, ⟨some 50, (.mv (.t 9)), 3, some (46, true), 0⟩, ⟨some 51, (.iaddr 23 (.t 49) (.t 50)), 0, some (46, true), 0⟩, ⟨some 52, (.load 22 (.t 51)), 22, some (46, true), 0⟩, ⟨some 53, (.call (.f 65) [(.t 47), (.t 48), (.c (.int .i64 0)), (.t 52)]), 3, some (46, true), 3⟩, ⟨some 54, (.mv (.t 7)), 3, some (46, true), 0⟩, ⟨some 55, (.bin .neq 3 (.t 53) (.t 54)), 4, some (46, true), 0⟩, ⟨some 56, (.pick (.t 46) (.t 55) (.c (.bool false))), 4, none, 0⟩] [1, 2, 3, 7, 8, 9, 56] (by decide))) (some [1, 2, 3, 7, 8, 9, 56]))
          (.cond (.t 56)
            (.seq
              (.region false [⟨some 6, (.mv (.c (.bool false))), 4, none, 0⟩] (some [6]))
              .ret)
            .skip)))
      (.region false [⟨some 35, (.mv (.t 9)), 3, none, 0⟩, ⟨some 36, (.bin .add 3 (.t 35) (.c (.int .i64 1))), 3, none, 0⟩, ⟨some 9, (.mv (.t 36)), 3, none, 0⟩] (some [1, 2, 3, 7, 8, 9]))))
def fa_46 : FnA := ⟨57, [.t 6],
  (.seq
    (.region false [⟨some 3, (.box 28 (.t 0)), 0, none, 0⟩, ⟨some 6, (.mv (.c (.bool false))), 4, none, 0⟩] (some [1, 2, 3]))
    (.seq
      (.seq
        (.region false (gops [⟨some 10, (.load 28 (.t 3)), 28, none, 0⟩, ⟨some 11, (.call (.f 62) [(.t 10)]), 4, none, 3⟩, ⟨some 12, (.un .not (.t 11)), 4, none, 0⟩, ⟨some 13, (.mv (.t 12)), 4, none, 0⟩, ⟨some 14, (.mv (.t 1)), 22, some (13, false), 0⟩, ⟨some 15, (.call (.f 63) [(.t 14)]), 4, some (13, false), 3⟩, ⟨some 16, (.un .not (.t 15)), 4, some (13, false), 0⟩, ⟨some 17, (.pick (.t 13) (.c (.bool true)) (.t 16)), 4, none, 0⟩, ⟨some 18, (.mv (.t 17)), 4, none, 0⟩, ⟨some 19, (.mv (.t 2)), 22, some (18, false), 0⟩, ⟨some 20, (.call (.f 63) [(.t 19)]), 4, some (18, false), 3⟩, ⟨some 21, (.un .not (.t 20)), 4, some (18, false), 0⟩, ⟨some 22, (.pick (.t 18) (.c (.bool true)) (.t 21)), 4, none, 0⟩]) (some [1, 2, 3, 22]))
        (.cond (.t 22)
          (.seq
            (.region false [⟨some 6, (.mv (.c (.bool false))), 4, none, 0⟩] (some [6]))
            .ret)
          .skip))
      (.seq
        (.region false [⟨some 23, (.faddr 28 (.t 3) 0), 0, none, 0⟩, ⟨some 24, (.load 22 (.t 23)), 22, none, 0⟩, ⟨some 25, (.len 22 (.t 24)), 3, none, 0⟩, ⟨some 26, (.bin .sub 3 (.t 25) (.c (.int .i64 1))), 3, none, 0⟩, ⟨some 7, (.mv (.t 26)), 3, none, 0⟩] (some [1, 2, 3, 7]))
        (.seq
          (.region false [⟨some 27, (.faddr 28 (.t 3) 0), 0, none, 0⟩, ⟨some 28, (.load 22 (.t 27)), 22, none, 0⟩, ⟨some 29, (.len 22 (.t 28)), 3, none, 0⟩, ⟨some 30, (.call (.f 101) [(.t 29)]), 23, none, 3⟩, ⟨some 8, (.mv (.t 30)), 23, none, 0⟩] (some [1, 2, 3, 7, 8]))
          (.seq
            (.seq
              (.region false [⟨some 9, (.mv (.c (.int .i64 0))), 3, none, 0⟩] (some [1, 2, 3, 7, 8, 9]))
              (.block 0
                (.loop [1, 2, 3, 7, 8, 9] [] lb_46_6)))
            (.seq
              (.region false [⟨some 6, (.mv (.c (.bool true))), 4, none, 0⟩] (some [6]))
              .ret))))))⟩
theorem fok_46 : FnOk Try.prog 46 fa_46 an_46 := ⟨Try.f46, _, Try.func46, rfl, by kernel_rfl, rfl, rfl, by decide, by kernel_rfl⟩
/-- impl.Follows$1 -/
def an_103 : Ann := ⟨[(0, 5, 3), (0, 12, 3)], [(0, [])], [], []⟩
def fa_103 : FnA := ⟨24, [],
  (.region true (gops [⟨some 7, (.load 4 (.t 1)), 4, none, 0⟩, ⟨some 8, (.mv (.t 7)), 4, none, 0⟩, ⟨some 9, (.load 28 (.t 2)), 28, some (8, true), 0⟩, ⟨some 10, (.load 22 (.t 3)), 22, some (8, true), 0⟩, ⟨some 11, (.mv (.t 0)), 22, some (8, true), 0⟩, ⟨some 12, (.call (.f 69) [(.t 9), (.t 10), (.t 11)]), 3, some (8, true), 3⟩, ⟨some 13, (.load 3 (.t 4)), 3, some (8, true), 0⟩, ⟨some 14, (.bin .neq 3 (.t 12) (.t 13)), 4, some (8, true), 0⟩, ⟨some 15, (.mv (.t 14)), 4, some (8, true), 0⟩, ⟨some 16, (.load 28 (.t 2)), 28, some (15, false), 0⟩, ⟨some 17, (.load 22 (.t 5)), 22, some (15, false), 0⟩, ⟨some 18, (.mv (.t 0)), 22, some (15, false), 0⟩, ⟨some 19, (.call (.f 69) [(.t 16), (.t 17), (.t 18)]), 3, some (15, false), 3⟩, ⟨some 20, (.load 3 (.t 4)), 3, some (15, false), 0⟩, ⟨some 21, (.bin .eql 3 (.t 19) (.t 20)), 4, some (15, false), 0⟩, ⟨some 22, (.pick (.t 15) (.c (.bool true)) (.t 21)), 4, some (8, true), 0⟩, ⟨some 23, (.pick (.t 8) (.t 22) (.c (.bool false))), 4, none, 0⟩, ⟨none, (.store 4 (.t 1) (.t 23)), 0, none, 0⟩]) (some []))⟩
theorem fok_103 : FnOk Try.prog 103 fa_103 an_103 := ⟨Try.f103, _, Try.func103, rfl, by kernel_rfl, rfl, rfl, by decide, by kernel_rfl⟩
/-- impl.Follows -/
def an_47 : Ann := ⟨[(1, 1, 3), (1, 5, 3), (1, 10, 3), (4, 2, 16)], [(0, [3, 4, 5]), (1, [3, 4, 5, 21]), (2, [6]), (3, [3, 4, 5, 7, 8]), (4, [7]), (5, [6])], [], [(3, (.imm 0 (.imm 1 (.imm 2 (.one 3 (.alt 4 (.alt 5 (.alt 6 (.alt 7 .fin .stop) .stop) .stop) (.alt 5 (.alt 4 (.alt 6 (.alt 7 .fin .stop) .stop) .stop) .stop)))))), [56, 64])]⟩
def fa_47 : FnA := ⟨30, [.t 6],
  (.seq
    (.region false [⟨some 3, (.box 28 (.t 0)), 0, none, 0⟩, ⟨some 4, (.box 22 (.t 1)), 0, none, 0⟩, ⟨some 5, (.box 22 (.t 2)), 0, none, 0⟩, ⟨some 6, (.mv (.c (.bool false))), 4, none, 0⟩] (some [3, 4, 5]))
    (.seq
      (.seq
        (.region false (gops [⟨some 9, (.load 28 (.t 3)), 28, none, 0⟩, ⟨some 10, (.call (.f 72) [(.t 9)]), 4, none, 3⟩, ⟨some 11, (.un .not (.t 10)), 4, none, 0⟩, ⟨some 12, (.mv (.t 11)), 4, none, 0⟩, ⟨some 13, (.load 22 (.t 4)), 22, some (12, false), 0⟩, ⟨some 14, (.call (.f 67) [(.t 13)]), 4, some (12, false), 3⟩, ⟨some 15, (.un .not (.t 14)), 4, some (12, false), 0⟩, ⟨some 16, (.pick (.t 12) (.c (.bool true)) (.t 15)), 4, none, 0⟩, ⟨some 17, (.mv (.t 16)), 4, none, 0⟩, ⟨some 18, (.load 22 (.t 5)), 22, some (17, false), 0⟩, ⟨some 19, (.call (.f 67) [(.t 18)]), 4, some (17, false), 3⟩, ⟨some 20, (.un .not (.t 19)), 4, some (17, false), 0⟩, ⟨some 21, (.pick (.t 17) (.c (.bool true)) (.t 20)), 4, none, 0⟩]) (some [3, 4, 5, 21]))
        (.cond (.t 21)
          (.seq
            (.region false [⟨some 6, (.mv (.c (.bool false))), 4, none, 0⟩] (some [6]))
            .ret)
          .skip))
      (.seq
        (.expl [⟨some 22, (.faddr 28 (.t 3) 0), 0, none, 0⟩, ⟨some 23, (.load 22 (.t 22)), 22, none, 0⟩, ⟨some 24, (.len 22 (.t 23)), 3, none, 0⟩, ⟨some 25, (.bin .sub 3 (.t 24) (.c (.int .i64 1))), 3, none, 0⟩, ⟨some 7, (.alloc 4), 0, none, 0⟩, ⟨some 8, (.alloc 3), 0, none, 0⟩, ⟨none, (.store 4 (.t 7) (.c (.bool true))), 0, none, 0⟩, ⟨none, (.store 3 (.t 8) (.t 25)), 0, none, 0⟩] (.imm 0 (.imm 1 (.imm 2 (.one 3 (.alt 4 (.alt 5 (.alt 6 (.alt 7 .fin .stop) .stop) .stop) (.alt 5 (.alt 4 (.alt 6 (.alt 7 .fin .stop) .stop) .stop) .stop)))))) [3, 4, 5, 7, 8] [56, 64])
        (.seq
          (.region false [⟨some 26, (.load 28 (.t 3)), 28, none, 0⟩, ⟨some 27, (.mkfn 103 [(.t 7), (.t 3), (.t 4), (.t 8), (.t 5)]), 86, none, 0⟩, ⟨some 28, (.call (.f 102) [(.t 26), (.t 27)]), 0, none, 16⟩] (some [7]))
          (.seq
            (.region false [⟨some 29, (.load 4 (.t 7)), 4, none, 0⟩, ⟨some 6, (.mv (.t 29)), 4, none, 0⟩] (some [6]))
            .ret)))))⟩
theorem fok_47 : FnOk Try.prog 47 fa_47 an_47 := ⟨Try.f47, _, Try.func47, rfl, by kernel_rfl, rfl, rfl, by decide, by kernel_rfl⟩
/-- laws.FnExactFollows -/
def an_10 : Ann := ⟨[(6, 2, 3), (9, 1, 3), (9, 3, 3), (9, 5, 3), (9, 6, 3), (10, 1, 3), (11, 1, 3), (12, 1, 3), (13, 3, 3), (16, 2, 3), (16, 3, 3), (18, 2, 3), (18, 3, 3), (20, 2, 3), (20, 3, 3)], [(0, [1, 2, 3]), (1, [1, 2, 3, 15]), (2, [6]), (3, [1, 2, 3, 18]), (4, [6]), (5, [1, 2, 3, 7]), (6, [1, 2, 3, 7]), (7, [1, 2, 3, 23]), (8, [6]), (9, [1, 2, 3, 8]), (10, [1, 2, 3, 8, 9]), (11, [1, 2, 3, 8, 9, 10]), (12, [1, 2, 3, 8, 9, 10, 11]), (13, [1, 2, 3, 8, 9, 10, 11, 12]), (14, [1, 2, 3, 9, 10, 11, 43]), (15, [6]), (16, [1, 2, 10, 11, 48]), (17, [6]), (18, [2, 11, 53]), (19, [6]), (20, [58]), (21, [6]), (22, [6])], [], []⟩
def fa_10 : FnA := ⟨59, [.t 6],
  (.seq
    (.region false [⟨some 3, (.box 25 (.t 0)), 0, none, 0⟩, ⟨some 6, (.mv (.c (.bool false))), 4, none, 0⟩] (some [1, 2, 3]))
    (.seq
      (.seq
        (.region false [⟨some 13, (.mv (.t 1)), 22, none, 0⟩, ⟨some 14, (.len 22 (.t 13)), 3, none, 0⟩, ⟨some 15, (.bin .gtr 3 (.t 14) (.c (.int .i64 1048576))), 4, none, 0⟩] (some [1, 2, 3, 15]))
        (.cond (.t 15)
          (.seq
            (.region false [⟨some 6, (.mv (.c (.bool true))), 4, none, 0⟩] (some [6]))
            .ret)
          .skip))
      (.seq
        (.seq
          (.region false [⟨some 16, (.mv (.t 2)), 22, none, 0⟩, ⟨some 17, (.len 22 (.t 16)), 3, none, 0⟩, ⟨some 18, (.bin .gtr 3 (.t 17) (.c (.int .i64 1048576))), 4, none, 0⟩] (some [1, 2, 3, 18]))
          (.cond (.t 18)
            (.seq
              (.region false [⟨some 6, (.mv (.c (.bool true))), 4, none, 0⟩] (some [6]))
              .ret)
            .skip))
        (.seq
          (.region false [⟨some 7, (.mv (.c (.int .i64 1048576))), 3, none, 0⟩] (some [1, 2, 3, 7]))
          (.seq
            (.region false [⟨some 19, (.load 25 (.t 3)), 25, none, 0⟩, ⟨some 20, (.mv (.t 7)), 3, none, 0⟩, ⟨some 21, (.call (.f 17) [(.t 19), (.t 20)]), 3, none, 3⟩, ⟨some 7, (.mv (.t 21)), 3, none, 0⟩] (some [1, 2, 3, 7]))
            (.seq
              (.seq
                (.region false [⟨some 22, (.mv (.t 7)), 3, none, 0⟩, ⟨some 23, (.bin .lss 3 (.t 22) (.c (.int .i64 0))), 4, none, 0⟩] (some [1, 2, 3, 23]))
                (.cond (.t 23)
                  (.seq
                    (.region false [⟨some 6, (.mv (.c (.bool true))), 4, none, 0⟩] (some [6]))
                    .ret)
                  .skip))
              (.seq
                (.region false [⟨some 24, (.load 25 (.t 3)), 25, none, 0⟩, ⟨some 25, (.call (.f 19) [(.t 24)]), 28, none, 3⟩, ⟨some 26, (.mv (.t 1)), 22, none, 0⟩, ⟨some 27, (.call (.f 20) [(.t 26)]), 22, none, 3⟩, ⟨some 28, (.mv (.t 2)), 22, none, 0⟩, ⟨some 29, (.call (.f 20) [(.t 28)]), 22, none, 3⟩, ⟨some 30, (.call (.f 46) [(.t 25), (.t 27), (.t 29)]), 4, none, 3⟩, ⟨some 8, (.mv (.t 30)), 4, none, 0⟩] (some [1, 2, 3, 8]))
                (.seq
                  (.region false [⟨some 31, (.load 25 (.t 3)), 25, none, 0⟩, ⟨some 32, (.call (.f 19) [(.t 31)]), 28, none, 3⟩, ⟨some 9, (.alloc 28), 0, none, 0⟩, ⟨none, (.store 28 (.t 9) (.t 32)), 0, none, 0⟩] (some [1, 2, 3, 8, 9]))
                  (.seq
                    (.region false [⟨some 33, (.mv (.t 1)), 22, none, 0⟩, ⟨some 34, (.call (.f 20) [(.t 33)]), 22, none, 3⟩, ⟨some 10, (.mv (.t 34)), 22, none, 0⟩] (some [1, 2, 3, 8, 9, 10]))
                    (.seq
                      (.region false [⟨some 35, (.mv (.t 2)), 22, none, 0⟩, ⟨some 36, (.call (.f 20) [(.t 35)]), 22, none, 3⟩, ⟨some 11, (.mv (.t 36)), 22, none, 0⟩] (some [1, 2, 3, 8, 9, 10, 11]))
                      (.seq
                        (.region false [⟨some 37, (.load 28 (.t 9)), 28, none, 0⟩, ⟨some 38, (.mv (.t 10)), 22, none, 0⟩, ⟨some 39, (.mv (.t 11)), 22, none, 0⟩, ⟨some 40, (.call (.f 47) [(.t 37), (.t 38), (.t 39)]), 4, none, 3⟩, ⟨some 12, (.mv (.t 40)), 4, none, 0⟩] (some [1, 2, 3, 8, 9, 10, 11, 12]))
                        (.seq
                          (.seq
                            (.region false [⟨some 41, (.mv (.t 12)), 4, none, 0⟩, ⟨some 42, (.mv (.t 8)), 4, none, 0⟩, ⟨some 43, (.bin .neq 4 (.t 41) (.t 42)), 4, none, 0⟩] (some [1, 2, 3, 9, 10, 11, 43]))
                            (.cond (.t 43)
                              (.seq
                                (.region false [⟨some 6, (.mv (.c (.bool false))), 4, none, 0⟩] (some [6]))
                                .ret)
                              .skip))
                          (.seq
                            (.seq
                              (.region true [⟨some 44, (.load 28 (.t 9)), 28, none, 0⟩, ⟨some 45, (.load 25 (.t 3)), 25, none, 0⟩, ⟨some 46, (.call (.f 19) [(.t 45)]), 28, none, 3⟩, ⟨some 47, (.call (.f 22) [(.t 44), (.t 46)]), 4, none, 3⟩, ⟨some 48, (.un .not (.t 47)), 4, none, 0⟩] (some [1, 2, 10, 11, 48]))
                              (.cond (.t 48)
                                (.seq
                                  (.region false [⟨some 6, (.mv (.c (.bool false))), 4, none, 0⟩] (some [6]))
                                  .ret)
                                .skip))
                            (.seq
                              (.seq
                                (.region false [⟨some 49, (.mv (.t 10)), 22, none, 0⟩, ⟨some 50, (.mv (.t 1)), 22, none, 0⟩, ⟨some 51, (.call (.f 20) [(.t 50)]), 22, none, 3⟩, ⟨some 52, (.call (.f 23) [(.t 49), (.t 51)]), 4, none, 3⟩, ⟨some 53, (.un .not (.t 52)), 4, none, 0⟩] (some [2, 11, 53]))
                                (.cond (.t 53)
                                  (.seq
                                    (.region false [⟨some 6, (.mv (.c (.bool false))), 4, none, 0⟩] (some [6]))
                                    .ret)
                                  .skip))
                              (.seq
                                (.seq
                                  (.region false [⟨some 54, (.mv (.t 11)), 22, none, 0⟩, ⟨some 55, (.mv (.t 2)), 22, none, 0⟩, ⟨some 56, (.call (.f 20) [(.t 55)]), 22, none, 3⟩, ⟨some 57, (.call (.f 23) [(.t 54), (.t 56)]), 4, none, 3⟩, ⟨some 58, (.un .not (.t 57)), 4, none, 0⟩] (some [58]))
                                  (.cond (.t 58)
                                    (.seq
                                      (.region false [⟨some 6, (.mv (.c (.bool false))), 4, none, 0⟩] (some [6]))
                                      .ret)
                                    .skip))
                                (.seq
                                  (.region false [⟨some 6, (.mv (.c (.bool true))), 4, none, 0⟩] (some [6]))
                                  .ret))))))))))))))))⟩
theorem fok_10 : FnOk Try.prog 10 fa_10 an_10 := ⟨Try.f10, _, Try.func10, rfl, by kernel_rfl, rfl, rfl, by decide, by kernel_rfl⟩
end Go.PS
end

section
-- Regions in all orders, by what they come to.
set_option linter.unusedVariables false
set_option linter.unusedSimpArgs false
namespace Go.PS

def exQ {α : Type} (ks kh : List Nat) (T : α → List (Nat × D)) (H : α → List Ent) (σ : St) : Prop := ∃ x, keepT ks σ.t = T x ∧ keepH kh σ.h = H x
@[simp] theorem exQ_app {α : Type} {ks kh : List Nat} {T : α → List (Nat × D)} {H : α → List Ent} {σ : St} : exQ ks kh T H σ = (∃ x, keepT ks σ.t = T x ∧ keepH kh σ.h = H x) := (rfl)
theorem cutE {C : Ctx} {kb : Nat} {i : Nat → List D → List Ent → Nat → (D → List Ent → Nat → Prop) → Prop} {σ : St} {Q : AExit → St → Prop} {α : Type} {ops : List AOper} {tr : Ex} {ks kh : List Nat} (T : α → List (Nat × D)) (H : α → List Ent)
    (h1 : exT C kb i ops (exQ ks kh T H) tr σ) (h2 : ∀ x g, Q .normal ⟨T x, H x, g⟩) : run C kb i (.expl ops tr ks kh) Q σ := by
  rw [run_expl]
  refine exT_mono (fun σ' h => ?_) tr σ h1
  obtain ⟨x, e1, e2⟩ := h
  show Q .normal ⟨keepT ks σ'.t, keepH kh σ'.h, σ'.g⟩
  rw [e1, e2]
  exact h2 x _
end Go.PS
end

section
-- Contracts: what follows.
set_option maxRecDepth 100000
set_option linter.unusedVariables false
set_option linter.unusedSimpArgs false
namespace Go.PS
open Go.Proofs

/-- Does the one term being the greatest element make the other one so? -/
def folP (u : List Int) (t : List (List Int)) (p q nm : List Int) : Bool := badP u t p nm || !badP u t q nm
noncomputable def folM (u : List Int) (t : List (List Int)) (p q : List Int) : Bool := decide (VA u t) && decide (validT p) && decide (validT q) && (List.range (u.length ^ 3)).all fun j => folP u t p q (dig u.length 3 j)

theorem followsS_pc (u : List Int) (t : List (List Int)) (p q : List Int) (hu : Big u.length) (ht : BigR t) (hp : Big p.length) (hq : Big q.length) : PC Try.prog 46 [AL u t, IL p, IL q] none true (fun r _ => r = .bool (folM u t p q)) := by
  have hul := hu.le
  refine pcT [fm_validAlgebraS, fm_validTermS, fm_assignments, fm_valueS] fok_46 ?_
  simp [fa_46]
  refine cutW (tabK_mono _) [(22, .bool (!(decide (VA u t) && decide (validT p) && decide (validT q))))] (by simp [hu, ht, hp, hq]; grind) ?_
  cases hb : (decide (VA u t) && decide (validT p) && decide (validT q))
  · simp [folM, hb]
  simp only [Bool.and_eq_true, decide_eq_true_eq] at hb
  obtain ⟨⟨a, vp⟩, vq⟩ := hb
  have f := a.tf
  have h6 := f.lat.six
  have h1 := f.lat.pos
  simp [h6, show (u.length : Int) ≤ 6 by omega, wrap64 (n := (u.length : Int) - 1) (by omega) (by omega)]
  have h216 : u.length ^ 3 ≤ 216 := Nat.pow_le_pow_left h6 3
  have eM : folM u t p q = (List.range (u.length ^ 3)).all fun j => folP u t p q (dig u.length 3 j) := by simp [folM, a, vp, vq]
  have hAl : (asgK u.length 3).length = u.length ^ 3 := asgK_length _ _
  have hdg : ∀ i, i < u.length ^ 3 → gr (asgK u.length 3) i = dig u.length 3 i ∧ NmOk (dig u.length 3 i) u.length := fun i hi => ⟨gr_asgK h1 3 i hi, dig3_ok h1 hi⟩
  generalize u.length ^ 3 = N at *
  refine loopA (tabK_mono _) N (fun i => [(9, I64 i)]) (fun _ => []) (fun i => folP u t p q (dig u.length 3 i) = true) (by simp) (by simp) (fun i g hi hP => ?_)
  simp [lb_46_6, hAl, wrap_succ hi (by omega)]
  refine ⟨fun h => ?_, fun h => ?_⟩
  · obtain ⟨eg, nm⟩ := hdg i h
    refine cutWc (tabK_mono _) [(56, .bool (!folP u t p q (dig u.length 3 i)))] (by
      simp [eg, f, nm, hp, hq, vp.some, vq.some, hAl, h, folP, badP]
      try grind) ?_
    cases hf : folP u t p q (dig u.length 3 i)
    · simp
      rw [eM, List.all_eq_false]
      exact ⟨i, by simpa using h, by simp [hf]⟩
    · simp [hAl, h, wrap_succ hi (by omega)]
      exact hf
  · rw [eM, List.all_eq_true]
    exact fun j hj => hP j (by have := List.mem_range.1 hj; omega)
noncomputable def fm_followsS : Fam Try.prog := mkFam (X := List Int × List (List Int) × List Int × List Int) 46 true (fun (u, t, p, q) => [AL u t, IL p, IL q]) (fun (u, t, p, q) => (Big u.length) ∧ (BigR t) ∧ (Big p.length) ∧ (Big q.length)) (fun (u, t, p, q) => .bool (folM u t p q)) (by
  rintro ⟨u, t, p, q⟩ ⟨hu, ht, hp, hq⟩
  exact followsS_pc u t p q hu ht hp hq)
@[simp] theorem fm_followsS_id : fm_followsS.id = 46 := rfl
@[simp] theorem fm_followsS_fresh : fm_followsS.fresh = true := rfl
@[simp] theorem fm_followsS_look (u : List Int) (t : List (List Int)) (p q : List Int) (hu : Big u.length) (ht : BigR t) (hp : Big p.length) (hq : Big q.length) : fm_followsS.look [AL u t, IL p, IL q] = some (.bool (folM u t p q)) :=
  lookF_of (X := List Int × List (List Int) × List Int × List Int) (args := fun (u, t, p, q) => [AL u t, IL p, IL q]) (pre := fun (u, t, p, q) => (Big u.length) ∧ (BigR t) ∧ (Big p.length) ∧ (Big q.length)) (val := fun (u, t, p, q) => .bool (folM u t p q)) (by
  rintro ⟨u, t, p, q⟩ ⟨u', t', p', q'⟩ h
  simp at h
  try simp only [and_assoc] at h
  obtain ⟨rfl, rfl, rfl, rfl⟩ := h
  rfl) (u, t, p, q) ⟨hu, ht, hp, hq⟩
attribute [irreducible] fm_followsS

def inlF (id : Nat) : Option FnA := if id = 102 then some fa_102 else if id = 94 then some fa_94 else if id = 103 then some fa_103 else none
theorem inlF_ok (id : Nat) (fa : FnA) (h : inlF id = some fa) : ∃ A, FnOk Try.prog id fa A := by
  unfold inlF at h
  split at h
  · rename_i e; subst e; injection h with h; subst h; exact ⟨_, fok_102⟩
  split at h
  · rename_i e; subst e; injection h with h; subst h; exact ⟨_, fok_94⟩
  split at h
  · rename_i e; subst e; injection h with h; subst h; exact ⟨_, fok_103⟩
  · cases h

set_option maxHeartbeats 4000000 in
theorem followsI_pc (u : List Int) (t : List (List Int)) (p q : List Int) (hu : Big u.length) (ht : BigR t) (hp : Big p.length) (hq : Big q.length) : PC Try.prog 47 [AL u t, IL p, IL q] none true (fun r _ => r = .bool (folM u t p q)) := by
  have hul := hu.le
  refine pcI inlF inlF_ok [fm_validAlgebraI, fm_validTermI, fm_repeatI, fm_valueOfI] 3 fok_47 ?_
  simp [fa_47]
  refine cutW (inlT_mono _ _ _ _) [(21, .bool (!(decide (VA u t) && decide (validT p) && decide (validT q))))] (by simp [callO3T, inlF, hu, ht, hp, hq]; grind) ?_
  cases hb : (decide (VA u t) && decide (validT p) && decide (validT q))
  · simp [folM, hb]
  simp only [Bool.and_eq_true, decide_eq_true_eq] at hb
  obtain ⟨⟨a, vp⟩, vq⟩ := hb
  have f := a.tf
  have h6 := f.lat.six
  have h1 := f.lat.pos
  simp
  refine cutE (α := Nat × Nat) (fun x => [(3, .iptr (AL u t)), (4, .iptr (IL p)), (5, .iptr (IL q)), (7, .ptr 56 x.1 0), (8, .ptr 64 x.2 0)]) (fun x => [⟨56, x.1, .cells [.bool true]⟩, ⟨64, x.2, .cells [I64 ((u.length : Int) - 1)]⟩]) (by simp [wrap64 (n := (u.length : Int) - 1) (by omega) (by omega)]) (fun x g0 => ?_)
  have eM : folM u t p q = (List.range (u.length ^ 3)).all fun j => folP u t p q (dig u.length 3 j) := by simp [folM, a, vp, vq]
  have lr : fm_repeatI.look [D.list 1 [D.int .i64 ((u.length : Int) - 1)], D.int .i64 3] = some (IO1 [(u.length : Int) - 1, (u.length : Int) - 1, (u.length : Int) - 1]) := fm_repeatI_look ((u.length : Int) - 1) 3 (by omega) (by omega)
  simp [lr, callO16 (C := CI inlF) (id := 102) (fa := fa_102) rfl, fa_102, callO3T, inlF, wrap64 (n := (u.length : Int) - 1) (by omega) (by omega), callO16 (C := CI inlF) (id := 94) (fa := fa_94) rfl]
  refine eachList_run (α := Bool) (n := u.length) (m := 3) h1 h6 (by omega) (fun b l => [⟨8064, g0, .arr 1 (ints l)⟩, ⟨56, x.1, .cells [.bool b]⟩, ⟨64, x.2, .cells [I64 ((u.length : Int) - 1)]⟩])
    (fun i b => b = (List.range i).all fun j => folP u t p q (dig u.length 3 j)) true (by simp [KL]) (by simp) (by simp) (by simp [KL]) (by simp) (fun i b tt g Q hi hP hQ => ?_) (fun b g hP => ?_)
  · have nm := dig3_ok h1 hi
    simp [callO16 (C := CI inlF) (id := 103) (fa := fa_103) rfl, fa_103]
    have e1 := all_succ (f := fun j => folP u t p q (dig u.length 3 j)) (i := i)
    cases b with
    | false =>
      simp [gops]
      refine hQ false _ _ _ ?_ (by simp) (by simp [KL])
      rw [e1, ← hP]; rfl
    | true =>
      have ef : folP u t p q (dig u.length 3 i) = (List.range (i + 1)).all fun j => folP u t p q (dig u.length 3 j) := by rw [e1, ← hP]; rfl
      have l1 : fm_valueOfI.look [AL u t, IL p, IL (dig u.length 3 i)] = some (I64 (ev1 u t (dig u.length 3 i) p).1) := fm_valueOfI_look u t p _ f nm hp vp.some
      have l2 : fm_valueOfI.look [AL u t, IL q, IL (dig u.length 3 i)] = some (I64 (ev1 u t (dig u.length 3 i) q).1) := fm_valueOfI_look u t q _ f nm hq vq.some
      have ef2 : folP u t p q (dig u.length 3 i) = (decide ((ev1 u t (dig u.length 3 i) p).1 ≠ (u.length : Int) - 1) || decide ((ev1 u t (dig u.length 3 i) q).1 = (u.length : Int) - 1)) := by simp [folP, badP]
      rw [ef] at ef2
      generalize (ev1 u t (dig u.length 3 i) p).1 = a1 at l1 ef2
      generalize (ev1 u t (dig u.length 3 i) q).1 = a2 at l2 ef2
      rcases Classical.em (a1 = (u.length : Int) - 1) with c | c
      · subst c
        simp [gops, callO3T, callDO3T, inlF, l1, l2]
        refine hQ (decide (a2 = (u.length : Int) - 1)) _ _ _ ?_ (by simp) (by simp [KL])
        rw [ef2]; simp
      · simp [gops, callO3T, callDO3T, inlF, l1, l2, eq_false c]
        refine hQ true _ _ _ ?_ (by simp) (by simp [KL])
        rw [ef2]; simp [c]
  · rw [eM, ← hP]
    simp
noncomputable def fm_followsI : Fam Try.prog := mkFam (X := List Int × List (List Int) × List Int × List Int) 47 true (fun (u, t, p, q) => [AL u t, IL p, IL q]) (fun (u, t, p, q) => (Big u.length) ∧ (BigR t) ∧ (Big p.length) ∧ (Big q.length)) (fun (u, t, p, q) => .bool (folM u t p q)) (by
  rintro ⟨u, t, p, q⟩ ⟨hu, ht, hp, hq⟩
  exact followsI_pc u t p q hu ht hp hq)
@[simp] theorem fm_followsI_id : fm_followsI.id = 47 := rfl
@[simp] theorem fm_followsI_fresh : fm_followsI.fresh = true := rfl
@[simp] theorem fm_followsI_look (u : List Int) (t : List (List Int)) (p q : List Int) (hu : Big u.length) (ht : BigR t) (hp : Big p.length) (hq : Big q.length) : fm_followsI.look [AL u t, IL p, IL q] = some (.bool (folM u t p q)) :=
  lookF_of (X := List Int × List (List Int) × List Int × List Int) (args := fun (u, t, p, q) => [AL u t, IL p, IL q]) (pre := fun (u, t, p, q) => (Big u.length) ∧ (BigR t) ∧ (Big p.length) ∧ (Big q.length)) (val := fun (u, t, p, q) => .bool (folM u t p q)) (by
  rintro ⟨u, t, p, q⟩ ⟨u', t', p', q'⟩ h
  simp at h
  try simp only [and_assoc] at h
  obtain ⟨rfl, rfl, rfl, rfl⟩ := h
  rfl) (u, t, p, q) ⟨hu, ht, hp, hq⟩
attribute [irreducible] fm_followsI
end Go.PS
end

section
-- The law of what follows.
set_option maxRecDepth 100000
set_option linter.unusedVariables false
set_option linter.unusedSimpArgs false
namespace Go.PS
open Go.Proofs

theorem FnExactFollows_pc (u : List Int) (t : List (List Int)) (p q : List Int) (hu : Hu u.length) (ht : HuR t) (hp : Hu p.length) (hq : Hu q.length) : PC Try.prog 10 [AL u t, IL p, IL q] none true (fun r _ => r = .bool true) := by
  refine pcT [fm_szAlgebra, fm_toAlgebra, fm_toIntS, fm_followsS, fm_followsI, fm_eqAlgebra, fm_eqIntS] fok_10 ?_
  simp [fa_10, hu, ht]
  intro h1 h2 h3
  have hp2 : Big p.length := by unfold Big; omega
  have hq2 : Big q.length := by unfold Big; omega
  have hb := sz_ok h3
  simp [hb.1, hb.2, hp2, hq2]

end Go.PS
end
